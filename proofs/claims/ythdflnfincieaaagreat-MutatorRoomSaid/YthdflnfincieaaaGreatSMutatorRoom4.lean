import Derived.Test.YthdflnfincieaaaGreatChecked
import Derived.Test.YthdflnfincieaaaGreatSMutatorRoom3
set_option linter.unusedSimpArgs false
set_option linter.unusedVariables false
set_option linter.defProp false
open Option renaming some→J,none→U
open Bool renaming true→xk,false→xw
open Go renaming undef→xy
open List renaming length→I
open Array renaming size→xz
open Go.World renaming heap→xj
open List renaming length→xq
open Array renaming size→xz
open Go.World renaming heap→xj
theorem Z2{p:Prop}(h:p:=by kernel_rfl):p:=h
section
namespace Vm
open Go Go.Proofs
def jF(P:Z6)(l:Zc)(t:Zd):(V5 P l).underlying t=P.underlying t:=Cx.ct {Q:=P,fs:=(V5 P l).funcs,gs:=#[],ρ:=id,n0:=0,G:=λ_=>False,O:=λ_=>False,KL:=λ_=>False,KD:=λ_=>False} t
def ZaP(P:Z6)(l:Zc)(t:Zd):(V5 P l).info? t=P.info? t:=Cx.dp {Q:=P,fs:=(V5 P l).funcs,gs:=#[],ρ:=id,n0:=0,G:=λ_=>False,O:=λ_=>False,KL:=λ_=>False,KD:=λ_=>False} t
def PJ(P:Z6)(l:Zc)(t:Zd)(w:Z3):(typeInfo t).run (V5 P l) w=(typeInfo t).run P w:=by
 unfold typeInfo;simp only[Ziu,ZjU,Zis,ZaP];cases P.info? t<;>simp only[stuck,Zkk,Sem.run]
def PL(P:Z6)(l:Zc)(t:Zd)(w:Z3):(underlying t).run (V5 P l) w=(underlying t).run P w:=by
 unfold underlying;simp only[Ziu,ZjU,Zis,jF];cases P.underlying t<;>simp only[stuck,Zkk,Sem.run]
def ZaR(P:Z6)(l:Zc)(t:Zd)(w:Z3):(Go.sizeOf t).run (V5 P l) w=(Go.sizeOf t).run P w:=by
 unfold Go.sizeOf;simp only[Ziu,PJ];cases(typeInfo t).run P w<;>simp only[Result.andThen,Zkk]
def ZaQ(P:Z6)(l:Zc)(t:Zd)(w:Z3):(isAgg t).run (V5 P l) w=(isAgg t).run P w:=by
 unfold isAgg;simp only[Ziu,PL];cases(underlying t).run P w with
 |ok d w'=>cases d<;>simp only[Zis,Zkk]
 |halt h w'=>simp only[Result.andThen]
def Pf(P:Z6)(t:Zd)(w:Z3):(zeroValue t).run P w=((typeInfo t).run P w).andThen λi w'=>match i.zero with|some v=>.ok v w'|none=>.halt (.unsupported (.resourceLimit "a value of more than 2^22 cells")) w':=by
 unfold zeroValue;rw[Ziu];refine ZiP _ (funext λi=>funext λw'=> ?_);cases i.zero with
 |none=>rfl
 |some v=>rfl
def ZaS(P:Z6)(l:Zc)(t:Zd)(w:Z3):(zeroValue t).run (V5 P l) w=(zeroValue t).run P w:=by
 rw[Pf,Pf,PJ]
def ZaO{P:Z6}{f:Zn}{fn:Func}(h:P.funcs[f]?=J fn)(hb:fn.body.isNone=xw)(hn:(fn.name== "runtime.NumGoroutine")=xw)(args:Za)(w:Z3):(callFunc f args).run P w=.ok (.enter f args) w:=by
 unfold callFunc;simp only[Ziu,ZjU,Zis,h,hb,hn,Zi2,ZiF];rfl
def zJ:List Nat:=[0,1,23,104,105,106,107,108,109,110,111,112,113,114,115,116,117,118,129]
noncomputable def xP:Program:=V5 Tryz.prog zJ
def ZcN{f:Nat}{fn:Func}(h:Tryz.prog.funcs[f]?=J fn)(e:zJ.contains f=xw):xP.funcs[f]?=J fn:=ZF h e
def YM{f:Zn}{fn:Func}(h:xP.funcs[f]?=J fn)(b:fn.body.isNone=xw)(n:(fn.name== "runtime.NumGoroutine")=xw):∀(args:Za) (w:Z3),(callFunc f args).run xP w=.ok (.enter f args) w:=ZaO h b n
@[simp]theorem ZcS(t:Zd):xP.underlying t=Tryz.prog.underlying t:=jF _ _ t
@[simp]theorem ZcQ(t:Zd)(w:Z3):(underlying t).run xP w=(underlying t).run Tryz.prog w:=PL _ _ t w
@[simp]theorem ZcP(t:Zd)(w:Z3):(Go.sizeOf t).run xP w=(Go.sizeOf t).run Tryz.prog w:=ZaR _ _ t w
@[simp]theorem ZcO(t:Zd)(w:Z3):(isAgg t).run xP w=(isAgg t).run Tryz.prog w:=ZaQ _ _ t w
@[simp]theorem ZcR(t:Zd)(w:Z3):(zeroValue t).run xP w=(zeroValue t).run Tryz.prog w:=ZaS _ _ t w
@[simp]theorem Z1z:xP.funcs[4]?=J Tryz.f4:=ZF Tryz.func4 rfl
@[simp]theorem Z1I:xP.funcs[5]?=J Tryz.f5:=ZF Tryz.func5 rfl
@[simp]theorem Z1P:xP.funcs[6]?=J Tryz.f6:=ZF Tryz.func6 rfl
@[simp]theorem Fe:xP.funcs[7]?=J Tryz.f7:=ZF Tryz.func7 rfl
@[simp]def ZcG:=YM Fe rfl rfl
@[simp]theorem Fh:xP.funcs[8]?=J Tryz.f8:=ZF Tryz.func8 rfl
@[simp]def ZcI:=YM Fh rfl rfl
@[simp]theorem EQ:xP.funcs[10]?=J Tryz.f10:=ZF Tryz.func10 rfl
@[simp]theorem Z1h:xP.funcs[11]?=J Tryz.f11:=ZF Tryz.func11 rfl
@[simp]theorem Z1j:xP.funcs[12]?=J Tryz.f12:=ZF Tryz.func12 rfl
@[simp]theorem Z1n:xP.funcs[13]?=J Tryz.f13:=ZF Tryz.func13 rfl
@[simp]theorem ET:xP.funcs[14]?=J Tryz.f14:=ZF Tryz.func14 rfl
@[simp]def Zci:=YM ET rfl rfl
@[simp]theorem EU:xP.funcs[15]?=J Tryz.f15:=ZF Tryz.func15 rfl
@[simp]def Zcj:=YM EU rfl rfl
@[simp]theorem EV:xP.funcs[16]?=J Tryz.f16:=ZF Tryz.func16 rfl
@[simp]def Zck:=YM EV rfl rfl
@[simp]theorem zI:xP.funcs[17]?=J Tryz.f17:=ZF Tryz.func17 rfl
@[simp]def Zcl:=YM zI rfl rfl
@[simp]theorem EW:xP.funcs[18]?=J Tryz.f18:=ZF Tryz.func18 rfl
@[simp]def Zcm:=YM EW rfl rfl
@[simp]theorem EX:xP.funcs[19]?=J Tryz.f19:=ZF Tryz.func19 rfl
@[simp]def Zcn:=YM EX rfl rfl
@[simp]theorem EY:xP.funcs[20]?=J Tryz.f20:=ZF Tryz.func20 rfl
@[simp]def Zco:=YM EY rfl rfl
@[simp]theorem EZ:xP.funcs[21]?=J Tryz.f21:=ZF Tryz.func21 rfl
@[simp]def Zcp:=YM EZ rfl rfl
@[simp]theorem Z1o:xP.funcs[22]?=J Tryz.f22:=ZF Tryz.func22 rfl
@[simp]theorem Z1p:xP.funcs[24]?=J Tryz.f24:=ZF Tryz.func24 rfl
@[simp]theorem jW:xP.funcs[25]?=J Tryz.f25:=ZF Tryz.func25 rfl
@[simp]def Zcq:=YM jW rfl rfl
@[simp]theorem F0:xP.funcs[26]?=J Tryz.f26:=ZF Tryz.func26 rfl
@[simp]def Zcr:=YM F0 rfl rfl
@[simp]theorem Z1q:xP.funcs[27]?=J Tryz.f27:=ZF Tryz.func27 rfl
@[simp]theorem Z1r:xP.funcs[28]?=J Tryz.f28:=ZF Tryz.func28 rfl
@[simp]theorem Z1s:xP.funcs[29]?=J Tryz.f29:=ZF Tryz.func29 rfl
@[simp]theorem Z1t:xP.funcs[30]?=J Tryz.f30:=ZF Tryz.func30 rfl
@[simp]theorem Z1u:xP.funcs[31]?=J Tryz.f31:=ZF Tryz.func31 rfl
@[simp]theorem Z1v:xP.funcs[32]?=J Tryz.f32:=ZF Tryz.func32 rfl
@[simp]theorem Z1w:xP.funcs[33]?=J Tryz.f33:=ZF Tryz.func33 rfl
@[simp]theorem Z1x:xP.funcs[34]?=J Tryz.f34:=ZF Tryz.func34 rfl
@[simp]theorem F1:xP.funcs[35]?=J Tryz.f35:=ZF Tryz.func35 rfl
@[simp]def Zcs:=YM F1 rfl rfl
@[simp]theorem F2:xP.funcs[36]?=J Tryz.f36:=ZF Tryz.func36 rfl
@[simp]def Zct:=YM F2 rfl rfl
@[simp]theorem Z1y:xP.funcs[37]?=J Tryz.f37:=ZF Tryz.func37 rfl
@[simp]theorem F3:xP.funcs[38]?=J Tryz.f38:=ZF Tryz.func38 rfl
@[simp]def Zcu:=YM F3 rfl rfl
@[simp]theorem F4:xP.funcs[39]?=J Tryz.f39:=ZF Tryz.func39 rfl
@[simp]def Zcv:=YM F4 rfl rfl
@[simp]theorem Z1A:xP.funcs[40]?=J Tryz.f40:=ZF Tryz.func40 rfl
@[simp]theorem F5:xP.funcs[41]?=J Tryz.f41:=ZF Tryz.func41 rfl
@[simp]def Zcw:=YM F5 rfl rfl
@[simp]theorem Z1B:xP.funcs[42]?=J Tryz.f42:=ZF Tryz.func42 rfl
@[simp]theorem Z1C:xP.funcs[43]?=J Tryz.f43:=ZF Tryz.func43 rfl
@[simp]theorem Z1D:xP.funcs[44]?=J Tryz.f44:=ZF Tryz.func44 rfl
@[simp]theorem Z1E:xP.funcs[45]?=J Tryz.f45:=ZF Tryz.func45 rfl
@[simp]theorem F6:xP.funcs[46]?=J Tryz.f46:=ZF Tryz.func46 rfl
@[simp]def Zcx:=YM F6 rfl rfl
@[simp]theorem Z1F:xP.funcs[47]?=J Tryz.f47:=ZF Tryz.func47 rfl
@[simp]theorem Z1G:xP.funcs[48]?=J Tryz.f48:=ZF Tryz.func48 rfl
@[simp]theorem Z1H:xP.funcs[49]?=J Tryz.f49:=ZF Tryz.func49 rfl
@[simp]theorem Z1J:xP.funcs[50]?=J Tryz.f50:=ZF Tryz.func50 rfl
@[simp]theorem Z1K:xP.funcs[51]?=J Tryz.f51:=ZF Tryz.func51 rfl
@[simp]theorem Z1L:xP.funcs[52]?=J Tryz.f52:=ZF Tryz.func52 rfl
@[simp]theorem Z1M:xP.funcs[53]?=J Tryz.f53:=ZF Tryz.func53 rfl
@[simp]theorem Z1N:xP.funcs[54]?=J Tryz.f54:=ZF Tryz.func54 rfl
@[simp]theorem Z1O:xP.funcs[55]?=J Tryz.f55:=ZF Tryz.func55 rfl
@[simp]theorem F7:xP.funcs[56]?=J Tryz.f56:=ZF Tryz.func56 rfl
@[simp]def Zcy:=YM F7 rfl rfl
@[simp]theorem jX:xP.funcs[57]?=J Tryz.f57:=ZF Tryz.func57 rfl
@[simp]def Zcz:=YM jX rfl rfl
@[simp]theorem F8:xP.funcs[58]?=J Tryz.f58:=ZF Tryz.func58 rfl
@[simp]def ZcA:=YM F8 rfl rfl
@[simp]theorem Fa:xP.funcs[59]?=J Tryz.f59:=ZF Tryz.func59 rfl
@[simp]def ZcB:=YM Fa rfl rfl
@[simp]theorem Fb:xP.funcs[60]?=J Tryz.f60:=ZF Tryz.func60 rfl
@[simp]def ZcC:=YM Fb rfl rfl
@[simp]theorem Fc:xP.funcs[61]?=J Tryz.f61:=ZF Tryz.func61 rfl
@[simp]def ZcD:=YM Fc rfl rfl
@[simp]theorem jY:xP.funcs[62]?=J Tryz.f62:=ZF Tryz.func62 rfl
@[simp]def ZcE:=YM jY rfl rfl
@[simp]theorem Fd:xP.funcs[63]?=J Tryz.f63:=ZF Tryz.func63 rfl
@[simp]def ZcF:=YM Fd rfl rfl
@[simp]theorem Z1Q:xP.funcs[64]?=J Tryz.f64:=ZF Tryz.func64 rfl
@[simp]theorem Z1R:xP.funcs[65]?=J Tryz.f65:=ZF Tryz.func65 rfl
@[simp]theorem Z1S:xP.funcs[66]?=J Tryz.f66:=ZF Tryz.func66 rfl
@[simp]theorem Z1T:xP.funcs[67]?=J Tryz.f67:=ZF Tryz.func67 rfl
@[simp]theorem Z1U:xP.funcs[68]?=J Tryz.f68:=ZF Tryz.func68 rfl
@[simp]theorem Z1V:xP.funcs[69]?=J Tryz.f69:=ZF Tryz.func69 rfl
@[simp]theorem Z1W:xP.funcs[70]?=J Tryz.f70:=ZF Tryz.func70 rfl
@[simp]theorem Z1X:xP.funcs[71]?=J Tryz.f71:=ZF Tryz.func71 rfl
@[simp]theorem Z1Y:xP.funcs[72]?=J Tryz.f72:=ZF Tryz.func72 rfl
@[simp]theorem Z1Z:xP.funcs[73]?=J Tryz.f73:=ZF Tryz.func73 rfl
@[simp]theorem Ff:xP.funcs[74]?=J Tryz.f74:=ZF Tryz.func74 rfl
@[simp]def ZcH:=YM Ff rfl rfl
@[simp]theorem Z20:xP.funcs[75]?=J Tryz.f75:=ZF Tryz.func75 rfl
@[simp]theorem Z21:xP.funcs[76]?=J Tryz.f76:=ZF Tryz.func76 rfl
@[simp]theorem Z22:xP.funcs[77]?=J Tryz.f77:=ZF Tryz.func77 rfl
@[simp]theorem Z23:xP.funcs[78]?=J Tryz.f78:=ZF Tryz.func78 rfl
@[simp]theorem Fg:xP.funcs[79]?=J Tryz.f79:=ZF Tryz.func79 rfl
@[simp]theorem Fi:xP.funcs[80]?=J Tryz.f80:=ZF Tryz.func80 rfl
@[simp]theorem Fj:xP.funcs[81]?=J Tryz.f81:=ZF Tryz.func81 rfl
@[simp]theorem Z24:xP.funcs[82]?=J Tryz.f82:=ZF Tryz.func82 rfl
@[simp]theorem Z25:xP.funcs[83]?=J Tryz.f83:=ZF Tryz.func83 rfl
@[simp]theorem Z26:xP.funcs[84]?=J Tryz.f84:=ZF Tryz.func84 rfl
@[simp]theorem Z27:xP.funcs[85]?=J Tryz.f85:=ZF Tryz.func85 rfl
@[simp]theorem Z28:xP.funcs[86]?=J Tryz.f86:=ZF Tryz.func86 rfl
@[simp]theorem Z29:xP.funcs[87]?=J Tryz.f87:=ZF Tryz.func87 rfl
@[simp]theorem Z2a:xP.funcs[88]?=J Tryz.f88:=ZF Tryz.func88 rfl
@[simp]theorem Z2b:xP.funcs[89]?=J Tryz.f89:=ZF Tryz.func89 rfl
@[simp]theorem Z2c:xP.funcs[90]?=J Tryz.f90:=ZF Tryz.func90 rfl
@[simp]theorem Z2d:xP.funcs[91]?=J Tryz.f91:=ZF Tryz.func91 rfl
@[simp]theorem Z2e:xP.funcs[92]?=J Tryz.f92:=ZF Tryz.func92 rfl
@[simp]theorem Z2f:xP.funcs[93]?=J Tryz.f93:=ZF Tryz.func93 rfl
@[simp]theorem Z2g:xP.funcs[94]?=J Tryz.f94:=ZF Tryz.func94 rfl
@[simp]theorem Fk:xP.funcs[95]?=J Tryz.f95:=ZF Tryz.func95 rfl
@[simp]def ZcJ:=YM Fk rfl rfl
@[simp]theorem Kl:xP.funcs[96]?=J Tryz.f96:=ZF Tryz.func96 rfl
@[simp]def ZcK:=YM Kl rfl rfl
@[simp]theorem Z2h:xP.funcs[97]?=J Tryz.f97:=ZF Tryz.func97 rfl
@[simp]theorem jZ:xP.funcs[98]?=J Tryz.f98:=ZF Tryz.func98 rfl
@[simp]def ZcL:=YM jZ rfl rfl
@[simp]theorem A0:xP.funcs[99]?=J Tryz.f99:=ZF Tryz.func99 rfl
@[simp]def ZcM:=YM A0 rfl rfl
@[simp]theorem ER:xP.funcs[100]?=J Tryz.f100:=ZF Tryz.func100 rfl
@[simp]theorem RO:xP.funcs[101]?=J Tryz.f101:=ZF Tryz.func101 rfl
@[simp]def Zcd:=YM RO rfl rfl
@[simp]theorem zH:xP.funcs[102]?=J Tryz.f102:=ZF Tryz.func102 rfl
@[simp]def Zce:=YM zH rfl rfl
@[simp]theorem ES:xP.funcs[103]?=J Tryz.f103:=ZF Tryz.func103 rfl
@[simp]def Zcf:=YM ES rfl rfl
@[simp]theorem Z1i:xP.funcs[119]?=J Tryz.f119:=ZF Tryz.func119 rfl
@[simp]theorem Kj:xP.funcs[121]?=J Tryz.f121:=ZF Tryz.func121 rfl
@[simp]def Zcg:=YM Kj rfl rfl
@[simp]theorem Kk:xP.funcs[122]?=J Tryz.f122:=ZF Tryz.func122 rfl
@[simp]def Zch:=YM Kk rfl rfl
@[simp]theorem Z1k:xP.funcs[123]?=J Tryz.f123:=ZF Tryz.func123 rfl
@[simp]theorem Z1l:xP.funcs[124]?=J Tryz.f124:=ZF Tryz.func124 rfl
@[simp]theorem Z1m:xP.funcs[126]?=J Tryz.f126:=ZF Tryz.func126 rfl
def Z2i:=(jF Tryz.prog zJ 3).trans Tryz.underlying3
def SZ:=(jF Tryz.prog zJ 28).trans Tryz.underlying28
def QS:Sub Tryz.prog xP:=ZaT Z2 Z2
end Vm
end
