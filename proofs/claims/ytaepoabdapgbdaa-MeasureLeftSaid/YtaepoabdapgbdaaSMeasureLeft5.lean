import Derived.RangeFuncNested
import Derived.RangeFuncBound
import Derived.LoopNIn
import Derived.LoopIn
import Derived.Shelf.RegionOpen
import Derived.RecoverIn
import Derived.Maps.OwnIn
import Derived.Test.YtaepoabdapgbdaaSMeasureLeft4
set_option linter.unusedSimpArgs false
set_option linter.unusedVariables false
set_option linter.defProp false
open Option renaming some→J,none→U
open Bool renaming true→xk,false→xw
open Go renaming undef→xy
open List renaming length→I
open Array renaming size→xz
open Go.World renaming heap→xj
open List renaming length→xq
open Array renaming size→xz
open Go.World renaming heap→xj
set_option maxHeartbeats 1000000
set_option maxRecDepth 100000
theorem ZgQ{p:Prop}(h:p:=by simp[XQ];omega):p:=h
theorem ZgE{p:Prop}(h:p:=by rw[cell_of_row _ _ _ _ _ _ d.out.2.1];rfl):p:=h
theorem Zgz{p:Prop}(h:p:=by have:=d.out.size;simp at this;omega):p:=h
theorem Zg5{p:Prop}(h:p:=by have:=heap_alloc_new (w.alloc<|.cells #[.int .i64 0,.int .i64 0,.int .i64 0,.bool xw,.int .u64 0] 120)<|.cells #[.int .i64 a,.int .i64 0,.int .i64 0,.bool xw,.int .u64 0] 120;simp_all):p:=h
theorem Zgq{p:Prop}(h:p:=by rw[cell_of_row _ _ _ _ _ _ n];rfl):p:=h
theorem Zgp{p:Prop}(h:p:=by rw[cell_of_row _ _ _ _ _ _ h];rfl):p:=h
theorem Zgr{p:Prop}(h:p:=by rw[cell_of_row _ _ _ _ _ _ u];rfl):p:=h
theorem Zgc{p:Prop}(h:p:=by rw[Zy _ (by omega) (by omega)];omega):p:=h
theorem Zgo{p:Prop}(h:p:=by rw[cell_of_row _ _ _ _ _ _ F];rfl):p:=h
def ZjR:=@List.findIdx?_cons
def ZhW:=@List.findIdx?_eq_some_iff_getElem
def Zkr:=@List.take_succ_cons
def Zjc:=@List.getElem?_eq_none_iff
def ZkA:=@List.pairwise_cons
def Zkh:=@Bool.false_or
def Zkn:=@Bool.eq_iff_iff
def ZjQ:=@Go.grownBy_putObj'
def Zia:=@Go.World.alloc_heap_new
def Zj3:=@Go.World.size_alloc
def Zjp:=@Go.World.putObj_heap_same
def ZhF:=@Go.World.putObj_heap_other
def ZjE:=@eq_false
def ZiN:=@Array.replicate_succ
def ZiO:=@Array.replicate_zero
def Zjh:=@List.push_toArray
def ZiV:=@List.append_toArray
def ZjA:=@eq_true
def Zj7:=@Go.callsIn_wide
def Zjm:=@Go.grownBy_setCell'
def Zke:=@Go.run_takeDeferred
def Zk3:=@List.filter_eq_nil_iff
def Zle:=@decide_true
def ZkB:=@decide_false
def ZiW:=@List.flatMap_append
def Zkf:=@List.drop_append
def Zjr:=@List.set_cons_zero
def ZjW:=@Nat.add_sub_cancel_left
def ZkK:=@List.flatMap_cons
def ZhO:=@List.getElem?_take_of_lt
def Zjy:=@List.mem_append_right
section
namespace Vm
open Go Go.Proofs
def XX{α:Type}(l:List<|Int×α)(k:Int)(v:α):List<|Int×α:=match l.findIdx? (·.1==k)with
 |some i=>l.set i (k,v)
 |none=>l++[(k,v)]
def Y5{α:Type}(l:List<|Int×α)(k:Int):Option α:=(l.find? (·.1==k)).map (·.2)
def Yh{α:Type}(f:α->V)(l:List<|Int×α):V:=.mp 0 (l.map λx=>vu x.1) (l.map λx=>f x.2)
def AE{α:Type}{k}:∀ {l:List (Int×α)},TC (vu k) (l.map λx=>vu x.1)=J (l.findIdx? (·.1==k))
 | []=>rfl
 |y::l=>by
  simp only[ZhA,TC,L1,ZjR];by_cases h:k=y.1;simp[h];have a:(k==y.1)=xw:=ZgU;have d:(y.1==k)=xw:=by simpa using ZiJ h
  simp[a,d,AE]
def KH{α:Type}{p}:∀ {l:List α},l.find? p=(l.findIdx? p).bind λi=>l[i]?
 | []=>rfl
 |x::l=>by
  rw[List.find?_cons,ZjR];cases h:p x;simp;rw[KH (l:=l)];cases l.findIdx? p<;>simp;simp
theorem Qr{α f}{l:List (Int×α)}{k z ok}:UE (.i .u64) (Yh f l) (vu k) z ok=match Y5 l k with
  |some x=>J (if ok then .am [f x,.bool xk]else f x)
  |none=>J (if ok then .am [z,.bool xw]else z):=by
 unfold UE Yh Y5;simp[Vg,AE,KH];grind [List.findIdx?_eq_some_iff_getElem]
def L6{α f l k}{x:α}:Td (.i .u64) (Yh f l) (vu k) (f x)=J (Yh f<|XX l k x):=by
 unfold Td Yh XX;simp[Vg,AE];cases h:l.findIdx? (·.1==k)with
 |none=>simp
 |some i=>
  let⟨d,g,_⟩:=ZhW.1 h;have a:(l[i]).1=k:=ZgT;simp only[ZgX,V.mp.injEq,true_and];constructor;rw[ZjL];apply ZiU;intro j;rw[List.getElem?_set];split;rename_i e;subst e;simp[d,a];rfl;rw[ZjL]
@[simp]theorem Zez{α}f(l:List<|Int×α):YS (Yh f l)=J (Yh f l):=rfl
@[simp]theorem ZcD{α}f(l:List<|Int×α):(Yh f l).cells=[Yh f l]:=rfl
@[simp]theorem ZeK{α}f(l:List<|Int×α):(Yh f l).one=xk:=rfl
@[simp]theorem Zep{α}f(l:List<|Int×α):Rh (Yh f l)=J (vi<|I l):=by simp[Yh]
def Jo{α l k j}{x:α}:Y5 (XX l k x) j=if k=j then J x else Y5 l j:=by
 unfold Y5 XX;cases h:l.findIdx? (·.1==k)with
 |none=>
  grind
 |some i=>
  let⟨d,o,a⟩:=ZhW.1 h;by_cases e:k=j;subst e;rw[Zhc rfl,KH];grind [List.findIdx?_eq_some_iff_getElem,List.getElem_set_ne];rw[Zh9 e,KH,KH];have:(l.set i (k,x)).findIdx? (·.1==j)=l.findIdx? (·.1==j):=by
   apply Option.ext;intro q;rw[ZhW,ZhW];constructor;grind;grind
  rw[this];cases f:l.findIdx? (·.1==j)with
  |none=>rfl
  |some q=>
   let⟨g,n,_⟩:=ZhW.1 f;grind
structure Ck where
 h:Hp
 o1:List Ob
 o2:List Ob
 o3:List Ob
 o4:List Ob
 pm:List<|Int×Int
 lm:List<|Int×(Int×Int)
def Ck.dv(s:Ck)(k:Int):List Ob:=if k=1 then s.o1 else if k=2 then s.o2 else if k=3 then s.o3 else s.o4
def ZV(s:Ck):List V:=[vu s.h.base,vi s.h.cap,vi s.h.to,.bool s.h.Y,vi s.h.Z,.sl<|s.h.H.map vu,.sl<|s.h.ab.map vu,.sl<|s.h.ah.map vu,.sl<|s.h.ak.map vu,.sl<|s.h.E.map vu,
 vu s.h.base,vi s.h.cap,vi s.h.to,vi<|I s.h.H,vi<|I s.h.ab,vi<|I s.h.ah,vi<|I s.h.ak,
 .sl (s.o1.map ZN),.sl<|s.o2.map ZN,.sl<|s.o3.map ZN,.sl<|s.o4.map ZN,Yh vi s.pm,Yh Wd s.lm]
def X8(s:Ck):V:=.ptr<|ZV s
def RL:IntKind.i64.wrap 0=0:=Zgg
def Tq:IntKind.i64.wrap 1=1:=Zgg
def U6:IntKind.i64.wrap 2=2:=Zgg
def Up:IntKind.i64.wrap 3=3:=Zgg
def Z0c{s:Ck}{k:Int}(a:1<=k/\k<=4):VC xP 85 xw [X8 s,vi k]<|.sl<|(Zx s.h k).map vu:=by
 refine ZQ Z1W follows Z2 c85 rfl ?_;have:k=1\/k=2\/k=3\/k=4:=Z0;obtain rfl|rfl|rfl|rfl:=this<;>simp[Nx,X8,ZV,Zx,Y8,RL,Tq,U6,Up]
def YQ(s:Ck)(w first last:Int):Bool:=decide (w=0)||(decide ((adr w).2=0)&&match Y5 s.pm (adr w).1 with
 |some k=>decide (first<=k)&&decide (k<=last)
 |none=>xw)
def Lu{s:Ck}{w first last:Int}(f:ZC w):VC xP 89 xw [X8 s,vu w,vi first,vi last]<|.bool<|YQ s w first last:=by
 refine ZQ Z20 follows Z2 c89 rfl ?_;unfold YQ;by_cases a:w=0;simp[Cp,a];simp[Cp,a,X8,ZV];refine Zz (Kl f) Z1 ?_;by_cases d:(adr w).2=0;case neg=>simp[d]
 simp[d,Qr];cases g:Y5 s.pm (adr w).1 with
 |none=>simp
 |some k=>
  simp_all
def WC(h:Hp)(k:Int):List (Int×Int)->List Ob->List (Int×Int)
 |m,[]=>m
 |m,o::l=>WC h k (XX m (Y1 (Zv h) k o.aa).1 k) l
def XB(h:Hp)(k:Int):List (Int×(Int×Int))->List Ob->List (Int×(Int×Int))
 |m,[]=>m
 |m,o::l=>XB h k (if k=1 then XX m (Y1 (Zv h) k o.aa).1 (o.size,o.M)else m) l
def Ck.put(s:Ck)(k:Int)(l:List Ob):Ck:=if k=1 then {s with o1:=l}else if k=2 then {s with o2:=l}else if k=3 then {s with o3:=l}else {s with o4:=l}
def XU(s:Ck)(k:Int)(l:List Ob):Ck:= {s.put k l with pm:=WC s.h k s.pm l,lm:=XB s.h k s.lm l}
def Le{h k}:∀ {l:List Ob} {i:Nat} {o:Ob} {m:List (Int×Int)},l[i]?=J o->WC h k m (l.take<|i+1)=XX (WC h k m<|l.take i) (Y1 (Zv h) k o.aa).1 k
 | [],_,_,_,h=>ZgD
 |x::l,0,o,m,h=>by simp_all[WC]
 |x::l,i+1,o,m,h=>by
  simp_all[Zkr,WC,Le]
def Lc{h k}:∀ {l:List Ob} {i:Nat} {o:Ob} {m:List (Int×(Int×Int))},l[i]?=J o->XB h k m (l.take<|i+1)=if k=1 then XX (XB h k m<|l.take i) (Y1 (Zv h) k o.aa).1 (o.size,o.M)else XB h k m (l.take i)
 | [],_,_,_,h=>ZgD
 |x::l,0,o,m,h=>by simp_all[XB]
 |x::l,i+1,o,m,h=>by
  simp_all[Zkr,XB,Lc]
abbrev zQ:List CK:=[.fz,.fz,.fz,.fz,.fz,.fz,.fz,.fz,.fz,.fz,.fz,.fz,.fz,.fz,.fz,.fz,.fz,.fz,.fz,.fz,.fz,.own 108,.own 109]
@[simp]theorem Z8o(s:Ck)k l:(s.put k l).h=s.h:=by
 unfold Ck.put;split;rfl;split;rfl;split<;>rfl
def qd{l k x}:Td (.i .u64) (Yh vi l) (vu k) (vi x)=J (Yh vi<|XX l k x):=L6
def qe{l k a b}:Td (.i .u64) (Yh Wd l) (vu k) (.agg [vi a,vi b])=J (Yh Wd<|XX l k (a,b)):=L6 (f:=Wd) (x:=(a,b))
def ql{s:Ck}(r:s.h.ok){k:Int}(w:1<=k/\k<=4){l:List Ob}(x:I l<=1000000):Vs xP 88 [.mem zQ,.fz,.fz] [.agg<|ZV s,vi k,.sl<|l.map ZN]<|.am [.am [],.agg<|ZV<|XU s k l]:=by
 refine K7 Z1Z follows Z2 c88 Z2 ?_;have t:k=1\/k=2\/k=3\/k=4:=Z0;have q:I l<=Y3:=by unfold Y3;omega
 have u:∀k,({s.put k l with pm:=s.pm,lm:=s.lm}:Ck)=s.put k l:=by
  intro k;unfold Ck.put;split;rfl;split;rfl;split<;>rfl
 have o:=λ(k at_:Int)=>Fi r.bb (part:=k) (at_:=at_);unfold Zv X3 at o;obtain rfl|rfl|rfl|rfl:=t
 .simp[Lp,ZV,Y8,UV,RL,Tq,U6,Up,setCells];refine VL 3 (I l) (λi=>[(0,.m<|ZV {s.put 1 l with pm:=WC s.h 1 s.pm<|l.take i,lm:=XB s.h 1 s.lm (l.take i)}),(3,.v<|vi i)]) (λ_=>True) (by simp[ZV,Ck.put,WC,XB]) Z1 trivial ?_;intro i p _;have d:=Zy ((i:Int)+1) Z0 Z0;by_cases a:i<I l
  .have f:l[i]?=J l[i]:=ZgY a;have g:=Le (h:=s.h) (k:=1) (m:=s.pm) f;have j:=Lc (h:=s.h) (k:=1) (m:=s.lm) f;have n:=o 1 (l[i]).aa;simp[a,f,d,ZV,X9];refine Zz n Z1 ?_;simp[qd,qe,g,j,d,a];first|done|rfl|exact⟨rfl,rfl⟩
  have:i=I l:=Z0;subst this;simp[ZV,XU,Zi9]
 .simp[Lp,ZV,Y8,UV,RL,Tq,U6,Up,setCells];refine VL 3 (I l) (λi=>[(0,.m<|ZV {s.put 2 l with pm:=WC s.h 2 s.pm<|l.take i,lm:=XB s.h 2 s.lm (l.take i)}),(3,.v<|vi i)]) (λ_=>True) (by simp[ZV,Ck.put,WC,XB]) Z1 trivial ?_;intro i p _;have d:=Zy ((i:Int)+1) Z0 Z0;by_cases a:i<I l
  .have f:l[i]?=J l[i]:=ZgY a;have g:=Le (h:=s.h) (k:=2) (m:=s.pm) f;have j:=Lc (h:=s.h) (k:=2) (m:=s.lm) f;have n:=o 2 (l[i]).aa;simp[a,f,d,ZV,X9];refine Zz n Z1 ?_;simp[qd,qe,g,j,d,a];first|done|rfl|exact⟨rfl,rfl⟩
  have:i=I l:=Z0;subst this;simp[ZV,XU,Zi9]
 .simp[Lp,ZV,Y8,UV,RL,Tq,U6,Up,setCells];refine VL 3 (I l) (λi=>[(0,.m<|ZV {s.put 3 l with pm:=WC s.h 3 s.pm<|l.take i,lm:=XB s.h 3 s.lm (l.take i)}),(3,.v<|vi i)]) (λ_=>True) (by simp[ZV,Ck.put,WC,XB]) Z1 trivial ?_;intro i p _;have d:=Zy ((i:Int)+1) Z0 Z0;by_cases a:i<I l
  .have f:l[i]?=J l[i]:=ZgY a;have g:=Le (h:=s.h) (k:=3) (m:=s.pm) f;have j:=Lc (h:=s.h) (k:=3) (m:=s.lm) f;have n:=o 3 (l[i]).aa;simp[a,f,d,ZV,X9];refine Zz n Z1 ?_;simp[qd,qe,g,j,d,a];first|done|rfl|exact⟨rfl,rfl⟩
  have:i=I l:=Z0;subst this;simp[ZV,XU,Zi9]
 .simp[Lp,ZV,Y8,UV,RL,Tq,U6,Up,setCells];refine VL 3 (I l) (λi=>[(0,.m<|ZV {s.put 4 l with pm:=WC s.h 4 s.pm<|l.take i,lm:=XB s.h 4 s.lm (l.take i)}),(3,.v<|vi i)]) (λ_=>True) (by simp[ZV,Ck.put,WC,XB]) Z1 trivial ?_;intro i p _;have d:=Zy ((i:Int)+1) Z0 Z0;by_cases a:i<I l
  .have f:l[i]?=J l[i]:=ZgY a;have g:=Le (h:=s.h) (k:=4) (m:=s.pm) f;have j:=Lc (h:=s.h) (k:=4) (m:=s.lm) f;have n:=o 4 (l[i]).aa;simp[a,f,d,ZV,X9];refine Zz n Z1 ?_;simp[qd,qe,g,j,d,a];first|done|rfl|exact⟨rfl,rfl⟩
  have:i=I l:=Z0;subst this;simp[ZV,XU,Zi9]
end Vm
namespace Vm
open Go Go.Proofs
def Vb(s:Ck):V:=.ptr [X8 s]
def Z9W{s:Ck}{a w:Int}(d:ZC w):VC xP 91 xw [vi a,vu w,Vb s]<|.bool<|YQ s w 1 2:=by
 refine ZQ Z22 follows Z2 c91 rfl ?_;have k:=Lu (s:=s) (first:=1) (last:=2) d;unfold Vb X8 at*;simp[NA,YS,V.one];refine Zz k Z1 ?_;simp
def Z9X{s:Ck}{a w:Int}(d:ZC w):VC xP 92 xw [vi a,vu w,Vb s]<|.bool<|decide (s.h.Z<=a)||YQ s w 1 2:=by
 refine ZQ Z23 follows Z2 c92 rfl ?_;have k:=Lu (s:=s) (first:=1) (last:=2) d;unfold Vb X8 at*;by_cases h:s.h.Z<=a;simp[Cq,YS,V.one,ZV,h];simp[Cq,YS,V.one,ZV,h];refine Zz k (by simp[ZV]) ?_;simp[h]
def ZaV{s:Ck}{a w:Int}(d:ZC w):VC xP 93 xw [vi a,vu w,Vb s]<|.bool<|decide (a<s.h.Z)||YQ s w 1 4:=by
 refine ZQ Z24 follows Z2 c93 rfl ?_;have k:=Lu (s:=s) (first:=1) (last:=4) d;unfold Vb X8 at*;by_cases h:a<s.h.Z;simp[Cr,YS,V.one,ZV,h];simp[Cr,YS,V.one,ZV,h];refine Zz k (by simp[ZV]) ?_;simp[h]
def Iy{s:Ck}{a w:Int}(d:ZC w):VC xP 94 xw [vi a,vu w,Vb s]<|.bool<|YQ s w 3 4:=by
 refine ZQ Z25 follows Z2 c94 rfl ?_;have k:=Lu (s:=s) (first:=3) (last:=4) d;unfold Vb X8 at*;simp[NB,YS,V.one];refine Zz k Z1 ?_;simp
structure Ck.ok (s:Ck):Prop where
 h:s.h.ok
 ob:∀k,∀o∈s.dv k,QZ (I<|Zx s.h k) o/\ZC o.target
 len:∀k,I (s.dv k)<=1000000
def U7(ws:List Int)(k:Nat):Int:=(ws[k]?).getD 0
def obQ(s:Ck)(k:Int)(q:Int->Int->Bool)(o:Ob):Bool:=o.gone||(List.range o.M.toNat).all λj=>q ((o.aa.toNat+1+j:Nat):Int)<|U7 (Zx s.h k)<|o.aa.toNat+1+j
def WV(s:Ck)(k:Int)(q:Int->Int->Bool):Bool:=(s.dv k).all<|obQ s k q
def Lt{s:Ck}(u:s.ok){k:Int}(W:1<=k/\k<=4){f:FuncId}{cs:List V}{q:Int->Int->Bool}(hq:∀a w,ZC w->VC xP f xw ([vi a,vu w]++cs) (.bool<|q a w)):
  VC xP 90 xw [X8 s,vi k,.cq f cs] (.bool<|WV s k q):=by
 refine ZQ Z21 follows Z2 c90 rfl ?_;simp[-List.all_eq_true,-List.all_eq_false,Nz];refine Zz (Z0c W) Z1 ?_;have Z:ZZ (.agg [.sl<|s.o1.map ZN,.sl<|s.o2.map ZN,.sl<|s.o3.map ZN,.sl<|s.o4.map ZN]) 0=J (.sl<|s.o1.map ZN):=rfl;have Q:=u.len k;have D:=u.ob k;have hw:=(XM u.h k).1;have Y:=(XM u.h k).2;have x:Y8 (.agg [.sl<|s.o1.map ZN,.sl<|s.o2.map ZN,.sl<|s.o3.map ZN,.sl<|s.o4.map ZN]) (.int .i64<|IntKind.i64.wrap<|k-1) 4 1 xk=J (.agg [.sl<|(s.dv k).map ZN]):=by
  have:k=1\/k=2\/k=3\/k=4:=Z0;obtain rfl|rfl|rfl|rfl:=this<;>simp[Y8,Ck.dv,RL,Tq,U6,Up]
 unfold WV;generalize hL:s.dv k=L at*;generalize S:Zx s.h k=r at*;simp[-List.all_eq_true,-List.all_eq_false,X8,ZV,x];refine jK 5 (I L) (λi=>(L.take i).all (obQ s k q)=xk) Z1 Z1 Z1 ?_;intro i hi O;have a0:=Zy ((i:Int)+1) Z0 Z0;by_cases l:i<I L;have M:L[i]?=J L[i]:=ZgY l;obtain⟨⟨⟨a,N,P⟩,F⟩,_⟩:=D _<|Zhm l;generalize L[i]=o at*;obtain⟨s1,s2,s3,s4⟩:=YD.1 F;obtain⟨m,R⟩:=Zhf s3;have G:=Zy ((a:Int)+1) Z0 Z0;have C:obQ s k q o=xk->(L.take<|i+1).all (obQ s k q)=xk:=λh=>by simp_all[Fq]
 have y:obQ s k q o=xw->L.all (obQ s k q)=xw:=λg=>Fp M g;cases z:o.gone;have t:obQ s k q o=(List.range m).all λj=>q ((a+1+j:Nat):Int)<|U7 r<|a+1+j:=by
  unfold obQ;rw[R,N,S,z];rfl
 simp[-List.all_eq_true,-List.all_eq_false,l,M,Yl M,X9,z,N,R];refine jK 11 m (λj=>((List.range j).all λj=>q ((a+1+j:Nat):Int)<|U7 r<|a+1+j)=xk) Z1 Z1 Z1 ?_;intro j hj T;have a1:=Zy ((j:Int)+1) Z0 Z0;by_cases A:j<m;obtain⟨w,d,hu⟩:∃w,r[a+1+j]?=J w/\ZC w:=⟨_,ZgY Z0,hw _<|Zhm _⟩;have K:U7 r (a+1+j)=w:=by unfold U7;rw[d];rfl
 have p:((List.range<|j+1).all λj=>q ((a+1+j:Nat):Int)<|U7 r<|a+1+j)=(((List.range j).all λj=>q ((a+1+j:Nat):Int)<|U7 r<|a+1+j)&&q ((a+1+j:Nat):Int) w):=by
  rw[Zji,List.all_append];simp[K]
 have g:q ((a+1+j:Nat):Int) w=xw->L.all (obQ s k q)=xw:=λg=>y (by
  grind)
 obtain⟨n,X⟩:∃n,a+1+j=n:=⟨_,rfl⟩;have B:(a:Int)+1+(j:Int)=(n:Int):=Z0;have H:=Zy (n:Int) Z0 Z0;rw[X]at d p g;have kq:=hq (n:Int) w hu;simp[-List.all_eq_true,-List.all_eq_false,A,G,B,H,d,Yl d,X9];refine Zz kq Z1 ?_;simp_all;have:j=m:=Z0;simp_all;have t:obQ s k q o=xk:=by unfold obQ;rw[z];rfl
 simp_all;have:i=I L:=Z0;simp_all
@[simp]theorem ZeS l:(V.ptr l).one=xk:=rfl
@[simp]theorem ZeH l:YS (.ptr l)=J (.ptr l):=rfl
@[simp]theorem ZeO f l:(V.cq f l).one=xk:=rfl
@[simp]theorem ZeD f l:YS (.cq f l)=J (.cq f l):=rfl
@[simp]theorem ZeC s:YS (X8 s)=J (X8 s):=rfl
@[simp]theorem ZeN s:(X8 s).one=xk:=rfl
@[simp]theorem Zfk s:To (X8 s)=J (.agg<|ZV s):=rfl
@[simp]theorem ZcU s:(ZV s)[4]?=J (vi s.h.Z):=rfl
@[simp]theorem ZcN s:(ZV s)[3]?=J (.bool s.h.Y):=rfl
@[simp]theorem ZcT s:(ZV s)[9]?=J (.sl<|s.h.E.map vu):=rfl
@[simp]theorem ZcR s:(ZV s)[5]?=J (.sl<|s.h.H.map vu):=rfl
@[simp]theorem ZcP s:(ZV s)[6]?=J (.sl<|s.h.ab.map vu):=rfl
@[simp]theorem ZcS s:(ZV s)[7]?=J (.sl<|s.h.ah.map vu):=rfl
@[simp]theorem ZcO s:(ZV s)[8]?=J (.sl<|s.h.ak.map vu):=rfl
@[simp]theorem ZcM s:(ZV s)[1]?=J (vi s.h.cap):=rfl
def QO(s:Ck):Bool:=s.h.E.all (λw=>YQ s w 1 2)&&(WV s 2 (λ_ w=>YQ s w 1 2)&&WV s 1 (λa w=>decide (s.h.Z<=a)||YQ s w 1 2))
def Z9Y{s:Ck}(n:s.ok):VC xP 77 xw [X8 s]<|.bool<|QO s:=by
 refine ZQ Z1P follows Z2 c77 rfl ?_;have k1:=Lt n (k:=2) Z0 (f:=91) (cs:=[Vb s]) (q:=λ_ w=>YQ s w 1 2) (λa w l=>Z9W l);have y:=Lt n (k:=1) Z0 (f:=92) (cs:=[Vb s]) (q:=λa w=>decide (s.h.Z<=a)||YQ s w 1 2) (λa w l=>Z9X l);have C:=λw (l:ZC w)=>Lu (s:=s) (first:=1) (last:=2) l;have A:=n.h.E;have t:=n.h.dm;unfold QO;unfold Vb at k1 y;generalize WV s 2 (λ_ w=>YQ s w 1 2)=z at*;generalize WV s 1 (λa w=>decide (s.h.Z<=a)||YQ s w 1 2)=D at*;simp[-List.all_eq_true,-List.all_eq_false,Nq];refine jK 3 (I s.h.E) (λi=>(s.h.E.take i).all (λw=>YQ s w 1 2)=xk) Z1 Z1 Z1 ?_;intro i F g;have u:=Zy ((i:Int)+1) Z0 Z0;by_cases j:i<I s.h.E;have o:s.h.E[i]?=J s.h.E[i]:=ZgY j;have B:=t _<|Zhm j;generalize s.h.E[i]=w at*;have p:YQ s w 1 2=xw->s.h.E.all (λw=>YQ s w 1 2)=xw:=λr=>Fp o r;have d:=Fq (q:=λw=>YQ s w 1 2) o;rw[g]at d;simp[-List.all_eq_true,-List.all_eq_false,j,o,Yl o,X9];refine Zz (C w B) Z1 ?_;cases x:YQ s w 1 2;simp[-List.all_eq_true,-List.all_eq_false,p x];rw[x]at d;simp[-List.all_eq_true,-List.all_eq_false,u,j,d];have:i=I s.h.E:=Z0;subst this;rw[ZiM]at g;simp[-List.all_eq_true,-List.all_eq_false,g];refine Zz k1 (by simp[WA,V.bi]) ?_;cases z;simp;simp;refine Zz y (by simp[WA,V.bi]) ?_;simp
def QR(s:Ck):Bool:=WV s 1 (λa w=>decide (a<s.h.Z)||YQ s w 1 4)
def ZaW{s:Ck}(d:s.ok):VC xP 78 xw [X8 s]<|.bool<|QR s:=by
 refine ZQ Z1Q follows Z2 c78 rfl ?_;have k1:=Lt d (k:=1) Z0 (f:=93) (cs:=[Vb s]) (q:=λa w=>decide (a<s.h.Z)||YQ s w 1 4) (λa w g=>ZaV g);unfold QR;unfold Vb at k1;simp[Nr];refine Zz k1 (by simp[WA,V.bi]) ?_;simp
def Qp(s:Ck):Bool:=WV s 3 (λ_ w=>YQ s w 3 4)&&WV s 4 (λ_ w=>YQ s w 3 4)
def Z5M{s:Ck}(g:s.ok):VC xP 79 xw [X8 s]<|.bool<|Qp s:=by
 refine ZQ Z1R follows Z2 c79 rfl ?_;have k1:=Lt g (k:=3) Z0 (f:=94) (cs:=[Vb s]) (q:=λ_ w=>YQ s w 3 4) (λa w d=>Iy d);have h:=Lt g (k:=4) Z0 (f:=94) (cs:=[Vb s]) (q:=λ_ w=>YQ s w 3 4) (λa w d=>Iy d);unfold Qp;unfold Vb at k1 h;generalize WV s 3 (λ_ w=>YQ s w 3 4)=j at*;generalize WV s 4 (λ_ w=>YQ s w 3 4)=l at*;simp[Ns];refine Zz k1 (by simp[WA,V.bi]) ?_;cases j;simp;simp;refine Zz h (by simp[WA,V.bi]) ?_;simp
end Vm
namespace Vm
open Go Go.Proofs
def R3(s:Ck):Bool:=ZI (Zv s.h)&&(decide (I s.h.E<=16)&&(decide (0<=s.h.Z)&&decide (s.h.Z<=I s.h.H)))
def Z2P{s:Ck}(f:s.h.ok):VC xP 73 xw [X8 s]<|.bool<|R3 s:=by
 refine ZQ Z1L follows Z2 c73 rfl ?_;have k:=LJ f.bb;unfold R3;unfold Zv X3 at k;simp[No];simp[ZV];refine Zz k Z1 ?_;have e:ZI {base:=s.h.base,cap:=s.h.cap,to:=s.h.to,H:=(I s.h.H:Int),ab:=(I s.h.ab:Int),ah:=(I s.h.ah:Int),ak:=(I s.h.ak:Int)}=ZI (Zv s.h):=rfl;rw[e];cases ZI (Zv s.h);simp;by_cases d:I s.h.E<=16;have a:(I s.h.E:Int)<=16:=Z0;simp_all;have a:¬(I s.h.E:Int)<=16:=Z0;simp[d,a]
def QI(s:Ck):Bool:=if s.h.Y then decide (s.h.Z<I s.h.H)else decide (I s.h.ah=0)&&(decide (I s.h.ak=0)&&decide (s.h.Z=I s.h.H))
def Z98{s:Ck}:VC xP 74 xw [X8 s]<|.bool<|QI s:=by
 refine ZQ Z1M follows Z2 c74 rfl ?_;unfold QI;cases f:s.h.Y;by_cases g:I s.h.ah=0;have a:s.h.ah=[]:=ZiR.1 g;by_cases j:I s.h.ak=0;have d:s.h.ak=[]:=ZiR.1 j;simp[Lo,f,a,d];have d:¬s.h.ak=[]:=λe=>j (by simp[e]);simp[Lo,f,a,j,d];have a:¬s.h.ah=[]:=λe=>g (by simp[e]);simp[Lo,f,g,a];simp[Lo,f]
def SP(s:Ck):Nat:=Yu s.o3+Yu s.o4
@[simp]theorem Zet s:((ZV s).drop 17).take 4=[.sl<|s.o1.map ZN,.sl<|s.o2.map ZN,.sl<|s.o3.map ZN,.sl<|s.o4.map ZN]:=rfl
@[simp]theorem ZcQ s:I (ZV s)=23:=rfl
def x3{s:Ck}(t:s.ok):VC xP 37 xw [X8 s]<|vi<|SP s:=by
 refine ZQ Z1s follows Z2 c37 rfl ?_;have p:∀k,∀o∈s.dv k,YC o.size o.M=xk:=λk o n=>(t.ob k o n).1.2;have K:I s.o3<=1000000:=t.len 3;have L:I s.o4<=1000000:=t.len 4;have a:∀o∈s.o3,YC o.size o.M=xk:=p 3;have d:∀o∈s.o4,YC o.size o.M=xk:=p 4;have F:=RS a;have G:=RS d;have A:Y8 (.agg [.sl<|s.o1.map ZN,.sl<|s.o2.map ZN,.sl<|s.o3.map ZN,.sl<|s.o4.map ZN]) (.int .i64 2) 4 1 xk=J (.agg [.sl<|s.o3.map ZN]):=by simp[Y8]
 have B:Y8 (.agg [.sl<|s.o1.map ZN,.sl<|s.o2.map ZN,.sl<|s.o3.map ZN,.sl<|s.o4.map ZN]) (.int .i64 3) 4 1 xk=J (.agg [.sl<|s.o4.map ZN]):=by simp[Y8]
 simp[N5];refine RQ (λ(i:Nat)=>[(2,.v<|vi ((if 0<i then Yu s.o3 else 0)+(if 1<i then Yu s.o4 else 0):Nat)),(3,.v<|vi ((i+3:Nat):Int))]) (λi=>i<=2) (XQ 3 5) 0 Z1 Z1 ?_;rintro i M;have q:i=0\/i=1\/i=2:=Z0;obtain rfl|rfl|rfl:=q;simp[U6,A];refine VL 5 (I s.o3) (λj=>[(2,.v<|vi<|Yu<|s.o3.take j),(5,.v<|vi j)]) (λ_=>True) (by simp[Yu]) (λi=>Z1) trivial ?_;rintro j H-;have w:=Zy ((j:Int)+1) Z0 Z0;by_cases h:j<I s.o3;have x:s.o3[j]?=J s.o3[j]:=ZgY h;have f:=a _<|Zhm h;have u:=Z0l x;generalize s.o3[j]=o at*;have r:Yu (s.o3.take j)<=256*I s.o3:=by
  refine Zhu (RS λo n=>a o<|Zi1 n) ?_;simp;omega
 obtain⟨g1,g2,C,D⟩:=YD.1 f;obtain⟨z,y⟩:=Zhf g1;have w1:=Zy (1+(z:Int)) Z0 Z0;have w2:=Zy ((Yu (s.o3.take j):Int)+(1+z)) Z0 Z0;cases l:o.gone;have g:V2 o=1+z:=by simp[V2,l,y]
 simp_all;have g:V2 o=0:=by simp[V2,l]
 simp_all;have:j=I s.o3:=Z0;subst this;rw[ZiM];simp[X9,Zy];exact⟨1,Z0,Z1,by simp[XQ]⟩;simp[Up,B];refine VL 5 (I s.o4) (λj=>[(2,.v<|vi (Yu s.o3+Yu (s.o4.take j):Nat)),(5,.v<|vi j)]) (λ_=>True) (by simp[Yu]) (λi=>Z1) trivial ?_;rintro j H-;have w:=Zy ((j:Int)+1) Z0 Z0;by_cases h:j<I s.o4;have x:s.o4[j]?=J s.o4[j]:=ZgY h;have f:=d _<|Zhm h;have u:=Z0l x;generalize s.o4[j]=o at*;have r:Yu (s.o4.take j)<=256*I s.o4:=by
  refine Zhu (RS λo n=>d o<|Zi1 n) ?_;simp;omega
 obtain⟨g1,g2,C,D⟩:=YD.1 f;obtain⟨z,y⟩:=Zhf g1;have w1:=Zy (1+(z:Int)) Z0 Z0;have w2:=Zy ((Yu s.o3:Int)+Yu (s.o4.take j)+(1+z)) Z0 Z0;cases l:o.gone;have g:V2 o=1+z:=by simp[V2,l,y]
 simp_all;omega;have g:V2 o=0:=by simp[V2,l]
 simp_all;have:j=I s.o4:=Z0;subst this;rw[ZiM];simp[X9,Zy];exact⟨2,Z0,Z1,by simp[XQ]⟩;simp[SP]
def QL(s:Ck):Bool:=decide ((I s.h.H:Int)+I s.h.ab+SP s<=s.h.cap)
def Zb4{s}(a:s.ok):SP s<=512*1000000:=by
 have f:=RS (l:=s.o3) λo d=>(a.ob 3 o d).1.2;have g:=RS (l:=s.o4) λo d=>(a.ob 4 o d).1.2;have h:I s.o3<=1000000:=a.len 3;have j:I s.o4<=1000000:=a.len 4;grind [SP]
def Z9d{s:Ck}(a:s.ok):VC xP 80 xw [X8 s]<|.bool<|QL s:=by
 refine ZQ Z1S follows Z2 c80 rfl ?_;have d:=Zb4 a;have f:=a.h.H;have g:=a.h.ab;have w1:=Zy ((I s.h.H:Int)+I s.h.ab) Z0 Z0;have w2:=Zy ((I s.h.H:Int)+I s.h.ab+SP s) Z0 Z0;simp[Nt];refine Zz (x3 a) Z1 ?_;simp[w1,w2,QL]
end Vm
namespace Vm
open Go Go.Proofs
def WM(lm:List<|Int×(Int×Int))(ws:List Int):Nat->Nat->List (Int×Int)->List (Int×Int)
 |0,_,a=>a
 |f+1,i,a=>
  match ws[i]? with
  |none=>a
  |some w=>if(adr w).2=0 then(match Y5 lm (adr w).1 with|none=>a|some sh=>WM lm ws f (i+1+sh.1.toNat)<|a++[sh])
   else if(ZR w).2.2=0 then WM lm ws f (i+1+(ZR w).1.toNat) a else a
def U5(lm:List<|Int×(Int×Int))(ws:List Int):List<|Int×Int:=WM lm ws (I ws+1) 0 []
def Hg{α l k}{x:α}(h:Y5 l k=J x):(k,x)∈l:=by
 obtain⟨y,a,rfl⟩:=Zh0.1 h;grind
def Z9Z{s:Ck}(D:∀x∈s.lm,YC x.2.1 x.2.2=xk){ws:List Int}(M:I ws<=1000000)(L:∀w∈ws,ZC w):
  VC xP 87 xw [X8 s,.sl<|ws.map vu] (.sl<|(U5 s.lm ws).map Wd):=by
 refine ZQ Z1Y follows Z2 c87 rfl ?_;have C:∀k,UE (.i .u64) (Yh Wd s.lm) (vu k) (.agg [vi 0,vi 0]) xk=match Y5 s.lm k with
  |some x=>J<|.am [Wd x,.bool xk]
  |none=>J<|.am [.agg [vi 0,vi 0],.bool xw]:=λk=>by grind [Qr,Y5]
 have B:(ZV s)[22]?=J (Yh Wd s.lm):=rfl;simp[Ny]
 refine RQ (λ(p:Nat×List (Int×Int))=>[(3,.v<|.sl<|p.2.map Wd),(4,.v<|vi p.1)])
  (λp=>p.1<=I ws+256/\I p.2<=p.1/\∃f,I ws<f+p.1/\0<f/\U5 s.lm ws=WM s.lm ws f p.1 p.2) (XQ 4<|I ws) (0,[]) Z1 ⟨Z1,Z1,I ws+1,Z1,Z0,rfl⟩ ?_
 rintro⟨i,g⟩ ⟨K,r,f,G,H,a⟩;simp only at K r G a;cases f with
 |zero=>omega
 |succ f=>
 by_cases d:i<I ws;have y:ws[i]?=J ws[i]:=ZgY d;have F:=L _<|Zhm d;generalize ws[i]=w at*;simp only[WM,y]at a;have u:I g+1<=Y3:=Zgt;simp[d,y,Yl y,X9];refine Zz (Kl F) Z1 ?_;by_cases A:(adr w).2=0;rw[Zhc A]at a;simp[A,B,C];cases t:Y5 s.lm (adr w).1 with
 |none=>
  simp_all
 |some q=>
  rw[t]at a;simp only at a;have h:0<=q.1/\q.1<=255/\0<=q.2/\q.2<=q.1:=YD.1<|D _<|Hg t;obtain⟨z,o⟩:=Zhf h.1;have l:=Zy (1+(z:Int)) Z0 Z0;have n:=Zy ((i:Int)+(1+z)) Z0 Z0;rw[o,Zhh]at a;simp[u,o,l,n];refine⟨i+1+z,g++[q],⟨Z0,Zg1,f,Z0,?_,a⟩,⟨by simp[Wd,o],Z0⟩,ZgQ⟩;omega
 rw[Zh9 A]at a;simp[A,y,Yl y,d,X9];refine Zz (PT F) Z1 ?_;by_cases j:(ZR w).2.2=0;rw[Zhc j]at a;have h:=YD.1<|DT j;obtain⟨z,o⟩:=Zhf h.1;have l:=Zy (1+(z:Int)) Z0 Z0;have n:=Zy ((i:Int)+(1+z)) Z0 Z0;rw[o,Zhh]at a;simp[j,o,l,n];refine⟨i+1+z,g,⟨Z0,Z0,f,Z0,?_,a⟩,⟨rfl,Z0⟩,ZgQ⟩;omega;simp_all;simp_all[ZhZ,WM]
end Vm
namespace Vm
open Go Go.Proofs
def Wy(pm:List<|Int×Int):List Ob->List (Int×Bool)->Option (List<|Int×Bool)
 | [],m=>J m
 |o::l,m=>if o.gone=xk then(if(Y5 pm o.target).getD 0=1/\(Y5 m o.target).getD xw=xw then Wy pm l (XX m o.target xk)else U)else Wy pm l m
def Q5(s:Ck):Bool:= !s.h.Y||match(Wy s.pm s.o3 []).bind (Wy s.pm s.o4)with
 |none=>xw
 |some m=>decide (I m=I s.o1)
def M5{l k x}:Td (.i .u64) (Yh .bool l) (vu k) (.bool x)=J (Yh .bool<|XX l k x):=L6
def Jz{l k}:UE (.i .u64) (Yh .bool l) (vu k) (.bool xw) xw=J (.bool<|(Y5 l k).getD xw):=by
 grind [Qr]
def JA{l k}:UE (.i .u64) (Yh vi l) (vu k) (vi 0) xw=J (vi<|(Y5 l k).getD 0):=by
 grind [Qr]
def Z6w{α}(f:α->V):Yh f []=.mp 0 [] []:=rfl
def Z3j{s:Ck}(t:s.ok):VC xP 76 xw [X8 s]<|.bool<|Q5 s:=by
 refine ZQ Z1O follows Z2 c76 rfl ?_;have K:I s.o3<=1000000:=t.len 3;have L:I s.o4<=1000000:=t.len 4;have A:∀o∈s.o3,ZC o.target:=λo z=>(t.ob 3 o z).2;have B:∀o∈s.o4,ZC o.target:=λo z=>(t.ob 4 o z).2;have G:Y8 (.agg [.sl<|s.o1.map ZN,.sl<|s.o2.map ZN,.sl<|s.o3.map ZN,.sl<|s.o4.map ZN]) (.int .i64 2) 4 1 xk=J (.agg [.sl<|s.o3.map ZN]):=by simp[Y8]
 have H:Y8 (.agg [.sl<|s.o1.map ZN,.sl<|s.o2.map ZN,.sl<|s.o3.map ZN,.sl<|s.o4.map ZN]) (.int .i64 3) 4 1 xk=J (.agg [.sl<|s.o4.map ZN]):=by simp[Y8]
 have F:Y8 (.agg [.sl<|s.o1.map ZN,.sl<|s.o2.map ZN,.sl<|s.o3.map ZN,.sl<|s.o4.map ZN]) (.int .i64 0) 4 1 xk=J (.agg [.sl<|s.o1.map ZN]):=by simp[Y8]
 have k:(ZV s)[21]?=J (Yh vi s.pm):=rfl;have y:=(Z6w V.bool).symm;unfold Q5;cases D:s.h.Y;simp[Co,D];simp[Co,D,y]
 refine RQ (λ(p:Nat×List (Int×Bool))=>[(3,.v<|Yh .bool p.2),(4,.v<|vi ((p.1+3:Nat):Int))])
  (λp=>(p.1=0/\p.2=[])\/(p.1=1/\Wy s.pm s.o3 []=J p.2)\/(p.1=2/\(Wy s.pm s.o3 []).bind (Wy s.pm s.o4)=J p.2)) (XQ 4 5) (0,[]) Z1 Z1 ?_
 rintro⟨i,m⟩ (⟨rfl,rfl⟩|⟨rfl,x⟩|⟨rfl,x⟩);simp[U6,G];refine RQ (λ(p:Nat×List (Int×Bool))=>[(3,.v<|Yh .bool p.2),(6,.v<|vi p.1)]) (λp=>p.1<=I s.o3/\Wy s.pm s.o3 []=Wy s.pm (s.o3.drop p.1) p.2) (XQ 6<|I s.o3) (0,[]) Z1 Z1 ?_;rintro⟨j,r⟩ ⟨w,a⟩;simp only at w a;have d:=Zy ((j:Int)+1) Z0 Z0;by_cases g:j<I s.o3;have f:s.o3[j]?=J s.o3[j]:=ZgY g;have u:=ZhV g;have C:=A _<|Zhm g;generalize s.o3[j]=o at*;rw[u,Wy]at a;cases l:o.gone;rw[l]at a;rw[Zh9 Z1]at a;simp[X9,g,f,Yl f,l,d];exact⟨j+1,r,⟨Z0,a⟩,⟨rfl,Z0⟩,ZgQ⟩;rw[l]at a;rw[Zhc rfl]at a;by_cases n:(Y5 s.pm o.target).getD 0=1;cases q:(Y5 r o.target).getD xw;rw[Zhc ⟨n,q⟩]at a;simp[X9,g,f,Yl f,l,d,k,JA,Jz,WA,V.bi,n,q,M5];exact⟨j+1,XX r o.target xk,⟨Z0,a⟩,⟨rfl,Z0⟩,ZgQ⟩;rw[Zh9 (by simp[q])]at a;simp[X9,g,f,Yl f,l,d,k,JA,Jz,WA,V.bi,n,q,a];rw[Zh9 (by simp[n])]at a;simp[X9,g,f,Yl f,l,d,k,JA,Jz,WA,V.bi,n,a];have:j=I s.o3:=Z0;subst this;rw[List.drop_length,Wy]at a;simp[Zy];exact⟨1,r,by simp[a],Z1,by simp[XQ]⟩;simp[Up,H];refine RQ (λ(p:Nat×List (Int×Bool))=>[(3,.v<|Yh .bool p.2),(6,.v<|vi p.1)]) (λp=>p.1<=I s.o4/\Wy s.pm s.o4 m=Wy s.pm (s.o4.drop p.1) p.2) (XQ 6<|I s.o4) (0,m) Z1 Z1 ?_;rintro⟨j,r⟩ ⟨w,a⟩;simp only at w a;have d:=Zy ((j:Int)+1) Z0 Z0;by_cases g:j<I s.o4;have f:s.o4[j]?=J s.o4[j]:=ZgY g;have u:=ZhV g;have C:=B _<|Zhm g;generalize s.o4[j]=o at*;rw[u,Wy]at a;cases l:o.gone;rw[l]at a;rw[Zh9 Z1]at a;simp[X9,g,f,Yl f,l,d];exact⟨j+1,r,⟨Z0,a⟩,⟨rfl,Z0⟩,ZgQ⟩;rw[l]at a;rw[Zhc rfl]at a;by_cases n:(Y5 s.pm o.target).getD 0=1;cases q:(Y5 r o.target).getD xw;rw[Zhc ⟨n,q⟩]at a;simp[X9,g,f,Yl f,l,d,k,JA,Jz,WA,V.bi,n,q,M5];exact⟨j+1,XX r o.target xk,⟨Z0,a⟩,⟨rfl,Z0⟩,ZgQ⟩;rw[Zh9 (by simp[q])]at a;simp[X9,g,f,Yl f,l,d,k,JA,Jz,WA,V.bi,n,q,x,a];rw[Zh9 (by simp[n])]at a;simp[X9,g,f,Yl f,l,d,k,JA,Jz,WA,V.bi,n,x,a];have:j=I s.o4:=Z0;subst this;rw[List.drop_length,Wy]at a;simp[Zy];exact⟨2,r,ZfZ,Z1,by simp[XQ]⟩;simp[RL,U6,F];grind
end Vm
namespace Vm
open Go Go.Proofs
def RX:Prop:=∀a:List Int,I a<=1000000->(∀w∈a,ZC w)->VC xP 84 xk [.sl<|a.map vu] (.am [.sl<|(ZO a [] xw).1.map ZN,vi (ZO a [] xw).2])
def RY:Prop:=∀(d:List Int) (a:List<|Int×Int),I d<=1000000->I a<=1000000->(∀w∈d,ZC w)->(∀x∈a,YC x.1 x.2=xk)->
 VC xP 86 xk [.sl<|d.map vu,.sl<|a.map Wd] (.am [.sl<|(ZO d a xk).1.map ZN,vi (ZO d a xk).2])
def Xq(s:Ck)(k:Int):List Ob×Int:=if k<=2 then ZO (Zx s.h k) [] xw else ZO (Zx s.h k) (U5 s.lm<|Zx s.h k) xk
def V1:List Int->Ck->Bool×Ck
 | [],s=>(xk,s)
 |k::l,s=>if(Xq s k).2=0 then V1 l (XU s k (Xq s k).1)else(xw,s)
def We(s:Ck):Bool×Ck:=V1 [1,2,3,4] s
def Qy s k l:(XU s k l).h=s.h:=Z8o s k l
def Z8l{α l k x}{y:Int×α}(h:y∈XX l k x):y=(k,x)\/y∈l:=by
 grind [XX]
def JG{h k}:∀ {l} {m:List (Int×(Int×Int))},(∀o∈l,YC o.size o.M=xk)->(∀x∈m,YC x.2.1 x.2.2=xk)->∀x∈XB h k m l,YC x.2.1 x.2.2=xk
 | [],m,_,a=>a
 |o::l,m,f,a=>by
  rw[XB];refine JG Zg0 ?_;split;intro x d;obtain rfl|d:=Z8l d;simp_all;grind;exact a
def zg{s}(a:s.h.ok){k}:(∀o∈(Xq s k).1,QZ (I<|Zx s.h k) o/\ZC o.target)/\(Xq s k).1.length<=I (Zx s.h k):=by
 unfold Xq;split;exact⟨K9 (XM a k).1,Ka⟩;exact⟨K9 (XM a k).1,Ka⟩
def Dr{lm ws}:∀ {f i} {a:List (Int×Int)},I a<=i->I a<=I ws->I (WM lm ws f i a)<=I ws
 |0,i,a,_,h=>h
 |f+1,i,a,j,h=>by
  rw[WM];cases g:ws[i]? with
  |none=>exact h
  |some w=>
   have d:=(ZgZ.1 g).1;simp only;split;split;exact h;exact Dr Zg1 Zg1;split;exact Dr Z0 h;exact h
def Pf{lm ws}:I (U5 lm ws)<=I ws:=Dr Z1 Z1
def js{lm ws}(d:∀x∈lm,YC x.2.1 x.2.2=xk):∀ {f i} {a:List (Int×Int)},(∀x∈a,YC x.1 x.2=xk)->∀x∈WM lm ws f i a,YC x.1 x.2=xk
 |0,i,a,h=>h
 |f+1,i,a,h=>by
  rw[WM];cases g:ws[i]? with
  |none=>exact h
  |some w=>
   simp only;split;split;exact h;rename_i k j;refine js d ?_;intro x g;obtain g|g:=Zht.1 g;grind;simp at g;subst g;exact d _<|Hg j;split;exact js d h;exact h
def jG:IntKind.i64.wrap 4=4:=Zgg
def Zbb(F:RX)(B:RY){s:Ck}(G:s.h.ok)(D:∀x∈s.lm,YC x.2.1 x.2.2=xk):Vs xP 75 [.mem zQ] [.agg<|ZV s]<|.am [.bool (We s).1,.agg<|ZV (We s).2]:=by
 refine K7 Z1N follows Z2 c75 Z2 ?_;simp[Np];refine RQ (λ(p:Nat×Ck)=>[(0,.m<|ZV p.2),(3,.v<|vi p.1)]) (λp=>p.1<=4/\p.2.h=s.h/\(∀x∈p.2.lm,YC x.2.1 x.2.2=xk)/\We s=V1 ([1,2,3,4].drop p.1) p.2) (XQ 3 4) (0,s) Z1 ⟨Z1,rfl,D,rfl⟩ ?_;rintro⟨i,q⟩ ⟨H,A,n,f⟩;simp only at H A n f;have d:q.h.ok:=A▸G;have C:i=0\/i=1\/i=2\/i=3\/i=4:=Z0;have j:=λk K=>Z0c (s:=q) (k:=k) K;have w:=λk=>Z9Z (s:=q) n (XM d k).2 (XM d k).1;obtain rfl|rfl|rfl|rfl|rfl:=C;replace j:=j 1 Z0;have st:=zg d (k:=1);have t:=ql (s:=q) d (k:=1) Z0 (l:=(Xq q 1).1)<|Zhu st.2 (XM d 1).2;have k1:=F _ (XM d 1).2 (XM d 1).1;have g:=JG (h:=q.h) (k:=1) (l:=(Xq q 1).1) (m:=q.lm) (λo y=>(st.1 o y).1.2) n;replace f:We s=V1 (1:: [2,3,4]) q:=f;rw[V1]at f;have r:Xq q 1=ZO (Zx q.h 1) [] xw:=rfl;rw[<-r]at k1;generalize Xq q 1=z at*;obtain⟨l,e⟩:=z;simp only at k1 t f g st;unfold X8 ZV at j;unfold ZV at t;simp[ZV,Tq,U6,Up,jG];refine Zz j Z1 ?_;simp;refine Zz k1 Z1 ?_;simp;by_cases u:e=0;rw[Zhc u]at f;simp[u];refine Ua t ?_;simp[Zy];exact⟨1,XU q 1 l,⟨Z0,by rw[Qy,A],λa b c h=>g (a,b,c) h,f⟩,⟨Z1,rfl⟩,by simp[XQ]⟩;simp_all;replace j:=j 2 Z0;have st:=zg d (k:=2);have t:=ql (s:=q) d (k:=2) Z0 (l:=(Xq q 2).1)<|Zhu st.2 (XM d 2).2;have k1:=F _ (XM d 2).2 (XM d 2).1;have g:=JG (h:=q.h) (k:=2) (l:=(Xq q 2).1) (m:=q.lm) (λo y=>(st.1 o y).1.2) n;replace f:We s=V1 (2:: [3,4]) q:=f;rw[V1]at f;have r:Xq q 2=ZO (Zx q.h 2) [] xw:=rfl;rw[<-r]at k1;generalize Xq q 2=z at*;obtain⟨l,e⟩:=z;simp only at k1 t f g st;unfold X8 ZV at j;unfold ZV at t;simp[ZV,Tq,U6,Up,jG];refine Zz j Z1 ?_;simp;refine Zz k1 Z1 ?_;simp;by_cases u:e=0;rw[Zhc u]at f;simp[u];refine Ua t ?_;simp[Zy];exact⟨2,XU q 2 l,⟨Z0,by rw[Qy,A],λa b c h=>g (a,b,c) h,f⟩,⟨Z1,rfl⟩,by simp[XQ]⟩;simp_all;replace j:=j 3 Z0;have st:=zg d (k:=3);have t:=ql (s:=q) d (k:=3) Z0 (l:=(Xq q 3).1)<|Zhu st.2 (XM d 3).2;have k1:=B _ (U5 q.lm<|Zx q.h 3) (XM d 3).2 (Zhu Pf (XM d 3).2) (XM d 3).1<|js n Z1;replace w:=w 3;have g:=JG (h:=q.h) (k:=3) (l:=(Xq q 3).1) (m:=q.lm) (λo y=>(st.1 o y).1.2) n;replace f:We s=V1 (3:: [4]) q:=f;rw[V1]at f;have r:Xq q 3=ZO (Zx q.h 3) (U5 q.lm<|Zx q.h 3) xk:=rfl;rw[<-r]at k1;generalize Xq q 3=z at*;obtain⟨l,e⟩:=z;simp only at k1 t f g st;unfold X8 ZV at j w;unfold ZV at t;simp[ZV,Tq,U6,Up,jG];refine Zz j Z1 ?_;simp;refine Zz j Z1 ?_;simp;refine Zz w Z1 ?_;simp;refine Zz k1 Z1 ?_;simp;by_cases u:e=0;rw[Zhc u]at f;simp[u];refine Ua t ?_;simp[Zy];exact⟨3,XU q 3 l,⟨Z0,by rw[Qy,A],λa b c h=>g (a,b,c) h,f⟩,⟨Z1,rfl⟩,by simp[XQ]⟩;simp_all;replace j:=j 4 Z0;have st:=zg d (k:=4);have t:=ql (s:=q) d (k:=4) Z0 (l:=(Xq q 4).1)<|Zhu st.2 (XM d 4).2;have k1:=B _ (U5 q.lm<|Zx q.h 4) (XM d 4).2 (Zhu Pf (XM d 4).2) (XM d 4).1<|js n Z1;replace w:=w 4;have g:=JG (h:=q.h) (k:=4) (l:=(Xq q 4).1) (m:=q.lm) (λo y=>(st.1 o y).1.2) n;replace f:We s=V1 (4:: []) q:=f;rw[V1]at f;have r:Xq q 4=ZO (Zx q.h 4) (U5 q.lm<|Zx q.h 4) xk:=rfl;rw[<-r]at k1;generalize Xq q 4=z at*;obtain⟨l,e⟩:=z;simp only at k1 t f g st;unfold X8 ZV at j w;unfold ZV at t;simp[ZV,Tq,U6,Up,jG];refine Zz j Z1 ?_;simp;refine Zz j Z1 ?_;simp;refine Zz w Z1 ?_;simp;refine Zz k1 Z1 ?_;simp;by_cases u:e=0;rw[Zhc u]at f;simp[u];refine Ua t ?_;simp[Zy];exact⟨4,XU q 4 l,⟨Z0,by rw[Qy,A],λa b c h=>g (a,b,c) h,f⟩,⟨Z1,rfl⟩,by simp[XQ]⟩;simp_all;replace f:We s=(xk,q):=f;simp[f,ZV]
end Vm
namespace Vm
open Go Go.Proofs
def Zb2{P f ks cs r}(hv:VC P f xw [.ptr cs] r)(G:r.bi=xk)(l:I cs=I ks)(u:cs.all V.one=xk)(D:ks.all (λk=> !(k==.gd))=xk):
  Vs P f [.mem ks] [.agg cs] (.am [r,.agg cs]):=by
 let⟨Q,R⟩:=hv;refine⟨Q,λB w h vs a S=> ?_⟩;let⟨a3,a2,C⟩:=S;let⟨tk,j,z⟩:=C 0 _ _ rfl rfl;simp only[Wr]at j;rw[Zhc l]at j;simp at j;subst j;let⟨b,O,T,q,M,hh,o⟩:=z;have n:∀(ks:List CK) cs,I cs=I ks->YH [] (((ks.zip cs).map λy=>(y.1,E.c y.2)).map (·.2))=J cs:=by
  intro ks;induction ks with
  |nil=>simp
  |cons k ks ih=>
   intro cs hl;obtain _|⟨c,cs⟩:=cs;simp at hl;simp_all
 have hz:eval [] (.pt U (((ks.zip cs).map λy=>(y.1,E.c y.2)).map (·.2)))=J (.ptr cs):=by
  simp only[eval,n ks cs l,Zhb,Lv,u,ZhY]
 have Y:Wv ((ks.zip cs).map λy=>(y.1,E.c y.2))=xw:=by
  rw[Wv,Zk5];intro x N;obtain⟨y,A,rfl⟩:=Zhl.1 N;have:=Zhd.1 D y.1 (List.of_mem_zip A).1;simpa using this
 have a1:=L4 (G':=λb=>h.F b\/∃t i,h.bl t i=J b) q hh o Y hz (λb d=>.inl d) λi b d=>.inr ⟨0,i,d⟩;refine ZjB (R w (λb=>h.F b\/∃t i,h.bl t i=J b) vs (λb d=> ?_) Z0 λi x N=> ?_) λe w' Z=> ?_;obtain d|⟨t,i,d⟩:=d;exact a.bo b d;exact(a.aq t i b d).2.1;grind;obtain⟨v,rfl,g,L⟩:=Z;have p:=g.size;have X:=λb d=>g.block b<|a.bo b d;have W:=λt i b d=>g.block b (a.aq t i b d).2.1;have K:O.size=I cs:=by
  have:=o.1;simp at this;omega
 refine⟨v,r,[.agg cs],h,rfl,g.mono a.base,λb d=>g.block b<|a.co b d,⟨Zhu a.base p,λb d=>Zh8 (a.bo b d) p,a.cr,a.fj,λt i b d=> ?_,a.inj,λb d=>Zh8 (a.co b d) p,a.cj,a.fk⟩,rfl,L.gm G,⟨rfl,λi k y H a0 A=> ?_⟩,rfl⟩;let⟨q1,q2,q3⟩:=a.aq t i b d;grind;cases i with
 |zero=>
  simp at H A;subst H;subst A;refine⟨.mem _,by rw[Wr,Zhc l],b,O,T,q,M,?_,o.keep X Z1 Z1 λi b d=>W 0 _ b d⟩;grind
 |succ i=>simp at H
end Vm
namespace Vm
open Go Go.Proofs
def Tl:List FuncId:=[73,74,75,76,77,78,79,80]
def AL(f:FuncId):V:=.agg [.fn f]
def Z9j:VC xP 55 xw []<|.sl<|Tl.map AL:=by
 refine ZQ Z1B follows Z2 c55 rfl ?_;simp[Ng,Tl,AL]
def SG(f:FuncId)(s:Ck):Bool×Ck:=
 if f=73 then(R3 s,s)else if f=74 then(QI s,s)else if f=75 then We s
 else if f=76 then(Q5 s,s)else if f=77 then(QO s,s)else if f=78 then(QR s,s)else if f=79 then(Qp s,s)else(QL s,s)
structure Ck.okk (s:Ck):Prop where
 ok:s.ok
 lm:∀x∈s.lm,YC x.2.1 x.2.2=xk
def Ck.lx(s:Ck)k l(a:1<=k/\k<=4)j:(s.put k l).dv j=if j=k\/(k=4/\¬(j=1\/j=2\/j=3))then l else s.dv j:=by
 have:k=1\/k=2\/k=3\/k=4:=Z0;obtain rfl|rfl|rfl|rfl:=this<;>simp[Ck.put,Ck.dv]<;>(split<;>simp_all)<;>(grind)<;>(grind)
def Z6O{s}(d:s.okk){k}(g:1<=k/\k<=4):(XU s k (Xq s k).1).okk:=by
 have st:=zg d.ok.h (k:=k);have l:=(XM d.ok.h k).2;have a:∀j,(XU s k (Xq s k).1).dv j=((s.put k (Xq s k).1).dv j):=λj=>rfl;refine⟨⟨by rw[Qy];exact d.ok.h,λj o f=> ?_,λj=> ?_⟩,JG (λo f=>(st.1 o f).1.2) d.lm⟩;rw[Qy];rw[a,Ck.lx _ _ _ g]at f;split at f;rename_i h;have:Zx s.h j=Zx s.h k:=by
  obtain rfl|⟨rfl,h⟩:=h;rfl;simp_all[Zln,Zx]
 simp_all;exact d.ok.ob j o f;rw[a,Ck.lx _ _ _ g];split;omega;exact d.ok.len j
def Z05:∀ {l} {s:Ck},(∀k∈l,1<=k/\k<=4)->s.okk->(V1 l s).2.okk/\(V1 l s).2.h=s.h
 | [],s,_,a=>⟨a,rfl⟩
 |k::l,s,d,a=>by
  rw[V1];split;simp_all[Z05,Z6O,Qy];simp_all
def Zb9{s}(a:s.okk):(We s).2.okk/\(We s).2.h=s.h:=Z05 Z1 a
def OM{s}(a:s.okk){f}:(SG f s).2.okk/\(SG f s).2.h=s.h:=by
 unfold SG;repeat' split
 all_goals first|exact⟨a,rfl⟩|exact Zb9 a
def Z9i(j:RX)(d:RY){s}(a:s.okk){f}(g:f∈Tl):Vs xP f [.mem zQ] [.agg<|ZV s]<|.am [.bool (SG f s).1,.agg<|ZV (SG f s).2]:=by
 have go:∀ {f b},VC xP f xw [X8 s] _->Vs xP f [.mem zQ] [.agg _] (.am [.bool b,.agg _]):=λh=>Zb2 h rfl rfl rfl rfl;simp[Tl,Zk0]at g;obtain rfl|rfl|rfl|rfl|rfl|rfl|rfl|rfl:=g;exact go<|Z2P a.ok.h;exact go Z98;exact Zbb j d a.ok.h a.lm;exact go<|Z3j a.ok;exact go<|Z9Y a.ok;exact go<|ZaW a.ok;exact go<|Z5M a.ok;exact go<|Z9d a.ok
def Qs:List FuncId->Ck->Option Ck
 | [],s=>J s
 |f::l,s=>if(SG f s).1=xk then Qs l (SG f s).2 else U
def XA(h:Hp):Ck:= {h:=h,o1:=[],o2:=[],o3:=[],o4:=[],pm:=[],lm:=[]}
def VB(h:Hp):Option Ck:=Qs Tl<|XA h
def Ij{h}(a:h.ok):(XA h).okk:=by
 have f:∀k,(XA h).dv k=[]:=λk=>by simp[XA,Ck.dv]
 refine⟨⟨a,λk o g=> ?_,λk=> ?_⟩,λx d=>(by simp[XA]at d)⟩;simp_all;simp_all
def BB(w:RX)(k:RY){h:Hp}(y:h.ok):VC xP 36 xw [ZD h]<|.am [match VB h with|some s=>X8 s|none=>.ls 0,.bool (VB h).isSome]:=by
 refine ZQ Z1r follows Z2 c36 rfl ?_;have k1:=Et (h:=h);have B:=Z9j;have a:I Tl=8:=rfl;unfold ZD at k1;simp[N4];refine Zz k1 Z1 ?_;simp[X3,Zv];refine Zz B Z1 ?_;simp;refine RQ (λ(p:Nat×Ck)=>[(5,.m<|ZV p.2),(6,.v<|vi p.1)]) (λp=>p.1<=8/\p.2.okk/\VB h=Qs (Tl.drop p.1) p.2) (XQ 6 8) (0,XA h) ZgR ⟨Z1,Ij y,rfl⟩ ?_;rintro⟨i,q⟩ ⟨z,n,g⟩;simp only at z n g;have o:=Zy ((i:Int)+1) Z0 Z0;by_cases d:i<I Tl;have t:Tl[i]?=J Tl[i]:=ZgY d;have x:=ZhV d;have A:=Zhm d;generalize Tl[i]=f at*;rw[x,Qs]at g;have u:=Z9i w k n A;have l:=(OM n (f:=f)).1;rw[a]at d;have j:(i:Int)<8:=Z0;simp[X9,d,j,t,Yl t,a,AL,ZV];unfold ZV at u;refine Ua u ?_;cases r:(SG f q).1;rw[Zh9 (by simp[r])]at g;simp[g];rw[Zhc r]at g;simp[o];exact⟨i+1,(SG f q).2,⟨Z0,l,g⟩,⟨Z1,Z0⟩,ZgQ⟩;have:i=8:=Z0;subst this;replace g:VB h=J q:=g;simp[a,g,ZV,X8]
def II:∀ {l} {s q:Ck},s.okk->Qs l s=J q->q.okk/\q.h=s.h
 | [],s,q,a,h=>by simp[Qs]at h;subst h;exact⟨a,rfl⟩
 |f::l,s,q,a,h=>by
  rw[Qs]at h;split at h;have d:=OM a (f:=f);have g:=II d.1 h;exact⟨g.1,Zg0⟩;cases h
def Z5U{h}(a:h.ok){q}(d:VB h=J q):q.okk/\q.h=h:=II (Ij a) d
def Z0y(d:RX)(a:RY){h:Hp}(f:h.ok):VC xP 17 xw [ZD h]<|.bool (VB h).isSome:=by
 refine ZQ EN follows Z2 c17 rfl ?_;simp[MU];refine Zz (BB d a f) Z1 ?_;simp
def Li(h:Hp)(k:Int):List Ob×Int:=match VB h with
 |some s=>if 1<=k/\k<=4 then(s.dv k,0)else([],1)
 |none=>([],1)
def Z0w(l:RX)(f:RY){h:Hp}(n:h.ok){k:Int}:VC xP 81 xw [ZD h,vi k]<|.am [.sl<|(Li h k).1.map ZN,vi (Li h k).2]:=by
 refine ZQ Fa follows Z2 c81 rfl ?_;simp[Nu];refine Zz (BB l f n) Z1 ?_;unfold Li;cases o:VB h with
 |none=>simp
 |some s=>
  by_cases g:1<=k;by_cases j:k<=4;have:k=1\/k=2\/k=3\/k=4:=Z0;obtain rfl|rfl|rfl|rfl:=this<;>simp[Y8,RL,Tq,U6,Up,Ck.dv];have a:¬k<1:=Z0;have d:4<k:=Z0;simp[g,j,a,d];have a:k<1:=Z0;simp[g,a]
def jH(h:Hp):Nat:=match VB h with
 |some s=>SP s
 |none=>0
def Z0A(f:RX)(a:RY){h:Hp}(d:h.ok):VC xP 18 xw [ZD h]<|vi<|jH h:=by
 refine ZQ Z1h follows Z2 c18 rfl ?_;simp[MV];refine Zz (BB f a d) Z1 ?_;unfold jH;cases g:VB h with
 |none=>simp
 |some s=>
  simp;refine Zz (x3 (Z5U d g).1.ok) Z1 ?_;simp
end Vm
end
section
namespace Vm
open Go Go.Proofs
structure Stands (ws:List Int) (old:Bool) (o:Ob):Prop where
 iz:0<=o.aa
 shape:YC o.size o.M=xk
 aw:o.aa+1+o.size<=I ws
 gl:XP ((ws.drop<|o.aa.toNat+1).take o.size.toNat) o.gone o.M 0=xk
 word:∃w,ws[o.aa.toNat]?=J w/\(if o.gone then old=xk/\(adr w).2=0/\o.target=(adr w).1 else(old=xk->¬(adr w).2=0)/\ZR w=(o.size,o.M,0)/\o.target=0)
def Tiles(ws:List Int)(old:Bool):Nat->List Ob->Prop
 |a,[]=>I ws<=a
 |a,o::l=>o.aa=a/\Stands ws old o/\Tiles ws old (a+1+o.size.toNat) l
def Z6S{ws shs old a g t w o}(k:ws[a]?=J w)(f:Wk shs old a g w=J (o,t))(h:¬(I ws:Int)<a+1+o.size)
  (j:¬XP ((ws.drop<|a+1).take o.size.toNat) o.gone o.M 0=xw):o.aa=a/\Stands ws old o:=by
 have d:=qo f;refine⟨d.2,?_,d.1,?_,?_,w,?_,?_⟩;omega;omega;simp_all;simp_all;unfold Wk at f;grind
def Z03{ws shs old}:∀f a j d l,Xp ws shs old f a j d=(l,0)->∃r,l=d++r/\Tiles ws old a r
 |0,_,_,_,_,h=>by simp[Xp]at h
 |f+1,a,j,d,l,h=>by
  unfold Xp at h;split at h;rename_i p;split at h;grind;simp[and_true]at h;subst h;exact⟨[],Z1,Zjc.1 p⟩;rename_i w x;split at h;grind;rename_i o t q;split at h;grind;rename_i k;split at h;grind;rename_i n;obtain⟨r,rfl,u⟩:=Z03 f _ _ _ _ h;have g:=Z6S x q k n;exact⟨o::r,Z1,g.1,g.2,u⟩
def SQ{ws shs old l}(h:ZO ws shs old=(l,0)):Tiles ws old 0 l:=by
 let⟨r,a,d⟩:=Z03 _ _ _ _ _ h;simp_all
def Tiles.bc{ws old}:∀ {a} {l:List Ob},Tiles ws old a l->∀o∈l,Stands ws old o/\a<=o.aa
 |_,[],_,_,h=>ZgD
 |a,o::l,h,x,d=>by
  obtain rfl|d:=Zho.1 d;exact⟨h.2.1,by rw[h.1];omega⟩;have:=Tiles.bc h.2.2 x d;grind
def Tiles.apart{ws old}:∀ {a} {l:List Ob},Tiles ws old a l->∀o∈l,∀q∈l,o=q\/o.aa+1+o.size<=q.aa\/q.aa+1+q.size<=o.aa
 |_,[],_,_,h,_,_=>ZgD
 |a,x::l,h,o,f,q,d=>by
  have e:=h.1;obtain rfl|f:=Zho.1 f;obtain rfl|d:=Zho.1 d;simp;have:=(Tiles.bc h.2.2 q d).2;omega;obtain d|d:=Zho.1 d;have:=(Tiles.bc h.2.2 o f).2;grind;exact Tiles.apart h.2.2 o f q d
structure RightH (h:Hp) (p:Pts):Prop where
 fb:Xm h=J p
 num:TP h=xk
 ok:SF h p=xk
 H:Tiles h.H xw 0 p.H
 ab:Tiles h.ab xw 0 p.ab
 ah:Tiles h.ah xk 0 p.ah
 ak:Tiles h.ak xk 0 p.ak
def Z99{h}(k:Yw h=xk):∃p,RightH h p:=by
 let⟨p,a,g,j⟩:=Z9a k;refine⟨p,a,j,g,?_,?_,?_,?_⟩;all_goals
  unfold Xm at a;dsimp only at a;split at a;cases a;split at a;cases a;rename_i c2;cases a;have c3:(ZO h.H [] xw).2=0/\(ZO h.ab [] xw).2=0:=by
   refine⟨Z0,Z0⟩
  have c4:∀x:Int,¬x≠0->x=0:=Z0;have f:=c4 _ (λd=>c2<|.inr<|.inr<|.inr d);first|exact SQ (ZjD rfl c3.1)|exact SQ (ZjD rfl c3.2)|exact SQ (ZjD rfl<|c4 _ (λd=>c2<|.inr<|.inr<|.inl d))|exact SQ<|ZjD rfl f
def RightH.an{h p}(r:RightH h p){k}(a:1<=k/\k<=4):Tiles (Zx h k) (decide (2<k)) 0<|p.at k:=by
 have:k=1\/k=2\/k=3\/k=4:=Z0;obtain rfl|rfl|rfl|rfl:=this;exact r.H;exact r.ab;exact r.ah;exact r.ak
def RightH.bb{h p}(r:RightH h p):ZI (Zv h)=xk:=by
 have:=r.num;simp_all[TP,Zh1]
def Y0(l:Ly)(k a:Int):Int:=2*(fstL l k+a)+1
theorem Ur{l}(d:ZI l=xk){k a}(f:0<=a):adr (Y0 l k a)=(fstL l k+a,0):=by
 have:=V5 d k;unfold adr Y0;grind
theorem SZ{l}(g:ZI l=xk){k a}(f:1<=k/\k<=4)(d:0<=a/\a<YR l k):Y1 l k a=(fstL l k+a,0):=by
 simp_all[Y1,Zh9]
theorem Jg{l}(g:ZI l=xk){k a}(j:1<=k/\k<=4)(d:0<=a/\a<YR l k):Yf l (fstL l k+a)=(k,a,0):=by
 have h:=XN.1 g;have n:=jE g;unfold Yf X2;have f:k=1\/k=2\/k=3\/k=4:=Z0;obtain rfl|rfl|rfl|rfl:=f;grind;simp[fstL,YR]at d⊢;grind;simp[fstL,YR]at d⊢;grind;simp[fstL,YR]at d⊢;grind
end Vm
namespace Vm
open Go Go.Proofs
def Hd{g}(a:ZI (Zv g)=xk):fwd g 0=(0,g,0):=by simp[fwd,a]
def D7{l}(f:ZI l=xk){k a}(d:0<=a):¬Y0 l k a=0:=by
 grind [Y0]
def fwd_here{g}(h:ZI (Zv g)=xk){k a:Int}(f:1<=k/\k<=2)(d:0<=a/\a< I (Zx g k)):fwd g (Y0 (Zv g) k a)=(Y0 (Zv g) k a,g,0):=by
 grind [Ur,Jg,Tn,fwd]
def fwd_gone{g}(d:ZI (Zv g)=xk){k}{a:Nat}(p:3<=k/\k<=4){u}(o:(Zx g k)[a]?=J u)(f:(adr u).2=0):fwd g (Y0 (Zv g) k a)=(u,g,0):=by
 have q:a< I (Zx g k):=ZfZ;have h:=D7 d (k:=k) (a:=a) Z0;have j:=Ur d (k:=k) (a:=a) Z0;have l:=Jg d (k:=k) (a:=a) Z0 (by rw[Tn Z0];omega);have n:(Zx g k).getD a 0=u:=by simp[o]
 unfold fwd;simp[-List.getD_eq_getElem?_getD,d,h,j,l,show ¬k<3 by omega,n,f]
def Yv(g:Hp)(k:Int)(a n:Nat):Hp:=Xk (Xr g k a n) k<|(zr (Zx g k) a n).set a<|Y0 (Zv g) 1<|I g.H
def JD{g k a n}(d:a+n<=I (Zx g k)):Zv (Xr g k a n)= {Zv g with H:=(I g.H+n:Nat)}:=by
 simp_all[Zv,Xr,Ly.mk.injEq,true_and,and_true]
theorem M3{g}(f:ZI (Zv g)=xk){k a n}(d:a+n<=I (Zx g k))(j:n<=Xu (Zv g)):ZI (Zv<|Xr g k a n)=xk:=by
 rw[JD d];have e:Xu (Zv g)=(Zv g).cap- (Zv g).H- (Zv g).ab:=by unfold Xu;rw[f];rfl
 have h:(Zv g).H=I g.H:=rfl;grind [XN]
def BR{g k}(f:3<=k/\k<=4){a n}(d:a+n<=I (Zx g k)):Zv (Yv g k a n)= {Zv g with H:=(I g.H+n:Nat)}:=by
 rw[<-JD d];apply Ea;rw[ZiY,jN];have:k=3\/k=4:=Z0;obtain rfl|rfl:=this<;>rfl
def Z6t{g}(j:ZI (Zv g)=xk){k}(f:3<=k/\k<=4){a n}(d:a+n<=I (Zx g k))(h:n<=Xu (Zv g)):ZI (Zv<|Yv g k a n)=xk:=by
 rw[BR f d,<-JD d];grind [M3]
def Z8T{g k}(d:3<=k/\k<=4){a n}(f:a+n<=I (Zx g k))j b:Y0 (Zv<|Yv g k a n) j b=Y0 (Zv g) j b:=by
 rw[BR d f];rfl
def fwd_wait{g}(h:ZI (Zv g)=xk){k a}(C:3<=k/\k<=4){u}(B:(Zx g k)[a]?=J u)(q:¬(adr u).2=0){n:Nat}{pt}(p:ZR u=((n:Int),pt,0))
  (j:a+(n+1)<=I (Zx g k)) (A:((n+1:Nat):Int)<=Xu (Zv g)):fwd g (Y0 (Zv g) k a)=(Y0 (Zv g) 1<|I g.H,Yv g k a<|n+1,0):=by
 have r:=D7 h (k:=k) (a:=a) Z0;have t:=Ur h (k:=k) (a:=a) Z0;have w:=Jg h (k:=k) (a:=a) Z0 (by grind [Tn]);have x:(Zx g k).getD a 0=u:=by simp[List.getD,B]
 have f:=M3 h j A;have y:Y1 (Zv<|Xr g k a<|n+1) 1 (I g.H)=(fstL (Zv g) 1+I g.H,0):=by
  have:=SZ f (k:=1) (a:=(I g.H:Int)) Z0 (by rw[JD j];simp[YR,ZhY];omega);rw[this,JD j];rfl
 have d:=V5 f 1;rw[JD j]at d;simp only[YR,ZhY]at d;have l:fstL {Zv g with H:=(I g.H+(n+1):Nat)} 1=fstL (Zv g) 1:=rfl;rw[l]at d;have z:Xn (fstL (Zv g) 1+I g.H)=(Y0 (Zv g) 1<|I g.H,0):=by
  unfold Xn Y0;rw[Zh9 Z0]
 unfold fwd;have o:¬k<3:=Z0;simp only[h,r,t,w,Zh9 o,ZjO,Zi0,Zli,ZkN,Zhh,x,q,p];unfold Sh;rw[Zh9 Z0,Zh9 Z0];simp[y,z];rfl
theorem Eh{ws a}:∀n j,j<a\/a+n<=j->(zr ws a n)[j]?=ws[j]?
 |0,_,_=>rfl
 |n+1,j,h=>by
  unfold zr;rw[Zi6 Z0];exact Eh n j Z0
def BU{g k}(o:3<=k/\k<=4){a n}(p:0<n){j}(l:3<=j/\j<=4){b}(h:j≠k\/b<a\/a+n<=b):(Zx (Yv g k a n) j)[b]?=(Zx g j)[b]? :=by
 have f:k=3\/k=4:=Z0;have d:j=3\/j=4:=Z0;obtain rfl|rfl:=f<;>obtain rfl|rfl:=d<;>simp[Yv,Xr,qJ]
 grind [Eh];grind [Eh]
def BS{g k}(l:3<=k/\k<=4){a n j}(h:3<=j/\j<=4):I (Zx (Yv g k a n) j)=I (Zx g j):=by
 have f:k=3\/k=4:=Z0;have d:j=3\/j=4:=Z0;obtain rfl|rfl:=f<;>obtain rfl|rfl:=d<;>simp[Yv,Xr]
def Z6s{g k}(h:3<=k/\k<=4){a n}(f:a+n<=I (Zx g k)):(Yv g k a n).H.length=I g.H+n/\(Yv g k a n).ab=g.ab:=by
 have d:k=3\/k=4:=Z0;obtain rfl|rfl:=d<;>simp[qJ]at f<;>simp[Yv,Xr]<;>omega
end Vm
namespace Vm
open Go Go.Proofs
def Dt{h ws low}:∀f i d l,V9 h ws low f i d=J l->∃r,l=d++r
 |0,_,_,_,a=>by simp[V9]at a
 |f+1,i,d,l,a=>by
  unfold V9 at a;split at a;cases a;exact⟨[],Z1⟩;split at a;split at a;cases a;let⟨r,g⟩:=Dt f _ _ _ a;exact⟨_,by rw[g,ZhM]⟩;split at a;exact Dt f _ _ _ a;cases a
def ju{h ws low}:∀f i d k,V9 h ws low f i d=J k->∀p g l,Xp ws k xk p i (I d) g=(l,0)->
  ∃r,l=g++r/\∀o∈r,o.gone=xk->∃q,YG h 1 low o.target=J q/\q.size=o.size/\q.M=o.M
 |0,_,_,_,j=>by simp[V9]at j
 |f+1,i,d,k,j=>by
  intro p g l a;cases p with
  |zero=>simp[Xp]at a
  |succ p=>
   unfold V9 at j;unfold Xp at a;cases x:ws[i]? with
   |none=>
    simp_all
   |some w=>
    simp[x]at j a;by_cases t:(adr w).2=0;simp[t,ZhY]at j;cases C:YG h 1 low (adr w).1 with
    |none=>simp_all
    |some q=>
     simp[C]at j;let⟨r,D⟩:=Dt _ _ _ _ j;have F:k[I d]?=J (q.size,q.M):=by rw[D];simp
     unfold Wk at a;rw[Zhc ⟨rfl,t⟩]at a;simp[F]at a;by_cases u:YC q.size q.M=xk;rw[Zhc u]at a;simp only at a;split at a;simp at a;split at a;simp at a;have n:I d+1=I (d++[(q.size,q.M)]):=Z1;rw[n]at a;let⟨G,z,A⟩:=ju f _ _ _ j _ _ _ a;grind;simp_all
    simp[t,Zi0]at j;by_cases y:(ZR w).2.2=0;simp[y,ZhY]at j;unfold Wk at a;rw[Zh9 (λB=>t B.2),Zhc y]at a;simp only at a;split at a;simp at a;split at a;simp at a;let⟨G,z,A⟩:=ju f _ _ _ j _ _ _ a;simp_all;simp_all
def RightH.ni{h p}(r:RightH h p){k}(D:3<=k/\k<=4){o}(d:o∈p.at k)(A:o.gone=xk):∃q∈p.H,YX h 1 q.aa=o.target/\q.size=o.size/\q.M=o.M:=by
 have a:=r.fb;unfold Xm at a;dsimp only at a;split at a;cases a;split at a;cases a
 have f:∀g x,x=VG h g (ZO h.H [] xw).1->¬x=U->(ZO g (x.getD []) xk).2=0->o∈(ZO g (x.getD []) xk).1->
   ∃q∈(ZO h.H [] xw).1,YX h 1 q.aa=o.target/\q.size=o.size/\q.M=o.M:=by
  intro g x C F n d;obtain _|j:=x;simp_all;simp[Zhw]at n d;let⟨H,l,t⟩:=ju _ _ _ _ C.symm _ [] (ZO g j xk).1<|ZjD rfl n;simp[ZhU]at l;rw[l]at d;let⟨q,B,G⟩:=t o d A;have:=Zkq B;grind [FJ]
 have u:¬VG h h.ah (ZO h.H [] xw).1=U:=Zg0;have w:¬VG h h.ak (ZO h.H [] xw).1=U:=Zg0;have y:(ZO h.ah ((VG h h.ah (ZO h.H [] xw).1).getD []) xk).2=0:=Z0;have z:(ZO h.ak ((VG h h.ak (ZO h.H [] xw).1).getD []) xk).2=0:=Z0;cases a;have:k=3\/k=4:=Z0;obtain rfl|rfl:=this;exact f _ _ rfl u y Zge;exact f _ _ rfl w z Zge
def Z0k{l o}(h:o∈l):V2 o<=Yu l:=by
 unfold Yu;induction l with
 |nil=>simp at h
 |cons x l a=>
  grind
def Zb6{p k}(a:3<=k/\k<=4){o}(h:o∈p.at k):V2 o<=YF p:=by
 have:k=3\/k=4:=Z0;unfold YF;obtain rfl|rfl:=this;have:=Z0k (l:=p.ah) h;omega;have:=Z0k (l:=p.ak) h;omega
def Z8S{l}(d:ZI l=xk){k j a b}(o:1<=k/\k<=4)(n:1<=j/\j<=4)(f:0<=a/\a<YR l k)(g:0<=b/\b<YR l j)(h:Y0 l k a=Y0 l j b):k=j/\a=b:=by
 have p:=Jg d o f;have q:=Jg d n g;have:fstL l k+a=fstL l j+b:=by unfold Y0 at h;omega
 simp_all
def Z0a{u a}(d:(adr u).2=0)(h:(adr u).1=a):u=2*a+1:=by
 unfold adr at d h;grind
def Fj{u}(h:(ZR u).2.2=0):¬(adr u).2=0:=by
 unfold ZR at h;split at h;rename_i a;unfold adr;grind;grind
end Vm
namespace Vm
open Go Go.Proofs
end Vm
end
section
namespace Vm
open Go Go.Proofs
def Tiles.order{ws old}:∀ {a} {l:List Ob},Tiles ws old a l->l.Pairwise λx y=>x.aa<y.aa
 |_,[],_=>.nil
 |a,o::l,h=>by
  refine .cons (λx d=> ?_)<|Tiles.order h.2.2;have:=(Tiles.bc h.2.2 x d).2;have:=h.1;omega
def DE{h}(f:ZI (Zv h)=xk){k}(d:1<=k/\k<=4){old o}(a:Stands (Zx h k) old o):YX h k o.aa=fstL (Zv h) k+o.aa:=by
 have:=YD.1 a.shape;have:=a.aw;have:=a.iz;grind [YX,SZ,Tn]
def Zav{h}(f:ZI (Zv h)=xk){k}(d:1<=k/\k<=4){old o}(a:Stands (Zx h k) old o):Yf (Zv h) (YX h k o.aa)=(k,o.aa,0):=by
 have:=YD.1 a.shape;have:=a.aw;have:=a.iz;rw[DE f d a];grind [Jg,Tn]
def Tiles.nd{h}(f:ZI (Zv h)=xk){k}(d:1<=k/\k<=4){old l}(a:Tiles (Zx h k) old 0 l):l.Pairwise λx y=>YX h k x.aa≠YX h k y.aa:=by
 refine List.Pairwise.imp_of_mem ?_ a.order;intro x y j n g;rw[DE f d (a.bc x j).1,DE f d (a.bc y n).1];omega
def Mf{h a}:∀ {l} {m:List (Int×(Int×Int))},(l.Pairwise λx y=>YX h 1 x.aa≠YX h 1 y.aa)->Y5 (XB h 1 m l) a=match YG h 1 l a with
  |some o=>J (o.size,o.M)
  |none=>Y5 m a
 | [],m,_=>rfl
 |o::l,m,f=>by
  let⟨g,d⟩:=ZkA.1 f;rw[XB,Mf d];unfold YG;cases j:l.find? (λo=>YX h 1 o.aa==a)with
  |some q=>
   grind
  |none=>
   simp[Jo];grind [YX,Zv]
def C2{h k}(a:¬k=1):∀ {l} {m:List (Int×(Int×Int))},XB h k m l=m
 | [],m=>rfl
 |o::l,m=>by simp_all[XB,C2]
def Ld{h k a}:∀ {l} {m:List (Int×Int)},Y5 (WC h k m l) a=if(YG h k l a).isSome=xk then J k else Y5 m a
 | [],m=>rfl
 |o::l,m=>by
  rw[WC,Ld];unfold YG;rw[Jo];by_cases f:YX h k o.aa=a;have d:(Y1 _ k o.aa).1=a:=f;have:(YX h k o.aa==a)=xk:=Zgi;simp[this,d];have d:¬(Y1 _ k o.aa).1=a:=f;have:(YX h k o.aa==a)=xw:=Zgi;simp[this,d]
def Ds{lm ws}:∀f i a,∃r,WM lm ws f i a=a++r
 |0,_,a=>⟨[],by simp[WM]⟩
 |f+1,i,a=>by
  rw[WM];cases ws[i]? with
  |none=>simp
  |some w=>
   simp only;split;split;simp;obtain⟨r,d⟩:=Ds (lm:=lm) (ws:=ws) f _ _;exact⟨_,by rw[d,ZhM]⟩;split;exact Ds f _ _;simp
def jq{lm h low}(j:∀a,Y5 lm a=(YG h 1 low a).map λo=>(o.size,o.M)){ws}:∀f i g k,V9 h ws low f i g=J k->WM lm ws f i g=k
 |0,_,_,_,d=>by simp[V9]at d
 |f+1,i,g,k,d=>by
  rw[V9]at d;rw[WM];cases q:ws[i]? with
  |none=>rw[q]at d;simpa using d
  |some w=>
   rw[q]at d;simp only at d⊢;by_cases l:(adr w).2=0;rw[Zhc l]at d⊢;rw[j];cases n:YG h 1 low (adr w).1 with
   |none=>rw[n]at d;cases d
   |some o=>rw[n]at d;exact jq j _ _ _ _ d
   rw[Zh9 l]at d⊢;by_cases p:(ZR w).2.2=0;rw[Zhc p]at d⊢;exact jq j _ _ _ _ d;rw[Zh9 p]at d;cases d
def jr{lm h low}(k:∀a,Y5 lm a=(YG h 1 low a).map λo=>(o.size,o.M)){ws}:∀f i d,0<f->I ws<f+i->V9 h ws low f i d=U->
  ∀l j,(Xp ws (WM lm ws f i d) xk l i (I d) j).2≠0
 |0,_,_,u,_,_=>Z0
 |f+1,i,d,u,D,g=>by
  intro l j;cases l with
  |zero=>simp[Xp]
  |succ l=>
   rw[V9]at g;rw[WM,Xp];cases t:ws[i]? with
   |none=>simp_all
   |some w=>
    have x:=(ZgZ.1 t).1;rw[t]at g;simp only at g⊢;by_cases p:(adr w).2=0;rw[Zhc p]at g⊢;rw[k];cases y:YG h 1 low (adr w).1 with
    |none=>
     simp[Option.map_none];have:Wk d xk i (I d) w=U:=by
      unfold Wk;rw[Zhc ⟨rfl,p⟩];simp
     rw[this];simp
    |some o=>
     rw[y]at g;simp[Zhs]at g⊢;let⟨r,z⟩:=Ds (lm:=lm) (ws:=ws) f (i+1+o.size.toNat)<|d++[(o.size,o.M)];have C:=jr k f _ _ Z0 Z0 g l;generalize WM lm ws f _ _=n at*;have A:n[I d]?=J (o.size,o.M):=by rw[z];simp
     unfold Wk;rw[Zhc ⟨rfl,p⟩,A];simp only;by_cases q:YC o.size o.M=xk;rw[Zhc q];simp only;split;simp;split;simp;simp_all;simp_all
    rw[Zh9 p]at g⊢;by_cases B:(ZR w).2.2=0;rw[Zhc B]at g⊢;have C:=jr k f _ d Z0 Z0 g l;generalize WM lm ws f _ d=n at*;unfold Wk;grind;simp_all[Wk]
structure Found (h:Hp) (s:Ck) (p:Pts):Prop where
 hp:s.h=h
 o1:s.o1=p.H
 o2:s.o2=p.ab
 o3:s.o3=p.ah
 o4:s.o4=p.ak
 pm:s.pm=WC h 4 (WC h 3 (WC h 2 (WC h 1 [] p.H) p.ab) p.ah) p.ak
def Zba{h}(C:ZI (Zv h)=xk):match Xm h with
  |some p=>(We<|XA h).1=xk/\Found h (We<|XA h).2 p
  |none=>(We<|XA h).1=xw:=by
 unfold We Xm;dsimp only;have D:Xq (XA h) 1=ZO h.H [] xw:=rfl;rw[V1,D];by_cases z:(ZO h.H [] xw).2=0;case neg=>simp_all
 rw[Zhc z];have B:Tiles h.H xw 0 (ZO h.H [] xw).1:=SQ (ws:=h.H) (shs:=[]) ZfZ;generalize (ZO h.H [] xw).1=d at*;have F:Xq (XU (XA h) 1 d) 2=ZO h.ab [] xw:=rfl;rw[V1,F];by_cases A:(ZO h.ab [] xw).2=0;case neg=>simp_all
 rw[Zhc A,Zh9 Z0];generalize (ZO h.ab [] xw).1=n at*;have f:∀a,Y5 (XB h 1 [] d) a=(YG h 1 d a).map λo=>(o.size,o.M):=by
  intro a;rw[Mf<|Tiles.nd C (k:=1) Z0 (by simpa using B)];cases YG h 1 d a<;>rfl
 have g:(XU (XU (XA h) 1 d) 2 n).lm=XB h 1 [] d:=C2 Z0;have G:Xq (XU (XU (XA h) 1 d) 2 n) 3=ZO h.ah (U5 (XB h 1 [] d) h.ah) xk:=by
  rw[<-g];rfl
 rw[V1,G];cases w:VG h h.ah d with
 |none=>
  have:=jr f _ 0 [] Z0 Z0 w (I h.ah+1) [];have q:¬(ZO h.ah (U5 _ h.ah) xk).2=0:=this;rw[Zh9 q,Zhc<|.inl rfl]
 |some shs=>
 have t:U5 _ h.ah=shs:=jq f _ _ _ _ w;rw[t];simp[Zhw];by_cases q:(ZO h.ah shs xk).2=0;case neg=>simp_all
 rw[Zhc q];generalize (ZO h.ah shs xk).1=y at*;have l:(XU (XU (XU (XA h) 1 d) 2 n) 3 y).lm=XB h 1 [] d:=by
  rw[<-g];exact C2 Z0
 have H:Xq (XU (XU (XU (XA h) 1 d) 2 n) 3 y) 4=ZO h.ak (U5 (XB h 1 [] d) h.ak) xk:=by
  rw[<-l];rfl
 rw[V1,H];cases x:VG h h.ak d with
 |none=>
  have:=jr f _ 0 [] Z0 Z0 x (I h.ak+1) [];have r:¬(ZO h.ak (U5 _ h.ak) xk).2=0:=this;rw[Zh9 r,if_pos Z1]
 |some j=>
 have u:U5 _ h.ak=j:=jq f _ _ _ _ x;rw[u];simp[Zhw];by_cases r:(ZO h.ak j xk).2=0;case neg=>simp_all
 rw[Zhc r,Zh9 ZfZ];exact⟨rfl,rfl,rfl,rfl,rfl,rfl,rfl⟩
end Vm
namespace Vm
open Go Go.Proofs
def Cv{h p}(a:Xm h=J p){k}(g:1<=k/\k<=4):Tiles (Zx h k) (decide (2<k)) 0<|p.at k:=by
 have:k=1\/k=2\/k=3\/k=4:=Z0;unfold Xm at a;dsimp only at a;split at a;cases a;split at a;cases a;rename_i c2;cases a;have c3:(ZO h.H [] xw).2=0/\(ZO h.ab [] xw).2=0:=by
  refine⟨Z0,Z0⟩
 have c4:∀x:Int,¬x≠0->x=0:=Z0;have f:=c4 _ (λd=>c2<|.inr<|.inr<|.inr d);obtain rfl|rfl|rfl|rfl:=this;exact SQ<|ZjD rfl c3.1;exact SQ<|ZjD rfl c3.2;exact SQ<|ZjD rfl<|c4 _ (λd=>c2<|.inr<|.inr<|.inl d);exact SQ<|ZjD rfl f
def Z7B{h p}(a:Xm h=J p){k}(C:3<=k/\k<=4){o}(d:o∈p.at k)(z:o.gone=xk):∃q∈p.H,YX h 1 q.aa=o.target/\q.size=o.size/\q.M=o.M:=by
 unfold Xm at a;dsimp only at a;split at a;cases a;split at a;cases a
 have f:∀g x,x=VG h g (ZO h.H [] xw).1->¬x=U->(ZO g (x.getD []) xk).2=0->o∈(ZO g (x.getD []) xk).1->
   ∃q∈(ZO h.H [] xw).1,YX h 1 q.aa=o.target/\q.size=o.size/\q.M=o.M:=by
  intro g x B D n d;obtain _|j:=x;simp_all;simp[Zhw]at n d;let⟨G,l,r⟩:=ju _ _ _ _ B.symm _ [] (ZO g j xk).1<|ZjD rfl n;simp[ZhU]at l;rw[l]at d;let⟨q,A,F⟩:=r o d z;have:=Zkq A;grind [FJ]
 have t:¬VG h h.ah (ZO h.H [] xw).1=U:=Zg0;have u:¬VG h h.ak (ZO h.H [] xw).1=U:=Zg0;have w:(ZO h.ah ((VG h h.ah (ZO h.H [] xw).1).getD []) xk).2=0:=Z0;have y:(ZO h.ak ((VG h h.ak (ZO h.H [] xw).1).getD []) xk).2=0:=Z0;cases a;have:k=3\/k=4:=Z0;obtain rfl|rfl:=this;exact f _ _ rfl t w Zge;exact f _ _ rfl u y Zge
theorem Z2u{h}(n:ZI (Zv h)=xk){p}(l:Xm h=J p){k}(d:1<=k/\k<=4){a}(j:(YG h k (p.at k) a).isSome=xk):∃b,Yf (Zv h) a=(k,b,0):=by
 let⟨o,f⟩:=Zi3.1 j;have g:YX h k o.aa=a:=by have:=Zkq f;simpa using this
 rw[<-g];exact⟨_,Zav n d ((Cv l d).bc o<|ZjG f).1⟩
def FL{h}(o:ZI (Zv h)=xk){p}(n:Xm h=J p){k j}(g:1<=k/\k<=4)(f:1<=j/\j<=4)(l:k≠j){a}(d:(YG h k (p.at k) a).isSome=xk):(YG h j (p.at j) a).isSome=xw:=by
 grind [Z2u]
section
variable {h:Hp}{s:Ck}{p:Pts}
def Found.dv(a:Found h s p){k}:s.dv k=p.at k:=by
 unfold Ck.dv Pts.at;rw[a.o1,a.o2,a.o3,a.o4]
def Found.ox(d:Found h s p)a:Y5 s.pm a=if(YG h 4 (p.at 4) a).isSome=xk then J 4 else if(YG h 3 (p.at 3) a).isSome=xk then J 3 else if(YG h 2 (p.at 2) a).isSome=xk then J 2 else if(YG h 1 (p.at 1) a).isSome=xk then J 1 else U:=by
 rw[d.pm,Ld,Ld,Ld,Ld];rfl
def Found.rr(q:Found h s p)(y:ZI (Zv h)=xk)(x:Xm h=J p)w:YQ s w 1 2=Xz h p w 1 2/\YQ s w 3 4=Xz h p w 3 4/\YQ s w 1 4=(Xz h p w 1 2||Xz h p w 3 4):=by
 unfold YQ Xz;by_cases n:w=0;simp[n];by_cases D:(adr w).2=0;case neg=>grind
 rw[q.ox];generalize (adr w).1=a;have o:=λk j t r u=>FL (k:=k) (j:=j) y x t r u (a:=a);have C:=o 4 2 Z0 Z0 Z0;have B:=o 4 1 Z0 Z0 Z0;have A:=o 3 2 Z0 Z0 Z0;have z:=o 3 1 Z0 Z0 Z0;clear o;generalize (YG h 1 _ a).isSome=d at*;generalize (YG h 2 _ a).isSome=f at*;generalize (YG h 3 _ a).isSome=g at*;generalize (YG h 4 _ a).isSome=l at*;cases d<;>cases f<;>cases g<;>cases l<;>simp_all
end
end Vm
namespace Vm
open Go Go.Proofs
def XG(l:List Ob):List Int:=(l.filter (·.gone)).map (·.target)
def Z8m{α l k}{x:α}(h:Y5 l k=U):I (XX l k x)=I l+1:=by
 grind [Y5,Option.map_eq_none_iff,XX]
def zS{pm}:∀ {l} {m:List (Int×Bool)} {K:List Int},K.Nodup->(∀a,Y5 m a=if a∈K then J xk else U)->I m=I K->
  match Wy pm l m with
  |some r=>(∀t∈XG l,(Y5 pm t).getD 0=1)/\(K++XG l).Nodup/\I r=I (K++XG l)/\∀a,Y5 r a=if a∈K++XG l then J xk else U
  |none=>¬((∀t∈XG l,(Y5 pm t).getD 0=1)/\(K++XG l).Nodup)
 | [],m,K,n,d,q=>by simp only[XG,List.filter_nil,Zis,Zim];exact⟨Z1,n,q,d⟩
 |o::l,m,K,n,d,q=>by
  rw[Wy];cases w:o.gone with
  |false=>
   have:XG (o::l)=XG l:=by simp[XG,w]
   rw[this];exact zS n d q
  |true=>
   rw[Zhc rfl];have h:XG (o::l)=o.target::XG l:=by simp[XG,w]
   rw[h];by_cases j:(Y5 pm o.target).getD 0=1;by_cases k:o.target∈K;rw[Zh9 (by rw[d,Zhc k];simp)];rintro⟨_,z⟩;exact(Zk6.1 z).2.2 _ k _ Z1 rfl;have g:Y5 m o.target=U:=by rw[d,Zh9 k]
   rw[Zhc ⟨j,by rw[g];rfl⟩]
   have f:=zS (pm:=pm) (l:=l) (m:=XX m o.target xk) (K:=K++[o.target]) (by
     rw[Zk6];refine⟨n,Z1,λa y b u=> ?_⟩;simp at u;subst u;intro e;subst e;exact k y) (λa=>by
     rw[Jo,d];by_cases e:o.target=a;simp[e];have x:¬a=o.target:=Z0;simp[e,x]) (by rw[Z8m g,q];simp)
   rw[ZhM]at f;cases p:Wy pm l _ with
   |none=>
    rw[p]at f;rintro⟨A,B⟩;exact f ⟨Zg0,B⟩
   |some r=>
    rw[p]at f;refine⟨λt h=> ?_,f.2⟩;obtain rfl|h:=Zho.1 h;exact j;exact f.1 t h
   rw[Zh9 (λp=>j p.1)];rintro⟨A,_⟩;exact j Zg0
def PG{l a}:XF l a=(XG l).count a:=by
 unfold XF XG;induction l with
 |nil=>rfl
 |cons o l d=>
  grind
def Z77{T S:List Int}(j:S.Nodup)(f:T⊆S):(T.Nodup/\I T=I S)↔ ∀a∈S,T.count a=1:=by
 constructor;rintro⟨d,n⟩ a k;by_cases o:a∈T;grind;have g:T⊆S.erase a:=ZfZ;have l:=d.length_le_of_subset g;grind;intro h;have d:T.Nodup:=ZfZ;refine⟨d,Nat.le_antisymm (d.length_le_of_subset f)<|j.length_le_of_subset λa k=> ?_⟩;grind
section
variable {h:Hp}{s:Ck}{p:Pts}
def Found.rj(f:Found h s p)(C:ZI (Zv h)=xk)(y:Xm h=J p):Q5 s=(!h.Y||p.H.all (RI h p)):=by
 have G:=Cv y (k:=1) Z0;have F:(p.H.map λo=>YX h 1 o.aa).Nodup:=by
  have:=Tiles.nd C (k:=1) Z0 G;rw[List.nodup_iff_pairwise_ne,List.pairwise_map];exact this
 have n:∀t∈XG s.o3++XG s.o4,t∈p.H.map λo=>YX h 1 o.aa:=by
  intro t d;have:∃k,(3<=k/\k<=4)/\t∈XG (p.at k):=by
   obtain d|d:=Zht.1 d;exact⟨3,Z0,by rw[f.o3]at d;exact d⟩;exact⟨4,Z0,by rw[f.o4]at d;exact d⟩
  let⟨k,x,d⟩:=this;simp[XG,Zhl,ZjT]at d;obtain⟨o,⟨r,L⟩,rfl⟩:=d;let⟨q,z,B,_⟩:=Z7B y x r L;exact Zhl.2 ⟨q,z,B⟩
 have N:∀t∈XG s.o3++XG s.o4,(Y5 s.pm t).getD 0=1:=by
  intro t d;let⟨q,z,B⟩:=Zhl.1<|n t d;have u:(YG h 1 (p.at 1) t).isSome=xk:=by
   unfold YG;rw[List.find?_isSome];exact⟨q,z,ZfZ⟩
  have o:=λk x M=>FL (k:=1) (j:=k) C y Z0 x M u;rw[f.ox,o 4 Z0 Z0,o 3 Z0 Z0,o 2 Z0 Z0,u];rfl
 unfold Q5;rw[f.hp];cases S:h.Y;rfl;simp[Zki,Zkh];have key:=Z77 F (T:=XG s.o3++XG s.o4) n;have g:p.H.all (RI h p)=xk↔ ∀a∈(p.H.map λo=>YX h 1 o.aa),(XG s.o3++XG s.o4).count a=1:=by
  rw[Zhd];constructor;intro A a H;obtain⟨o,r,rfl⟩:=Zhl.1 H;have:=A o r;simp[RI,Zhy,Tp,PG]at this;rw[List.count_append,f.o3,f.o4];exact this;intro A o r;have:=A _<|Zhl.2 ⟨o,r,rfl⟩;rw[List.count_append,f.o3,f.o4]at this;simp_all[RI,Tp,PG]
 rw[Zhv]at key;have w:=zS (pm:=s.pm) (l:=s.o3) (m:=[]) (K:=[]) Z1 (by simp[Y5]) rfl;simp only[ZhU]at w;rw[Zkn,g,<-key];cases u:Wy s.pm s.o3 []with
 |none=>
  grind
 |some m=>
  rw[u]at w;let⟨X,O,P,Q⟩:=w;simp[Zhb];have c2:=zS (pm:=s.pm) (l:=s.o4) (m:=m) (K:=XG s.o3) O Q P;cases D:Wy s.pm s.o4 m with
  |none=>
   simp_all
  |some W=>
   rw[D]at c2;let⟨Y,Z,R,r4⟩:=c2;simp[Zhy,R,f.o1];simp_all
end
end Vm
namespace Vm
open Go Go.Proofs
def Po:∀ {l} {a:Int} {i:Nat},XP l xk a i=xk->∀w∈l,w=0
 | [],_,_,_,w,d=>by simp at d
 |x::l,a,i,h,w,d=>by
  simp[XP,Zhy]at h;obtain rfl|d:=Zho.1 d;exact h.1.1;exact Po h.2 w d
def Lw{s k q}:WV s k q=xk↔ ∀o∈s.dv k,o.gone=xw->∀j,j<o.M.toNat->q ((o.aa.toNat+1+j:Nat):Int) (U7 (Zx s.h k)<|o.aa.toNat+1+j)=xk:=by
 unfold WV obQ;grind
def Z8j{h p}(u:Xm h=J p){k}(r:1<=k/\k<=4):WE h p k=xk↔ ∀o∈p.at k,o.gone=xw->∀j,j<o.M.toNat->Um h p k (o.aa.toNat+1+j)=xk:=by
 unfold WE qn;rw[Zhd];constructor;simp_all;intro x o t;rw[Zhd];intro j l;have l:=ZjH.1 l;cases q:o.gone;simp_all;have d:=((Cv u r).bc o t).1;have w:=YD.1 d.shape;have f:=d.gl;rw[q]at f;have g:=d.aw;have n:=d.iz;have a:o.aa.toNat+1+j< I (Zx h k):=Z0;have y:(Zx h k)[o.aa.toNat+1+j]?=J 0:=by
  rw[ZgY a];refine Zi8 J<|(Po f) _ ?_;rw[Zkc];refine⟨j,?_⟩;rw[ZhD,Zhc Z0,Zhx,ZgY a]
 grind [Xz,Um]
section
variable {h:Hp}{s:Ck}{p:Pts}
def Found.M(u:Found h s p)(K:ZI (Zv h)=xk)(G:Xm h=J p):(QO s&&(QR s&&Qp s))=(h.E.all (λw=>Xz h p w 1 2)&&WE h p 1&&WE h p 2&&WE h p 3&&WE h p 4):=by
 have g:=u.rr K G;have t:s.h.E.all (λw=>YQ s w 1 2)=h.E.all (λw=>Xz h p w 1 2):=by
  rw[u.hp];congr 1;funext w;exact(g w).1
 have l:=λk=>u.dv (k:=k);have r:∀k (q:Nat->Int->Bool) (F:1<=k/\k<=4),(∀a,Um h p k a=q a (U7 (Zx h k) a))->(WE h p k=xk↔ ∀o∈p.at k,o.gone=xw->∀j,j<o.M.toNat->q (o.aa.toNat+1+j) (U7 (Zx h k)<|o.aa.toNat+1+j)=xk):=by
  intro k q F H;rw[Z8j G F];simp[H]
 have p3:=r 3 (λ_ w=>Xz h p w 3 4) Z0 (λa=>by simp[Um,U7]);have p4:=r 4 (λ_ w=>Xz h p w 3 4) Z0 (λa=>by simp[Um,U7]);have L:=r 1 (λa w=>if h.Z<=a then Xz h p w 1 2||Xz h p w 3 4 else Xz h p w 1 2) Z0 (λa=>by simp[Um,U7]);have N:WV s 2 (λ_ w=>YQ s w 1 2)=xk↔WE h p 2=xk:=by
  rw[r 2 (λ_ w=>Xz h p w 1 2) Z0 (λa=>by simp[Um,U7]),Lw,l,u.hp];simp[(g _).1]
 have O:WV s 3 (λ_ w=>YQ s w 3 4)=xk↔WE h p 3=xk:=by
  rw[p3,Lw,l,u.hp];simp[(g _).2.1]
 have P:WV s 4 (λ_ w=>YQ s w 3 4)=xk↔WE h p 4=xk:=by
  rw[p4,Lw,l,u.hp];simp[(g _).2.1]
 have M:(WV s 1 (λa w=>decide (s.h.Z<=a)||YQ s w 1 2)=xk/\WV s 1 (λa w=>decide (a<s.h.Z)||YQ s w 1 4)=xk)↔WE h p 1=xk:=by
  rw[L,Lw,Lw,l,u.hp];simp only[(g _).1,(g _).2.2];constructor;rintro⟨C,D⟩ o A y j z;have C:=C o A y j z;have D:=D o A y j z;generalize o.aa.toNat+1+j=n at*;by_cases x:h.Z<=n;have:¬n<h.Z:=Z0;simpa[x,this]using D;simpa[x]using C;intro B;refine⟨λo A y j z=> ?_,λo A y j z=> ?_⟩;have B:=B o A y j z;generalize o.aa.toNat+1+j=n at*;by_cases x:h.Z<=n;simp[x];simpa[x]using B;have B:=B o A y j z;generalize o.aa.toNat+1+j=n at*;by_cases x:h.Z<=n;have:¬n<h.Z:=Z0;simpa[x,this]using B;have:n<h.Z:=Z0;simp[this]
 unfold QO QR Qp;rw[t,Zkn];simp[Zh1];rw[N,O,P,<-M];constructor;rintro⟨⟨a,b,c⟩,d,e,f⟩;exact⟨⟨⟨⟨a,c,d⟩,b⟩,e⟩,f⟩;rintro⟨⟨⟨⟨a,c,d⟩,b⟩,e⟩,f⟩;exact⟨⟨a,b,c⟩,d,e,f⟩
def Found.tj(a:Found h s p):QL s=decide ((I h.H:Int)+I h.ab+YF p<=h.cap):=by
 unfold QL SP YF;rw[a.hp,a.o3,a.o4]
end
def Z6R h:TP h=(R3 (XA h)&&QI (XA h)):=by
 grind [TP,R3,QI,XA,Zv]
def Bz h:(VB h).isSome=Yw h/\∀s,VB h=J s->∃p,Xm h=J p/\Found h s p:=by
 have k:VB h=(if R3 _=xk then if QI (XA h)=xk then if(We<|XA h).1=xk then
   if Q5 (We<|XA h).2=xk then if QO (We<|XA h).2=xk then if QR (We<|XA h).2=xk then if Qp (We<|XA h).2=xk then if QL (We<|XA h).2=xk then
    J (We<|XA h).2 else U else U else U else U else U else U else U else U):=rfl
 unfold Yw;rw[Z6R h];cases a:R3 _;simp_all;have g:ZI (Zv h)=xk:=by
  unfold R3 at a;simp[Zh1]at a;exact a.1
 cases j:QI _;simp_all;have l:=Zba g;cases f:Xm h with
 |none=>
  simp_all
 |some p=>
  rw[f]at l;let⟨q,d⟩:=l;rw[a,j,q]at k;simp at k;generalize (We _).2=s at*;have n:=d.M g f;have o:=d.tj;have r:SF h p=(Q5 s&&((QO s&&(QR s&&Qp s))&&QL s)):=by
   rw[d.rj g f,n,o];unfold SF;simp[Bool.and_assoc]
  grind
def Z5X h k:Li h k=UH h k:=by
 let⟨d,g⟩:=Bz h;unfold Li UH;cases f:VB h with
 |none=>
  simp_all
 |some s=>
  rw[f]at d;have a:Yw h=xk:=d.symm;let⟨p,l,j⟩:=g s f;simp[a,l,j.dv]
def Z61 h:(jH h:Int)=RM h:=by
 let⟨d,j⟩:=Bz h;unfold jH RM;cases g:VB h with
 |none=>
  simp_all
 |some s=>
  rw[g]at d;have a:Yw h=xk:=d.symm;let⟨p,k,f⟩:=j s g;simp[a,k];unfold SP YF;rw[f.o3,f.o4]
end Vm
end
section
namespace Vm
open Go Go.Proofs Go.RowKit
section
def EI{α:Type}(F:Fence)(n:Nat)(P:Z6)(g:Nat)(lb:Zb)(d:α->Array Value)(k:World->World->Prop)(S:List α->World->Prop)(o:List PanicEntry->List α->World->Prop)(N:Nat)(bt:Option Nat)(j:World->Prop)(w:Z3):Prop:=
 ∀(l:Nat) (p:List α->World->Prop) (W:Z3),Below (xz<|xj w) w W->(∀pre W,p pre W->j W)->(∀s A B row,p s A->A.grownBy B row->(∀r,row=J r->J r=bt)->p s B)->
  (∀pre x f,p pre f->I pre<N->YieldAt F (n-1) P l (d x) f λe a=>e=.returned (.bool xk)/\p (pre++[x]) a/\k f a)->
  p [] W->
  CallsIn F n P g (#[.func (.yield l) #[] #[]]++lb) W λe a=>(∃v h,e=.returned v/\S h a/\p h a)\/(∃chain pre,e=.panicked chain/\o chain pre a/\p pre a)
def Z8d{α:Type}(B:Nat)(d:World->World->Prop)(I:List α->World->Prop)(xs:List α)(W:Z3):Exit->Act->World->Prop
 |.normal,_,a=>KeepsFrom B W a/\d W a/\I xs a
 |_,_,_=>False
def OwnP{β:Type}(bt:Option Nat)(B:Nat)(I:β->World->Prop):Prop:=
 ∀s X Y row,I s X->X.grownBy Y row->(∀r,row=J r->J r=bt\/(B<=r/\∃o:Obj,X.heap[r]?=J o/\o.isCells=xw))->I s Y
def OwnP.putObj{β:Type}{bt:Option Nat}{B:Nat}{I:β->World->Prop}(h:OwnP bt B I){s:β}{W:Z3}{l:Nat}{o:Obj}(a:Obj)(d:I s W)(f:B<=l)(g:W.heap[l]?=J o)(j:o.isCells=xw):I s<|W.putObj l a:=
 h s W _ (J l) d (ZjQ W l a) (λr e=>Zg0)
def OwnP.alloc{β:Type}{bt:Option Nat}{B:Nat}{I:β->World->Prop}(h:OwnP bt B I){s:β}{W:Z3}(o:Obj)(a:I s W):I s<|W.alloc o:=
 h s W _ U a (Zij W o U) (λr e=>by cases e)
variable {F:Fence}{n:Nat}{P:Z6}
def Zbi{α:Type}{g:Operand}{ps:Array Tmp}{assign body:Code}{Q:Zh}{a:Act}{w:Z3}
  (d8:F.round=U) (h1:1<=n) {gf:Nat} {lb:Zb} (hg:a.eval g=.func (.func gf) #[] lb) (d9:F.fn gf) (eg:∀args w,(callFunc gf args).run P w=.ok (.enter gf args) w)
  {f:α->Array Value} {O:World->World->Prop} {S:List α->World->Prop} {Pp:List PanicEntry->List α->World->Prop} {N:Nat} {bt:Option Nat} {Ex:World->Prop} {w0:Z3} (a8:EI F (n-1) P gf lb f O S Pp N bt Ex w0)
  (b5:∀r,bt=J r->r<xz (xj w))
  (X:∀ {A B C:Z3},O A B->O B C->O A C) (a1:∀(W:Z3) (l:Nat) (o o':Obj),xz (xj w)<=l->W.heap[l]?=J o->o.isCells=xw->o.isWalk=xw->O W (W.putObj l o')) (a2:Below (xz<|xj w0) w0 w) (e0:∀x,(f x).size=ps.size)
  (I:List α->World->Prop) (hI:OwnP bt (xz<|xj w) I) (b0:∀pre W,I pre W->Ex W) (h0:I [] w) (hS:OwnP U (xz<|xj w) S) (Ax:α->Act->World->Prop) (a9:∀x G,OwnP U (xz<|xj w)<|λ(_:Unit) W=>Ax x G W)
  (q:∀(l:Nat) (pre:List α) (x:α) (W:Z3) (K:Zq),I pre W->(∀G W',KeepsFrom (xz<|xj w) W W'->O W W'->I pre W'->Ax x G W'->K G W')->
   assign.wpIn (F.inRound l) (n-1-1) P (Exit.then K<|λ_ _ _=>False) {tmps:=(ps.zip<|f x).foldl (λt (p,v)=>t.setIfInBounds p v) a.tmps,defers:=[]} W)
  (Y:∀(l:Nat) (pre:List α) (x:α) (G:Act) (W:Z3),I pre W->Ax x G W->xq pre<N->body.wpIn (F.inRound l) (n-1-1) P (Z8d (xz<|xj w) O I (pre++[x]) W) G W)
  (Z:∀(D:Nat) (xs:List α) (W:Z3),xz (xj w)<=D->S xs W->I xs W->W.heap[D]?=J (.deferred<|J [])->Q .normal {a with defers:= {target:=.collected D,args:=#[]}::a.defers} W)
  (M:∀(D:Nat) (chain:List PanicEntry) (pre:List α) (W:Z3),xz (xj w)<=D->Pp chain pre W->I pre W->W.heap[D]?=J (.deferred<|J [])->Q (.panic chain) {a with defers:= {target:=.collected D,args:=#[]}::a.defers} W):
  (Code.rangeFunc g ps assign body).wpIn F n P Q a w:=by
 refine wpIn_rangeFunc λfn b7=> ?_;rw[d8];obtain⟨d,z⟩:∃d:LoopState->Option Code->Loop,d=λst pe=> {state:=st,pending:=pe,fn,tmps:=a.tmps,params:=ps,assign,body,defers:=xz (xj w)}:=⟨_,rfl⟩;obtain⟨H,L⟩:∃H,(w.alloc<|.deferred<|J []).alloc (.loop<|d .ready U)=H:=⟨_,rfl⟩;have b2:H.heap[xz (xj w)+1]?=J (.loop<|d .ready U):=by
  have:=Zia (w.alloc<|.deferred<|J [])<|.loop<|d .ready U;rw[Zj3]at this;rw[<-L];exact this
 have b1:H.heap[xz<|xj w]?=J (.deferred<|J []):=by
  rw[<-L];exact(Zh4 _ _ _ Z1).trans (Zia w _)
 have b4:Below (xz<|xj w0) w0 H:=by
  rw[<-L];exact a2.trans<|(((Zhi _ w).alloc (Zh3 _) _).alloc Z1 _).mono a2.size
 refine⟨xz (xj w)+1,[{target:=.collected<|xz<|xj w,args:=#[]}],H,{target:=.fn (.func gf) lb,args:=#[.func (.yield<|xz (xj w)+1) #[] #[]]},H,gf,
  #[.func (.yield<|xz (xj w)+1) #[] #[]]++lb,H,?_,?_,?_,?_,λ_=>h1,?_⟩
 simp_all[run_enterLoop_outer]
 .simp only[resolve,hg];simp[go_sem]
 simp_all[Target.leads];simp_all[invoke];have T:∀ {A B:Z3} {row:Option Nat} {k:Nat} {o:Obj},A.grownBy B row->(∀r,row=J r->J r=bt)->xz (xj w)<=k->A.heap[k]?=J o->B.heap[k]?=J o:=by
  intro A B row k o u hr hk ho;refine(u.block k (Zh6.1 ho).1 λe=> ?_).trans ho;have:=b5 k (hr k e.symm).symm;omega
 refine(a8 (xz (xj w)+1) (λpre W=>I pre W/\W.heap[xz (xj w)+1]?=J (.loop<|d .ready U)/\W.heap[xz<|xj w]?=J (.deferred<|J [])) H b4 (λpre W h=>b0 pre W h.1)
  (λs A B row hs u hr=>⟨hI s A B row hs.1 u (λr e=>.inl<|hr r e),T u hr Z0 hs.2.1,T u hr (Zh3 _) hs.2.2⟩) ?_ ⟨by rw[<-L];exact hI.alloc _<|hI.alloc _ h0,b2,b1⟩).mono ?_
 rintro pre x W ⟨hi,hl,hk⟩ a7;have hy:=run_yield (P:=P) (args:=f x) hl Zg0;rw[z]at hy;refine⟨fn,_,assign,body,hy,roundIn_of_wpIn b7<|q _ pre x W _ hi ?_⟩;intro G V a5 d0 b9 b3;have y:=a5.same _ _ Z0 hl rfl;have c1:=a5.same _ _ (Zh3 _) hk rfl;have d6:xz (xj w)+1<xz (xj V):=(Zh6.1 y).1;refine⟨_,run_beginRound y (by rw[z]),?_⟩;have d5:(V.putObj (xz (xj w)+1)<|.loop {d .ready U with state:=.busy}).heap[xz (xj w)+1]?=J (.loop {d .ready U with state:=.busy}):=Zjp d6;have c0:(V.putObj (xz (xj w)+1)<|.loop {d .ready U with state:=.busy}).heap[xz<|xj w]?=J (.deferred<|J []):=(ZhF Z0).trans c1;have d7:O V<|V.putObj (xz (xj w)+1)<|.loop {d .ready U with state:=.busy}:=a1 _ _ _ _ Z0 y rfl rfl;refine wpIn_mono (Y _ pre x G _ (hI.putObj _ b9 Z0 y rfl) ((a9 x G).putObj (s:=()) _ b3 Z0 y rfl) a7) ?_;rintro e a3 W3 R;cases e with
 |normal=>
  obtain⟨a4,a6,b8⟩:=R;have a0:=a4.same _ _ Z0 d5 rfl;have b6:=a4.same _ _ (Zh3 _) c0 rfl;have j:=run_endRound (P:=P) U a0;refine⟨_,_,j,rfl,⟨hI.putObj _ b8 Z0 a0 rfl,?_,(ZhF Z0).trans b6⟩,X d0<|X (X d7 a6)<|a1 _ _ _ _ Z0 a0 rfl rfl⟩;grind [World.putObj_heap_same,Array.getElem?_eq_some_iff]
 |ret=>exact R.elim
 |exit id=>exact R.elim
 |goto t=>exact R.elim
 |panic ch=>exact R.elim
 |outgrown=>exact R.elim
 rintro e W2 (⟨v,xs,rfl,hs,hi,hl,hk⟩|⟨chain,pre,rfl,R,hi,hl,hk⟩);have j:=run_endLoop (P:=P) hl Zg0;rw[z]at j;exact⟨U,_,j,Z _ xs _ (Zh3 _) (hS.putObj _ hs Z0 hl rfl) (hI.putObj _ hi Z0 hl rfl)<|(ZhF Z0).trans hk⟩;exact M _ chain pre _ (Zh3 _) R hi hk
end
end Vm
end
section
namespace Vm
open Go Go.Proofs
def MN:Fn:=⟨4,[0,2,3,4],pQ [pR [pV 1 pF],pC [pK 4 58 [.s 0]] [pV 2<|.ext (.s 4) 0,pV 3<|.ext (.s 4) 1],.ao ⟨[.lt 5 []<|pe (.s 0)<|pU 0],[([(5,xw)],pe (.s 3)<|pI 0)],[pV 1<|.ite (.s 5) pT<|pe (.s 3)<|pI 0]⟩] .ret,[(1,.v)]⟩
def Z2Q:ZX [.fz] Try.f105=J MN:=Z2
end Vm
end
section
namespace Vm
open Go Go.Proofs Go.RowKit
def Z8c{x:Int}(hx:ZC x):VC xP 105 xw [vu x]<|.bool<|VX x:=by
 refine ZQ EL follows Z2 Z2Q rfl ?_;simp[MN];refine Zz (Kl hx) Z1 ?_;simp_all[VX]
def NV{x:Int}(hx:ZC x)(w:World):Calls xP 105 #[.int .u64 x] w λe a=>e=.returned (.bool<|VX x)/\Below (xz<|xj w) w a:=
 Tx (Z8c hx) rfl rfl w
structure Words (w:World) (ws:List Int) (g o cap:Nat):Prop where
 aa:∀(i:Nat) (x:Int),ws[i]?=J x->w.cell? ⟨g,o+i,U⟩=J (.int .u64 x)
 le:I ws<=cap
 cap:cap<=maxLen
 len:I ws<=1000000
 u64:∀x∈ws,ZC x
def Vr(e:Int):List PanicEntry:=[{v:=.iface 167<|.agg #[.int .i64 e],recovered:=xw}]
def WK(o:Ob):Value:=.agg #[.int .i64 o.aa,.int .i64 o.size,.int .i64 o.M,.bool o.gone,.int .u64 o.target]
def yA(ws:List Int)(o:Ob):Ending:=
 if(I ws:Int)<o.aa+1+o.size then .panicked (Vr 2)else if XP ((ws.drop<|o.aa.toNat+1).take o.size.toNat) o.gone o.M 0=xw then .panicked (Vr 3)else .returned<|.tuple #[]
def Z4h(w:World)(ws:List Int)(g o cap:Nat)(C:Words w ws g o cap)(hg:g<xz (xj w))(t:Ob)(a:Nat)(N:t.aa=a)(A:a<I ws)(B:YC t.size t.M=xk):
  Calls xP 104 #[.slice (J ⟨g,o,U⟩) (I ws) cap,WK t] w λe w'=>e=yA ws t/\Below (xz<|xj w) w w':=by
 have hl:=C.len;have hc:=C.le;have hm:=C.cap;obtain⟨at_,size,ptrs,gone,target⟩:=t;simp only at N B;subst N;obtain⟨s1,s2,s3,s4⟩:=YD.1 B;obtain⟨m,rfl⟩:=Zhf s1;have L:=Zh2 C;have r:yA ws ⟨a,m,ptrs,gone,target⟩=if(I ws:Int)<a+1+m then .panicked (Vr 2)else if XP ((ws.drop<|a+1).take m) gone ptrs 0=xw then .panicked (Vr 3)else .returned<|.tuple #[]:=rfl
 generalize yA ws ⟨a,m,ptrs,gone,target⟩=E at*;unfold WK;dsimp only;by_cases l:(I ws:Int)<a+1+m
 .rw[Zhc l]at r;have u:=Zh2 r;clear r;have S:((I ws- (a+1):Nat):Int)<m:=Z0;go_enter zu,Try.ntmps104;go_wp2;all_goals exact⟨rfl,u.out.symm,(Zhi _ _).alloc (Zh3 _) _⟩
 .rw[Zh9 l]at r;have u:=Zh2 r;clear r;have P:(m:Int)<=((I ws- (a+1):Nat):Int):=Z0;have Q:m<=I ws- (a+1):=Z0;have T:(I ws- (a+1)<m)=False:=ZjE Z0;have Z:m<=cap- (a+1):=Z0;have a0:m<=255:=Z0;clear C l;by_cases z:cap=a+1
  .have K:m=0:=Z0;subst K;subst z;go_enter zu,Try.ntmps104;go_wp2;go_loopw [26] (λi wr=>i=.int .i64 0/\Hid (Below (xz<|xj w) w wr)) (λi _=>0)
   case atStart=>exact⟨rfl,Zh2<|(Zhi _ _).alloc (Zh3 _) _⟩
   case round=>
    obtain⟨rfl,X⟩:=hrel;go_wp2;go_end0
    exact⟨u.out.symm,X.out⟩
  .go_enter zu,Try.ntmps104;go_wp2
   go_loopw [26] (λi wr=>∃k:Nat,i=.int .i64 k/\k<=m/\Hid (Below (xz<|xj w) w wr/\wr.heap[xz<|xj w]?=J (.cells #[.int .i64 a,.int .i64 m,.int .i64 ptrs,.bool gone,.int .u64 target] 120 (0,0))/\
     XP ((ws.drop<|a+1).take m) gone ptrs 0=XP (((ws.drop<|a+1).take m).drop k) gone ptrs k)) (λi _=>m- (intOf i).toNat)
   case atStart=>exact⟨0,rfl,Z0,Zh2 ⟨(Zhi _ _).alloc (Zh3 _) _,Zhk w _,rfl⟩⟩
   case round=>
    obtain⟨k,rfl,hk,d⟩:=hrel;by_cases A:k<m
    .obtain⟨x,D⟩:∃x,ws[a+1+k]?=J x:=⟨_,ZgY Z0⟩;have W:ZC x:=L.out.u64 x<|Zha D;have M:((ws.drop<|a+1).take m)[k]?=J x:=by
      rw[ZhD,Zhc A,Zhx];exact D
     have c0:wr.cell? ⟨g,o+(a+1)+k,U⟩=J (.int .u64 x):=by
      rw[Zib];exact(d.out.1.cell (p:=⟨g,o+(a+1+k),U⟩) hg).trans (L.out.aa _ _ D)
     have c1:wr.cell? ⟨xz<|xj w,1,U⟩=J (.int .i64 m):=ZgE;have c2:wr.cell? ⟨xz<|xj w,2,U⟩=J (.int .i64 ptrs):=ZgE;have c3:wr.cell? ⟨xz<|xj w,3,U⟩=J (.bool gone):=ZgE;have q:=Zai (gone:=gone) (ptrs:=ptrs) M;have R:(k:Int)<m:=Z0;have G:=Y9 d.out.2.1;clear D M;have stop:XP (((ws.drop<|a+1).take m).drop k) gone ptrs k=xw->E=.panicked (Vr 3):=λh=>by
      rw[u.out,d.out.2.2,h,Zhc rfl]
     cases gone
     .by_cases hp:(k:Int)<ptrs
      .cases H:VX x
       .have f:=Zh2<|stop Zg0;clear stop q;go_wp2_with (go_at_call 105;refine(NV W _).mono ?_;rintro e w1 ⟨rfl,j⟩;have n:=Zh2 j;clear j)
        exact⟨rfl,f.out.symm,d.out.1.trans<|n.out.mono d.out.1.size⟩
       .have y:=Zh2<|q.trans (by simp[H]:_=XP (((ws.drop<|a+1).take m).drop<|k+1) xw ptrs (k+1));clear stop q;go_wp2_with (go_at_call 105;refine(NV W _).mono ?_;rintro e w1 ⟨rfl,j⟩;have n:=Zh2 j;clear j)
        go_wp2;go_roundw
        case rel=>
         exact⟨k+1,by go_num,Z0,Zh2 ⟨d.out.1.trans<|n.out.mono d.out.1.size,(n.out.block _ G).trans d.out.2.1,d.out.2.2.trans y.out⟩⟩
        case measure=>grind [intOf]
      .have y:=Zh2<|q.trans (by simp[hp]:_=XP (((ws.drop<|a+1).take m).drop<|k+1) xw ptrs (k+1));clear stop q;go_wp2;go_roundw
       case rel=>exact⟨k+1,by go_num,Z0,Zh2 ⟨d.out.1,d.out.2.1,d.out.2.2.trans y.out⟩⟩
       case measure=>grind [intOf]
     .by_cases Y:x=0
      .subst Y;have y:=Zh2<|q.trans (by simp[VX]:_=XP (((ws.drop<|a+1).take m).drop<|k+1) xk ptrs (k+1));clear stop q;go_wp2;go_roundw
       case rel=>exact⟨k+1,by go_num,Z0,Zh2 ⟨d.out.1,d.out.2.1,d.out.2.2.trans y.out⟩⟩
       case measure=>grind [intOf]
      .have f:=Zh2<|stop Zg0;clear stop q;go_wp2;exact⟨rfl,f.out.symm,d.out.1⟩
    .have:k=m:=Z0;subst this;have F:=d.out.2.2;have O:((ws.drop<|a+1).take k).drop k=[]:=ZiF Zg0;rw[O]at F;have f:=Zh2<|u.out.trans (by rw[F];rfl:_=Ending.returned (.tuple #[]));clear F O;go_wp2;go_end0
     exact⟨f.out.symm,d.out.1⟩
end Vm
namespace Vm
open Go Go.Proofs Go.RowKit
def Z6D(w:World):Sem.run xP (binOp .neq 168 .nilFunc .nilFunc) w=.ok (.bool xw) w:=ZgR
def BV(w:World)(f:FuncId)(vs:Array Value):Sem.run xP (binOp .neq 168 (.func (.func f) #[] vs) .nilFunc) w=.ok (.bool xk) w:=ZgR
def je{w:World}{b T v0 v1 d f v4}(h:w.heap[b]?=J (.cells #[v0,v1,d,f,v4] T (0,0)))O:
  ((w.alloc O).cell? ⟨b,0,U⟩=J v0/\(w.alloc O).cell? ⟨b,1,U⟩=J v1/\(w.alloc O).cell? ⟨b,2,U⟩=J d/\(w.alloc O).cell? ⟨b,3,U⟩=J f/\(w.alloc O).cell? ⟨b,4,U⟩=J v4)/\
  (w.alloc O).frozen? ⟨b,0,U⟩=xw/\(w.alloc O).frozen? ⟨b,1,U⟩=xw/\(w.alloc O).frozen? ⟨b,2,U⟩=xw/\(w.alloc O).frozen? ⟨b,3,U⟩=xw/\(w.alloc O).frozen? ⟨b,4,U⟩=xw:=by
 have a:(w.alloc O).heap[b]?=J _:=(Zh4 _ _ _ ZfZ).trans h;refine⟨⟨?_,?_,?_,?_,?_⟩,Yc a,Yc a,Yc a,Yc a,Yc a⟩<;>(rw[Zh7 _ _ _ _ _ _ a];rfl)
def R2(a:Nat)(x:Int):Ending:=if(ZR x).2.2=0 then .returned (WK ⟨a,(ZR x).1,(ZR x).2.1,xw,0⟩)else .panicked<|Vr 3
def Z2F(w:World)(ws:List Int)(g o cap:Nat)(n:Words w ws g o cap)(L:g<xz (xj w))(a:Nat)(x:Int)(hx:ws[a]?=J x):
  Calls xP 103 #[.slice (J ⟨g,o,U⟩) (I ws) cap,.int .i64 a,.nilFunc] w λe N=>e=R2 a x/\Below (xz<|xj w) w N:=by
 have Y:=n.len;have X:=n.le;have Z:=n.cap;have M:a<I ws:=(ZgZ.1 hx).1;have A:(a:Int)<I ws:=Z0;have q:ZC x:=n.u64 x<|Zha hx;have C:=n.aa a x hx;have z:∀W,Below (xz<|xj w) w W->W.cell? ⟨g,o+a,U⟩=J (.int .u64 x):=λW K=>(K.cell (p:=⟨g,o+a,U⟩) L).trans C;have l:R2 a x=if(ZR x).2.2=0 then .returned (WK ⟨a,(ZR x).1,(ZR x).2.1,xw,0⟩)else .panicked<|Vr 3:=rfl
 generalize R2 a x=E at*;have y:=Zh2 z;have B:=Z6D;clear n hx z;by_cases t:(ZR x).2.2=0
 .rw[Zhc t]at l;have r:=Zh2 l;clear l;go_enter RW,Try.ntmps103
  go_wp2_with (first
   |(go_at_call 58;refine(U9 q _).mono ?_;rintro e w1 ⟨rfl,f⟩;have d:=Zh2 f;have D:=y.out w1<|((((Zhi _ w).alloc (Zh3 _) _).alloc (by simp) _).trans<|f.mono (by simp;omega));clear f)
   | (go_at_call 64;refine(K5 q _).mono ?_;rintro e w2 ⟨rfl,h⟩;have j:=Zh2 h
      have H:=d.out.block;have r0:w2.heap[xz<|xj w]?=J (.cells #[.int .i64 0,.int .i64 0,.int .i64 0,.bool xw,.int .u64 0] 120 (0,0)):=(h.block _ Zgz).trans<|(d.out.block _ Zg1).trans<|(Zh4 _ _ _ Z1).trans<|Zhk w _;have u:w2.heap[xz (xj w)+1]?=J (.cells #[.int .i64 a,.int .i64 0,.int .i64 0,.bool xw,.int .u64 0] 120 (0,0)):=(h.block _ Zgz).trans<|(d.out.block _ Z1).trans Zg5;obtain⟨⟨O,P,Q,R,S⟩,y0,y1,y2,y3,y4⟩:=je r0<|.cells #[.int .i64 (ZR x).1,.int .i64 (ZR x).2.1] 43;obtain⟨⟨p0,p1,p2,p3,p4⟩,q0,q1,q2,q3,q4⟩:=je u<|.cells #[.int .i64 (ZR x).1,.int .i64 (ZR x).2.1] 43;have T:=Zh2<|And.intro r0 u;clear h H r0 u))
  refine ZhE (v:=WK ⟨a,(ZR x).1,(ZR x).2.1,xw,0⟩) ?_ rfl ⟨r.out.symm,?_⟩
  .simp[results,Try.results103,go_sem,WK,O,P,Q,R,S]
  have k:=(((Zhi _ w).alloc (Zh3 _)<|.cells #[.int .i64 0,.int .i64 0,.int .i64 0,.bool xw,.int .u64 0] 120).alloc Z1<|.cells #[.int .i64 a,.int .i64 0,.int .i64 0,.bool xw,.int .u64 0] 120).trans<|d.out.mono Zg1;have G:=(k.trans<|j.out.mono (by have:=k.size;omega)).alloc (by have:=k.size;have:=j.out.size;omega)<|.cells #[.int .i64 (ZR x).1,.int .i64 (ZR x).2.1] 43;exact((((((G.setCell (p:=⟨xz (xj w)+1,1,U⟩) Z1 _).setCell (p:=⟨xz (xj w)+1,2,U⟩) Z1 _).setCell (p:=⟨xz<|xj w,0,U⟩) (Zh3 _) _).setCell (p:=⟨xz<|xj w,1,U⟩) (Zh3 _) _).setCell (p:=⟨xz<|xj w,2,U⟩) (Zh3 _) _).setCell (p:=⟨xz<|xj w,3,U⟩) (Zh3 _) _).setCell (p:=⟨xz<|xj w,4,U⟩) (Zh3 _) _
 .rw[Zh9 t]at l;have r:=Zh2 l;clear l;have F:((ZR x).2.2=0)=False:=ZjE t;go_enter RW,Try.ntmps103
  go_wp2_with (first
   |(go_at_call 58;refine(U9 q _).mono ?_;rintro e w1 ⟨rfl,f⟩;have d:=Zh2 f;have D:=y.out w1<|((((Zhi _ w).alloc (Zh3 _) _).alloc (by simp) _).trans<|f.mono (by simp;omega));clear f)
   |(go_at_call 64;refine(K5 q _).mono ?_;rintro e w2 ⟨rfl,h⟩;have j:=Zh2 h;clear h))
  refine⟨rfl,r.out.symm,?_⟩;have k:=(((Zhi _ w).alloc (Zh3 _)<|.cells #[.int .i64 0,.int .i64 0,.int .i64 0,.bool xw,.int .u64 0] 120).alloc Z1<|.cells #[.int .i64 a,.int .i64 0,.int .i64 0,.bool xw,.int .u64 0] 120).trans<|d.out.mono Zg1;exact(k.trans<|j.out.mono (by have:=k.size;omega)).alloc (by have:=k.size;have:=j.out.size;omega) _
end Vm
namespace Vm
open Go Go.Proofs Go.RowKit
def Pe(s p:Int)(w:World):Calls xP 44 #[.agg #[.int .i64 s,.int .i64 p]] w λe a=>e=.returned (.bool<|YC s p)/\Below (xz<|xj w) w a:=
 Tx Da rfl rfl w
structure Shps (w:World) (shs:List<|Int×Int) (bs:Nat) (v:Value):Prop where
 box:w.heap[bs]?=J (.cells #[v] 156 (0,0))
 val:(∃g o cap,v=.slice (J ⟨g,o,U⟩) (I shs) cap/\I shs<=cap/\cap<=maxLen/\g<xz (xj w)/\∀(i:Nat) (x:Int×Int),shs[i]?=J x->w.cell? ⟨g,o+i*2,U⟩=J (.int .i64 x.1)/\w.cell? ⟨g,o+i*2+1,U⟩=J (.int .i64 x.2))\/
  (∃a cap,v=.slice a 0 cap/\shs=[])
def Z46(w:World)(shs:List<|Int×Int)(bt h:Nat)(v:Value)(x:I shs<=1000000)(d:Shps w shs h v)(f:w.heap[bt]?=J (.cells #[.int .i64<|I shs] 3 (0,0))):
  Calls xP 98 #[.pointer<|J ⟨bt,0,U⟩,.pointer<|J ⟨h,0,U⟩] w λe p=>e=.panicked (Vr 3)/\Below (xz<|xj w) w p:=by
 have k:w.cell? ⟨bt,0,U⟩=J (.int .i64<|I shs):=by rw[Zh7 _ _ _ _ _ _ f];rfl
 have n:=Y9 f;have j:=Y9 d.box;have q:w.cell? ⟨h,0,U⟩=J v:=by rw[Zh7 _ _ _ _ _ _ d.box];rfl
 obtain⟨g,o,cap,rfl,r,t,u,l⟩|⟨a,cap,rfl,rfl⟩:=d.val
 .clear l d f;go_enter Kk,Try.ntmps98;go_wp2;exact⟨rfl,rfl,(Zhi _ _).alloc (Zh3 _) _⟩
 .clear d f;simp only[Zif]at k;go_enter Kk,Try.ntmps98;go_wp2;exact⟨rfl,rfl,(Zhi _ _).alloc (Zh3 _) _⟩
def Z45(w:World)(shs:List<|Int×Int)(bt j t:Nat)(v:Value)(x:Int×Int)(K:I shs<=1000000)(f:Shps w shs j v)(k:w.heap[bt]?=J (.cells #[.int .i64 t] 3 (0,0)))(hx:shs[t]?=J x)(r:YC x.1 x.2=xw):
  Calls xP 98 #[.pointer<|J ⟨bt,0,U⟩,.pointer<|J ⟨j,0,U⟩] w λe A=>e=.panicked (Vr 3)/\Below (xz<|xj w) w A:=by
 have B:w.cell? ⟨bt,0,U⟩=J (.int .i64 t):=by rw[Zh7 _ _ _ _ _ _ k];rfl
 have u:=Y9 k;have p:=Y9 f.box;have y:t<I shs:=(ZgZ.1 hx).1;have z:¬t=I shs:=Z0;have q:(t:Int)<I shs:=Z0;have C:w.cell? ⟨j,0,U⟩=J v:=by rw[Zh7 _ _ _ _ _ _ f.box];rfl
 obtain⟨g,o,cap,rfl,F,G,H,n⟩|⟨a,cap,rfl,rfl⟩:=f.val
 .obtain⟨D,d1⟩:=n t x hx;have l:=Pe x.1 x.2;rw[r]at l;clear n f k hx r;go_enter Kk,Try.ntmps98;go_wp2_with (go_at_call 44;refine(l _).mono ?_;rintro e w1 ⟨rfl,d⟩;have h:=Zh2 d;clear d)
  exact⟨rfl,rfl,((Zhi _ w).alloc (Zh3 _) _).trans<|h.out.mono Z1⟩
 grind
def Z47(w:World)(shs:List<|Int×Int)(bt f t:Nat)(v:Value)(x:Int×Int)(hl:I shs<=1000000)(y:Shps w shs f v)(l:w.heap[bt]?=J (.cells #[.int .i64 t] 3 (0,0)))(hx:shs[t]?=J x)(L:YC x.1 x.2=xk)(q:f≠bt)
  (r:∀g o cap,v=.slice (J ⟨g,o,U⟩) (I shs) cap->g≠bt):
  Calls xP 98 #[.pointer<|J ⟨bt,0,U⟩,.pointer<|J ⟨f,0,U⟩] w λe M=>e=.returned (.agg #[.int .i64 x.1,.int .i64 x.2])/\w.grownBy M (J bt)/\M.heap[bt]?=J (.cells #[.int .i64 ((t+1:Nat):Int)] 3 (0,0)):=by
 have N:w.cell? ⟨bt,0,U⟩=J (.int .i64 t):=by rw[Zh7 _ _ _ _ _ _ l];rfl
 have h:=Y9 l;have n:=Y9 y.box;have R:t<I shs:=(ZgZ.1 hx).1;have u:¬t=I shs:=Z0;have K:(t:Int)<I shs:=Z0;have O:w.cell? ⟨f,0,U⟩=J v:=by rw[Zh7 _ _ _ _ _ _ y.box];rfl
 have hf:=Yc (o:=0) l;have G:¬f=bt:=q;have H:¬bt=f:=λe=>q e.symm;obtain⟨g,o,cap,rfl,h1,h2,D,F⟩|⟨a,cap,rfl,rfl⟩:=y.val
 .obtain⟨P,d1⟩:=F t x hx;have hg:=r g o cap rfl;have C:=Pe x.1 x.2;rw[L]at C;have B:=Zh2 l;clear F y l hx L r;go_enter Kk,Try.ntmps98
  go_wp2_with (go_at_call 44;refine(C _).mono ?_;rintro e w1 ⟨rfl,d⟩
               have z:=Zh2 d;have s1:=d.size;have k0:w1.cell? ⟨bt,0,U⟩=J (.int .i64 t):=(d.cell (p:=⟨bt,0,U⟩) Zg1).trans<|(Ziu _ _ _ h).trans N;have k1:w1.frozen? ⟨bt,0,U⟩=xw:=Yc<|(d.block bt Zg1).trans<|(Zh4 _ _ _ h).trans B.out;have k2:w1.cell? ⟨f,0,U⟩=J (.slice (J ⟨g,o,U⟩) (I shs) cap):=(d.cell (p:=⟨f,0,U⟩) Zg1).trans<|(Ziu _ _ _ n).trans O;have k3:w1.cell? ⟨g,o+t*2,U⟩=J (.int .i64 x.1):=(d.cell (p:=⟨g,o+t*2,U⟩) Zg1).trans<|(Ziu _ _ _ D).trans P;have k4:w1.cell? ⟨g,o+t*2+1,U⟩=J (.int .i64 x.2):=(d.cell (p:=⟨g,o+t*2+1,U⟩) Zg1).trans<|(Ziu _ _ _ D).trans d1;have r0:w1.heap[xz<|xj w]?=J (.cells #[.int .i64 0,.int .i64 0] 43 (0,0)):=(d.block _ Z1).trans<|Zhk w _;have X:w1.cell? ⟨xz<|xj w,0,U⟩=J (.int .i64 0):=by rw[Zh7 _ _ _ _ _ _ r0];rfl
               have Y:w1.cell? ⟨xz<|xj w,1,U⟩=J (.int .i64 0):=by rw[Zh7 _ _ _ _ _ _ r0];rfl
               have y0:=Yc (o:=0) r0;have y1:=Yc (o:=1) r0;have T:¬xz (xj w)=bt:=Z0;have W:¬bt=xz (xj w):=Z0;have Z:=Zh2 r0;clear d r0)
  have j:Below (xz<|xj w) w w1:=((Zhi _ w).alloc (Zh3 _)<|.cells #[.int .i64 0,.int .i64 0] 43).trans<|z.out.mono Z1;have S:w1.heap[bt]?=J (.cells #[.int .i64 t] 3 (0,0)):=(j.block bt h).trans B.out;refine ZhE (v:=.agg #[.int .i64 x.1,.int .i64 x.2]) ?_ rfl ⟨rfl,⟨j.os,j.tape,j.output,?_,λk Q u=> ?_⟩,?_⟩
  .simp[results,Try.results98,go_sem,X,Y,T,W]
  simp[World.setCell];exact j.size;have A:k≠bt:=λe=>u (by rw[e]);rw[Zhj _ _ _ _ ZfZ,Zhj _ _ _ _ ZfZ,Zhj _ _ _ _ A];exact j.block k Q;simp_all[Zhj,World.setCell,ZhB]
 grind
end Vm
namespace Vm
open Go Go.Proofs Go.RowKit
def Z2G(w:World)(f:FuncId)(vs:Array Value)(ws:List Int)(g o cap:Nat)(q:Words w ws g o cap)(O:g<xz (xj w))(a:Nat)(x:Int)(hx:ws[a]?=J x)(y:¬(adr x).2=0):
  Calls xP 103 #[.slice (J ⟨g,o,U⟩) (I ws) cap,.int .i64 a,.func (.func f) #[] vs] w λe Q=>e=R2 a x/\Below (xz<|xj w) w Q:=by
 have hl:=q.len;have hc:=q.le;have hm:=q.cap;have P:a<I ws:=(ZgZ.1 hx).1;have C:(a:Int)<I ws:=Z0;have r:ZC x:=q.u64 x<|Zha hx;have F:=q.aa a x hx;have B:∀W,Below (xz<|xj w) w W->W.cell? ⟨g,o+a,U⟩=J (.int .u64 x):=λW M=>(M.cell (p:=⟨g,o+a,U⟩) O).trans F;have n:R2 a x=if(ZR x).2.2=0 then .returned (WK ⟨a,(ZR x).1,(ZR x).2.1,xw,0⟩)else .panicked<|Vr 3:=rfl
 generalize R2 a x=E at*;have A:=Zh2 B;have N:=λW=>BV W f vs;have D:((adr x).2=0)=False:=ZjE y;clear q hx B;by_cases u:(ZR x).2.2=0
 .rw[Zhc u]at n;have t:=Zh2 n;clear n;go_enter RW,Try.ntmps103
  go_wp2_with (first
   |(go_at_call 58;refine(U9 r _).mono ?_;rintro e w1 ⟨rfl,h⟩;have d:=Zh2 h;have G:=A.out w1<|((((Zhi _ w).alloc (Zh3 _) _).alloc (by simp) _).trans<|h.mono (by simp;omega));clear h)
   | (go_at_call 64;refine(K5 r _).mono ?_;rintro e w2 ⟨rfl,j⟩;have k:=Zh2 j
      have L:=d.out.block;have r0:w2.heap[xz<|xj w]?=J (.cells #[.int .i64 0,.int .i64 0,.int .i64 0,.bool xw,.int .u64 0] 120 (0,0)):=(j.block _ Zgz).trans<|(d.out.block _ Zg1).trans<|(Zh4 _ _ _ Z1).trans<|Zhk w _;have z:w2.heap[xz (xj w)+1]?=J (.cells #[.int .i64 a,.int .i64 0,.int .i64 0,.bool xw,.int .u64 0] 120 (0,0)):=(j.block _ Zgz).trans<|(d.out.block _ Z1).trans Zg5;obtain⟨⟨R,S,T,X,Y⟩,y0,y1,y2,y3,y4⟩:=je r0<|.cells #[.int .i64 (ZR x).1,.int .i64 (ZR x).2.1] 43;obtain⟨⟨p0,p1,p2,p3,p4⟩,q0,q1,q2,q3,q4⟩:=je z<|.cells #[.int .i64 (ZR x).1,.int .i64 (ZR x).2.1] 43;have Z:=Zh2<|And.intro r0 z;clear j L r0 z))
  refine ZhE (v:=WK ⟨a,(ZR x).1,(ZR x).2.1,xw,0⟩) ?_ rfl ⟨t.out.symm,?_⟩
  .simp[results,Try.results103,go_sem,WK,R,S,T,X,Y]
  have l:=(((Zhi _ w).alloc (Zh3 _)<|.cells #[.int .i64 0,.int .i64 0,.int .i64 0,.bool xw,.int .u64 0] 120).alloc Z1<|.cells #[.int .i64 a,.int .i64 0,.int .i64 0,.bool xw,.int .u64 0] 120).trans<|d.out.mono Zg1;have K:=(l.trans<|k.out.mono (by have:=l.size;omega)).alloc (by have:=l.size;have:=k.out.size;omega)<|.cells #[.int .i64 (ZR x).1,.int .i64 (ZR x).2.1] 43;exact((((((K.setCell (p:=⟨xz (xj w)+1,1,U⟩) Z1 _).setCell (p:=⟨xz (xj w)+1,2,U⟩) Z1 _).setCell (p:=⟨xz<|xj w,0,U⟩) (Zh3 _) _).setCell (p:=⟨xz<|xj w,1,U⟩) (Zh3 _) _).setCell (p:=⟨xz<|xj w,2,U⟩) (Zh3 _) _).setCell (p:=⟨xz<|xj w,3,U⟩) (Zh3 _) _).setCell (p:=⟨xz<|xj w,4,U⟩) (Zh3 _) _
 .rw[Zh9 u]at n;have t:=Zh2 n;clear n;have H:((ZR x).2.2=0)=False:=ZjE u;go_enter RW,Try.ntmps103
  go_wp2_with (first
   |(go_at_call 58;refine(U9 r _).mono ?_;rintro e w1 ⟨rfl,h⟩;have d:=Zh2 h;have G:=A.out w1<|((((Zhi _ w).alloc (Zh3 _) _).alloc (by simp) _).trans<|h.mono (by simp;omega));clear h)
   |(go_at_call 64;refine(K5 r _).mono ?_;rintro e w2 ⟨rfl,j⟩;have k:=Zh2 j;clear j))
  refine⟨rfl,t.out.symm,?_⟩;have l:=(((Zhi _ w).alloc (Zh3 _)<|.cells #[.int .i64 0,.int .i64 0,.int .i64 0,.bool xw,.int .u64 0] 120).alloc Z1<|.cells #[.int .i64 a,.int .i64 0,.int .i64 0,.bool xw,.int .u64 0] 120).trans<|d.out.mono Zg1;exact(l.trans<|k.out.mono (by have:=l.size;omega)).alloc (by have:=l.size;have:=k.out.size;omega) _
def FQ(w:World)(vs:Array Value)(ws:List Int)(g o cap:Nat)(h:Words w ws g o cap)(G:g<xz (xj w))(a:Nat)(x:Int)(hx:ws[a]?=J x)(A:(adr x).2=0)
  (d:∀W,Below (xz<|xj w) w W->Calls xP 98 vs W λe W'=>e=.panicked (Vr 3)/\Below (xz<|xj W) W W'):
  Calls xP 103 #[.slice (J ⟨g,o,U⟩) (I ws) cap,.int .i64 a,.func (.func 98) #[] vs] w λe C=>e=.panicked (Vr 3)/\Below (xz<|xj w) w C:=by
 have H:=h.len;have F:=h.le;have K:=h.cap;have z:a<I ws:=(ZgZ.1 hx).1;have t:(a:Int)<I ws:=Z0;have B:ZC x:=h.u64 x<|Zha hx;have D:=h.aa a x hx;have y:=λW=>BV W 98 vs;have u:=Zh2 d;clear h hx d;go_enter RW,Try.ntmps103
 go_wp2_with (first
  | (go_at_call 58;refine(U9 B _).mono ?_;rintro e w1 ⟨rfl,f⟩
     have r:Below (xz<|xj w) w w1:=((((Zhi _ w).alloc (Zh3 _) _).alloc Z1 _).trans<|f.mono Zg1);have k:w1.heap[xz (xj w)+1]?=J (.cells #[.int .i64 a,.int .i64 0,.int .i64 0,.bool xw,.int .u64 0] 120 (0,0)):=(f.block _ Z1).trans Zg5;have p3:w1.cell? ⟨xz (xj w)+1,3,U⟩=J (.bool xw):=by rw[Zh7 _ _ _ _ _ _ k];rfl
     have p4:w1.cell? ⟨xz (xj w)+1,4,U⟩=J (.int .u64 0):=by rw[Zh7 _ _ _ _ _ _ k];rfl
     have L:=Yc (o:=3) k;have M:=Yc (o:=4) k;have n:=Zh2 r;clear f r k)
  |(go_at_call 98;refine(u.out _ ?_).mono ?_;rotate_left;rintro e w2 ⟨rfl,j⟩;have l:=Zh2 j;clear j))
 case refine_1=>exact(n.out.setCell (p:=⟨xz (xj w)+1,3,U⟩) Z1 _).setCell (p:=⟨xz (xj w)+1,4,U⟩) Z1 _
 case refine_2=>
  have q:=(n.out.setCell (p:=⟨xz (xj w)+1,3,U⟩) Z1<|.bool xk).setCell (p:=⟨xz (xj w)+1,4,U⟩) Z1<|.int .u64 (adr x).1;exact⟨rfl,rfl,q.trans<|l.out.mono q.size⟩
theorem Z49{w W:World}{r}(h:w.grownBy W r){p}(f:xz (xj w)<=p.block)u:w.grownBy (W.setCell p u) r:=
 ⟨h.os,h.tape,h.output,by simpa[World.setCell]using h.size,λk d a=>(Zhj _ _ _ _ Z0).trans<|h.block k d a⟩
def Z2E(w:World)(vs:Array Value)(ws:List Int)(g o cap:Nat)(r:Words w ws g o cap)(hg:g<xz (xj w))(a:Nat)(x:Int)(hx:ws[a]?=J x)(Q:(adr x).2=0)
  (bt:Nat) (O:Obj) (s p:Int) (L:bt<xz (xj w))
  (f:∀W,Below (xz<|xj w) w W->Calls xP 98 vs W λe W'=>e=.returned (.agg #[.int .i64 s,.int .i64 p])/\W.grownBy W' (J bt)/\W'.heap[bt]?=J O):
  Calls xP 103 #[.slice (J ⟨g,o,U⟩) (I ws) cap,.int .i64 a,.func (.func 98) #[] vs] w λe H=>e=.returned (WK ⟨a,s,p,xk,(adr x).1⟩)/\w.grownBy H (J bt)/\H.heap[bt]?=J O:=by
 have hl:=r.len;have hc:=r.le;have hm:=r.cap;have P:a<I ws:=(ZgZ.1 hx).1;have G:(a:Int)<I ws:=Z0;have R:ZC x:=r.u64 x<|Zha hx;have c0:=r.aa a x hx;have M:=λW=>BV W 98 vs;have K:=Zh2 f;clear r hx f;go_enter RW,Try.ntmps103
 go_wp2_with (first
  | (go_at_call 58;refine(U9 R _).mono ?_;rintro e w1 ⟨rfl,j⟩
     have D:Below (xz<|xj w) w w1:=((((Zhi _ w).alloc (Zh3 _) _).alloc Z1 _).trans<|j.mono Zg1);have t:w1.heap[xz (xj w)+1]?=J (.cells #[.int .i64 a,.int .i64 0,.int .i64 0,.bool xw,.int .u64 0] 120 (0,0)):=(j.block _ Z1).trans Zg5;have p3:w1.cell? ⟨xz (xj w)+1,3,U⟩=J (.bool xw):=by rw[Zh7 _ _ _ _ _ _ t];rfl
     have p4:w1.cell? ⟨xz (xj w)+1,4,U⟩=J (.int .u64 0):=by rw[Zh7 _ _ _ _ _ _ t];rfl
     have q3:=Yc (o:=3) t;have q4:=Yc (o:=4) t;have r0:w1.heap[xz<|xj w]?=J (.cells #[.int .i64 0,.int .i64 0,.int .i64 0,.bool xw,.int .u64 0] 120 (0,0)):=(j.block _ Zg1).trans<|(Zh4 _ _ _ Z1).trans<|Zhk w _;have z:=Zh2<|And.intro r0 t;have C:=Zh2 D;clear j D r0 t)
  | (go_at_call 98;refine(K.out _ ?_).mono ?_;rotate_left;rintro e w2 ⟨rfl,l,u⟩
     have d:=Zh2 l;have A:=Zh2 u;have n:w2.heap[xz (xj w)+1]?=J (.cells #[.int .i64 a,.int .i64 0,.int .i64 0,.bool xk,.int .u64 (adr x).1] 120 (0,0)):=(l.block _ (by simp[World.setCell];exact Y9 z.out.2) Zg1).trans (by simp[World.setCell,ZhB,z.out.2]);have h:w2.heap[xz<|xj w]?=J (.cells #[.int .i64 0,.int .i64 0,.int .i64 0,.bool xw,.int .u64 0] 120 (0,0)):=(l.block _ (by simp[World.setCell];exact Y9 z.out.1) Zg1).trans (by simp[World.setCell,ZhB,z.out.1]);have s0:w2.cell? ⟨xz (xj w)+1,0,U⟩=J (.int .i64 a):=Zgq;have s1:w2.cell? ⟨xz (xj w)+1,1,U⟩=J (.int .i64 0):=Zgq;have s2:w2.cell? ⟨xz (xj w)+1,2,U⟩=J (.int .i64 0):=Zgq;have s3:w2.cell? ⟨xz (xj w)+1,3,U⟩=J (.bool xk):=Zgq;have s4:w2.cell? ⟨xz (xj w)+1,4,U⟩=J (.int .u64 (adr x).1):=Zgq;have S:w2.cell? ⟨xz<|xj w,0,U⟩=J (.int .i64 0):=Zgp;have T:w2.cell? ⟨xz<|xj w,1,U⟩=J (.int .i64 0):=Zgp;have X:w2.cell? ⟨xz<|xj w,2,U⟩=J (.int .i64 0):=Zgp;have Y:w2.cell? ⟨xz<|xj w,3,U⟩=J (.bool xw):=Zgp;have Z:w2.cell? ⟨xz<|xj w,4,U⟩=J (.int .u64 0):=Zgp;have u1:=Yc (o:=1) n;have u2:=Yc (o:=2) n;have v0:=Yc (o:=0) h;have v1:=Yc (o:=1) h;have v2:=Yc (o:=2) h;have v3:=Yc (o:=3) h;have v4:=Yc (o:=4) h;clear l u h n))
 case refine_1=>exact(C.out.setCell (p:=⟨xz (xj w)+1,3,U⟩) Z1 _).setCell (p:=⟨xz (xj w)+1,4,U⟩) Z1 _
 next=>
  have q:=(C.out.setCell (p:=⟨xz (xj w)+1,3,U⟩) Z1<|.bool xk).setCell (p:=⟨xz (xj w)+1,4,U⟩) Z1<|.int .u64 (adr x).1;have N:w.grownBy w2<|J bt:=⟨d.out.os.trans q.os,d.out.tape.trans q.tape,d.out.output.trans q.output,Zhu q.size d.out.size,λk F B=>(d.out.block k (Zh8 F q.size) B).trans<|q.block k F⟩;have k1:bt≠xz (xj w)+1:=Z0;have y:bt≠xz (xj w):=Z0;clear q;refine ZhE (v:=WK ⟨a,s,p,xk,(adr x).1⟩) ?_ rfl ⟨rfl,?_,?_⟩
  .simp[results,Try.results103,go_sem,WK,S,T,X,Y,Z]
  grind [Z49];rw[Zhj _ _ _ _ y,Zhj _ _ _ _ y,Zhj _ _ _ _ y,Zhj _ _ _ _ y,Zhj _ _ _ _ y,Zhj _ _ _ _ k1,Zhj _ _ _ _ k1];exact A.out
end Vm
namespace Vm
open Go Go.Proofs Go.RowKit Go.Shelf
def UN(W:World)(bl:Nat):Option Nat:=(W.cell? ⟨bl,0,U⟩).bind Value.ownBlock
structure KpW (bl base:Nat) (A B:World):Prop where
 size:xz (xj A)<=xz (xj B)
 same:∀k o,A.heap[k]?=J o->o.isCells=xk->k≠bl->(k<base\/UN A bl≠J k)->B.heap[k]?=J o
 row:∀k,k<xz (xj A)->UN B bl=J k->UN A bl=J k
theorem KpW.trans{bl base A B C}(h:KpW bl base A B)(k:KpW bl base B C):KpW bl base A C:=
 ⟨Zhu h.size k.size,λi o a g j d=>k.same i o (h.same i o a g j d) g j (d.imp id λf e=>f<|h.row i ZfZ e),λi a d=>h.row i a<|k.row i (Zh8 a h.size) d⟩
theorem KpW.put{bl base W l o}d(j:W.heap[l]?=J o)(n:o.isCells=xw)(g:bl≠l):KpW bl base W<|W.putObj l d:=by
 have a:(W.putObj l d).cell? ⟨bl,0,U⟩=W.cell? ⟨bl,0,U⟩:=ZhS<|ZhF Z0;refine⟨Z1,λk q h f _ _=> ?_,λk _ p=> ?_⟩;grind [World.putObj_heap_other];simp_all[UN]
def zk(ws:List Int)(g o cap:Nat)(gv:Value)(shs:List<|Int×Int)(old:Bool)(bt:Option Nat)(K:Nat->World->Prop):Prop:=
 ∀(W:World) (a t:Nat) (x:Int),Words W ws g o cap->g<xz (xj W)->K t W->ws[a]?=J x->
  Calls xP 103 #[.slice (J ⟨g,o,U⟩) (I ws) cap,.int .i64 a,gv] W λe W'=>W.grownBy W' bt/\match Wk shs old a t x with
   |some (d,f)=>e=.returned (WK d)/\K f W'
   |none=>e=.panicked (Vr 3)
def zT(ws:List Int)(shs:List<|Int×Int)(old:Bool)(K:Nat->World->Prop)(xs:List Ob)(W:World):Prop:=
 ∃t,K t W/\ZO ws shs old=(if t<(I shs) then([],3)else(xs,0))
def Z3q(ws:List Int)(shs:List<|Int×Int)(old:Bool)(chain:List PanicEntry)(pre:List Ob)(W:World):Prop:=
 ∃e,(e=2\/e=3)/\chain=Vr e/\ZO ws shs old=([],e)
structure Stat6 (ws:List Int) (g o cap:Nat) (sv:Value) (bw bg base bl:Nat) (bt:Option Nat) (gv:Value) (W:World):Prop where
 words:Words W ws g o cap
 vd:sv=.slice (J ⟨g,o,U⟩) (I ws) cap\/(ws=[]/\∃a c,sv=.slice a 0 c)
 ss:W.heap[bw]?=J (.cells #[sv] 28 (0,0))
 ux:W.heap[bg]?=J (.cells #[gv] 168 (0,0))
 gb:ws≠[]->∃ob,W.heap[g]?=J ob/\ob.isCells=xk
 lt:g<base/\bw<base/\bg<base/\base<=xz (xj W)
 ne:g≠bl/\bw≠bl/\bg≠bl
 nt:J g≠bt/\J bw≠bt/\J bg≠bt
section
variable {ws:List Int}{g o cap bw bg base bl:Nat}{bt:Option Nat}{sv gv:Value}{W W':World}
theorem Stat6.of(h:Stat6 ws g o cap sv bw bg base bl bt gv W)(n:xz (xj W)<=xz (xj W'))(d:∀k a,W.heap[k]?=J a->a.isCells=xk->k<base->k≠bl->J k≠bt->W'.heap[k]?=J a):Stat6 ws g o cap sv bw bg base bl bt gv W':=by
 refine⟨⟨λi x p=> ?_,h.words.le,h.words.cap,h.words.len,h.words.u64⟩,h.vd,d _ _ h.ss rfl h.lt.2.1 h.ne.2.1 h.nt.2.1,d _ _ h.ux rfl h.lt.2.2.1 h.ne.2.2 h.nt.2.2,λj=> ?_,⟨h.lt.1,h.lt.2.1,h.lt.2.2.1,Zhu h.lt.2.2.2 n⟩,h.ne,h.nt⟩;have j:ws≠[]:=ZfZ;let⟨a,l,f⟩:=h.gb j;have q:=d _ _ l f h.lt.1 h.ne.1 h.nt.1;rw[<-h.words.aa i x p];grind [World.cell?_of_block];let⟨a,l,f⟩:=h.gb j;exact⟨a,d _ _ l f h.lt.1 h.ne.1 h.nt.1,f⟩
def Stat6.grown(h:Stat6 ws g o cap sv bw bg base bl bt gv W)(a:W.grownBy W' bt):=
 h.of a.size λk j d _ _ _ f=>(a.block k ZfZ f).trans d
def Stat6.kp(h:Stat6 ws g o cap sv bw bg base bl bt gv W)(f:KpW bl base W W'):=
 h.of f.size λk n a j l d _=>f.same k n a j d Z0
end
def T7{W W'}(a:Below (xz<|xj W) W W')r:W.grownBy W' r:=⟨a.os,a.tape,a.output,a.size,λk d _=>a.block k d⟩
def Z2C{ws g o cap}:zk ws g o cap .nilFunc [] xw U (λt _=>t=0):=by
 intro W a t x h f k j;refine(Z2F W ws g o cap h f a x j).mono ?_;rintro e W' ⟨rfl,d⟩;refine⟨T7 d U,?_⟩;unfold Wk R2;grind
def Shps.grown{W W' shs d v r}(h:Shps W shs d v)(j:W.grownBy W' r)(f:J d≠r)(p:shs≠[]->∀g o cap,v=.slice (J ⟨g,o,U⟩) (I shs) cap->J g≠r):Shps W' shs d v:=by
 refine⟨(j.block _ (Y9 h.box) f).trans h.box,?_⟩;obtain⟨g,o,cap,rfl,l,n,k,q⟩|⟨a,cap,rfl,rfl⟩:=h.val;refine .inl ⟨g,o,cap,rfl,l,n,Zh8 k j.size,λi x u=> ?_⟩;have t:=j.block g k ZfZ;grind [World.cell?_of_block];simp
def KOld(shs:List<|Int×Int)(bt a:Nat)(v:Value)(t:Nat)(W:World):Prop:=W.heap[bt]?=J (.cells #[.int .i64 t] 3 (0,0))/\Shps W shs a v/\t<=I shs
def Z2D{ws:List Int}{g o cap:Nat}{shs:List (Int×Int)}{bt k:Nat}{v:Value}(B:I shs<=1000000)(n:k≠bt)(q:shs≠[]->∀g o cap,v=.slice (J ⟨g,o,U⟩) (I shs) cap->g≠bt):
  zk ws g o cap (.func (.func 98) #[] #[.pointer<|J ⟨bt,0,U⟩,.pointer<|J ⟨k,0,U⟩]) shs xk (J bt) (KOld shs bt k v):=by
 intro W a t x y w F z;obtain⟨A,D,M⟩:=F;have p:J k≠J bt:=λe=>n ZfZ;have r:shs≠[]->∀g o cap,v=.slice (J ⟨g,o,U⟩) (I shs) cap->J g≠J bt:=λL g o cap e O=>q L g o cap e ZfZ;have h:∀W',Below (xz<|xj W) W W'->Shps W' shs k v:=λW' d=>D.grown (T7 d U) Z1 (λ_ _ _ _ _=>Z1);have f:∀W',Below (xz<|xj W) W W'->W'.heap[bt]?=J (.cells #[.int .i64 t] 3 (0,0)):=λW' d=>(d.block _<|Y9 A).trans A;by_cases l:(adr x).2=0;unfold Wk;rw[Zhc ⟨rfl,l⟩];cases j:shs[t]? with
 |none=>
  have:t=I shs:=by have:=Zjc.1 j;omega
  subst this;refine(FQ W _ ws g o cap y w a x z l λW' d=>Z46 W' shs bt k v B (h W' d)<|f W' d).mono ?_;rintro e W' ⟨rfl,d⟩;exact⟨T7 d _,rfl⟩
 |some s=>
  simp only;cases u:YC s.1 s.2;refine(FQ W _ ws g o cap y w a x z l λW' d=>Z45 W' shs bt k t v s B (h W' d) (f W' d) j u).mono ?_;rintro e W' ⟨rfl,d⟩;exact⟨T7 d _,Z1⟩;refine(Z2E W _ ws g o cap y w a x z l bt _ s.1 s.2 (Y9 A) λW' d=>Z47 W' shs bt k t v s B (h W' d) (f W' d) j u n<|q (λe=>Zg0)).mono ?_;rintro e W' ⟨rfl,C,G⟩;have K:=(ZgZ.1 j).1;refine⟨C,?_⟩;simp only[ZhY];exact⟨trivial,G,D.grown C p r,Z0⟩
 refine(Z2G W _ _ ws g o cap y w a x z l).mono ?_;rintro e W' ⟨rfl,d⟩;refine⟨T7 d _,?_⟩;unfold Wk R2;rw[Zh9 (λH=>l H.2)];by_cases N:(ZR x).2.2=0;simp only[N,ZhY];exact⟨trivial,f W' d,h W' d,M⟩;simp_all
end Vm
end
section
namespace Vm
open Go Go.Proofs Go.RowKit Go.Shelf
def EH(a:Nat)(W:World):Prop:=∀k,UN W a=J k->k<xz (xj W)
def Si{A B C:World}{r}(h:A.grownBy B r)(k:B.grownBy C r):A.grownBy C r:=
 ⟨k.os.trans h.os,k.tape.trans h.tape,k.output.trans h.output,Zhu h.size k.size,λi a d=>(k.block i (Zh8 a h.size) d).trans<|h.block i a d⟩
def Zb7 ws shs old{a t g x d}(hx:ws[a]?=J x)(h:Wk shs old a t x=J (d,g)){f pre}:
  Xp ws shs old (f+1) a t pre=if(I ws:Int)<a+1+d.size then([],2)else if XP ((ws.drop<|a+1).take d.size.toNat) d.gone d.M 0=xw then([],3)else Xp ws shs old f (a+1+d.size.toNat) g (pre++[d]):=by
 simp_all[Xp]
def Z3n(n:Nat){w:World}{ws:List Int}{g o cap bw bg base z:Nat}{bt:Option Nat}{sv gv:Value}{shs:List (Int×Int)}{old:Bool}{K:Nat->World->Prop}(e2:Stat6 ws g o cap sv bw bg base z bt gv w)
  (f3:z<base) (b2:J z≠bt) (a9:zk ws g o cap gv shs old bt K) (d8:K 0 w) (a6:∀t W W',K t W->Below (xz<|xj W) W W'->K t W') (d9:∀t W W',K t W->KpW z base W W'->K t W'):
  EI Fence.wide n xP 102 #[.pointer<|J ⟨bw,0,U⟩,.pointer<|J ⟨bg,0,U⟩] (λd:Ob=> #[WK d]) (KpW z base) (zT ws shs old K) (Z3q ws shs old) (I ws) bt (EH z) w:=by
 intro l h W hW d7 hJ hY h0;refine callsIn_of_wp EK rfl trivial ?_ rfl;simp only[Try.ntmps102,Zit,Zie,Zif,Nat.reduceAdd,Nat.reduceSub,ZiN,ZiO,Zjh,ZiV,ZhU,Zid];have d5:=Zh2<|e2.grown<|T7 hW bt;have b9:=Zh2<|a6 0 w W d8 hW;have b7:=Zh2 h0;clear h0;gi_wp2
 gi_loopw [4] (λp wr=>∃(a t f:Nat) (pre:List Ob),p=.int .i64 a/\Hid (h pre wr/\K t wr/\Stat6 ws g o cap sv bw bg base z bt gv wr/\I ws<f+a/\0<f/\a<=I ws/\I pre<=a/\ZO ws shs old=Xp ws shs old f a t pre))
  (λp _=>I ws- (intOf p).toNat)
 case atStart=>exact⟨0,0,I ws+1,[],rfl,Zh2 ⟨b7.out,b9.out,d5.out,Z0,Z0,Z0,Z1,rfl⟩⟩
 case round=>
  obtain⟨a,t,f,pre,rfl,j⟩:=hrel;have k:=j.out.2.2.1;have a1:=k.vd;have c1:wr.cell? ⟨bw,0,U⟩=J sv:=by rw[Zh7 _ _ _ _ _ _ k.ss];rfl
  have c2:wr.cell? ⟨bg,0,U⟩=J gv:=by rw[Zh7 _ _ _ _ _ _ k.ux];rfl
  have e4:=k.words.len;clear k;by_cases b1:a<I ws
  .obtain⟨x,hx⟩:∃x,ws[a]?=J x:=⟨_,ZgY b1⟩;obtain rfl:sv=.slice (J ⟨g,o,U⟩) (I ws) cap:=a1.resolve_right (λh=>Zg0);clear a1;have e5:((a:Int)<I ws)=True:=ZjA Z0;have hb:=a9 wr a t x j.out.2.2.1.words (by have:=j.out.2.2.1.lt;omega) j.out.2.1 hx;cases ho:Wk shs old a t x with
   |none=>
    rw[ho]at hb;have HX:=Zh2 hb;clear hb;gi_wp2
    refine⟨trivial,λh=>Zgf,(Zj7.2 HX.out).mono ?_⟩;rintro e w1 ⟨y,rfl⟩;have H:=Zh2 y;clear y;gi_wp2
    refine⟨rfl,.inr ⟨_,pre,rfl,⟨3,.inr rfl,rfl,?_⟩,hJ _ _ _ _ j.out.1 H.out<|λr e=>e.symm⟩⟩;obtain⟨_,_,_,hf,N,_,_,L⟩:=j.out;cases f with
    |zero=>omega
    |succ f=>
     simp_all[Xp]
   |some q=>
    obtain⟨d,t'⟩:=q;rw[ho]at hb;have HX:=Zh2 hb;clear hb;obtain⟨a0,B⟩:=qo ho;gi_wp2
    refine⟨trivial,λh=>Zgf,(Zj7.2 HX.out).mono ?_⟩;rintro e w1 ⟨y,rfl,b0⟩;have H:=Zh2 y;have c0:=Zh2 b0;have M:=j.out.2.2.1.grown y;have f0:=Zh2 M;have e1:∀O,(w1.alloc O).cell? ⟨bw,0,U⟩=J (.slice (J ⟨g,o,U⟩) (I ws) cap):=λO=>by
     rw[Ziu _ _ _<|Y9 M.ss,Zh7 _ _ _ _ _ _ M.ss];rfl
    have Z:wr.grownBy (w1.alloc<|.cells #[.int .i64 a,.int .i64 d.size,.int .i64 d.M,.bool d.gone,.int .u64 d.target] 120) bt:=Si y<|Zij _ _ _;have a8:=Zh2<|j.out.2.2.1.grown Z;have hh:=Z4h (w1.alloc<|.cells #[.int .i64 a,.int .i64 d.size,.int .i64 d.M,.bool d.gone,.int .u64 d.target] 120) ws g o cap a8.out.words (by have:=a8.out.lt;omega) d a B b1 a0;unfold WK at hh;rw[B]at hh;have b5:=Zh2 Z;have R:=Zh2 hh;have G:∀f pre,Xp ws shs old (f+1) a t pre=_:=λf pre=>Zb7 ws shs old hx ho (f:=f) (pre:=pre);have S:=Zh2 G;clear y b0 M Z hh G hx;unfold WK;gi_wp2
    refine⟨trivial,λh=>Zgf,(Zj7.2 R.out).mono ?_⟩;rintro e w2 ⟨rfl,C⟩;have A:wr.grownBy w2 bt:=Si b5.out<|T7 C bt;have Q:=Zh2 A;have b3:=Zh2 C;unfold yA;by_cases T:(I ws:Int)<d.aa+1+d.size
    .rw[Zhc T];rw[B]at T;clear C A;gi_wp2
     refine⟨rfl,.inr ⟨_,pre,rfl,⟨2,.inl rfl,rfl,?_⟩,hJ _ _ _ _ j.out.1 Q.out<|λr e=>e.symm⟩⟩;obtain⟨_,_,_,hf,N,_,_,L⟩:=j.out;obtain⟨f,rfl⟩:∃f',f=f'+1:=⟨f-1,Z0⟩;rw[L,S.out,Zhc T]
    .rw[Zh9 T];by_cases X:XP ((ws.drop<|d.aa.toNat+1).take d.size.toNat) d.gone d.M 0=xw
     .rw[Zhc X];rw[B]at T X;clear C A;gi_wp2
      refine⟨rfl,.inr ⟨_,pre,rfl,⟨3,.inr rfl,rfl,?_⟩,hJ _ _ _ _ j.out.1 Q.out<|λr e=>e.symm⟩⟩;obtain⟨_,_,_,hf,N,_,_,L⟩:=j.out;obtain⟨f,rfl⟩:∃f',f=f'+1:=⟨f-1,Z0⟩;rw[L,S.out,Zh9 Z0];simp_all
     .rw[Zh9 X];rw[B]at T X;simp only[Zhh]at X;have b6:=Zh2<|And.intro T X;have Y:=hJ _ _ _ _ j.out.1 A (λr e=>e.symm);have e8:=Zh2 Y;have d6:=Zh2<|j.out.2.2.1.grown A;have u:w2.heap[xz<|xj w1]?=J (.cells #[.int .i64 a,.int .i64 d.size,.int .i64 d.M,.bool d.gone,.int .u64 d.target] 120 (0,0)):=(C.block _ Z1).trans<|Zhk w1 _;have b4:=Zh2 u;obtain⟨fn,e7,assign,e3,hy,L⟩:=hY pre d w2 Y (by have:=j.out.2.2.2.2.2.2.1;omega);unfold WK at hy;rw[B]at hy;have d0:w2.cell? ⟨xz<|xj w1,0,U⟩=J (.int .i64 a):=Zgr;have d1:w2.cell? ⟨xz<|xj w1,1,U⟩=J (.int .i64 d.size):=Zgr;have d2:w2.cell? ⟨xz<|xj w1,2,U⟩=J (.int .i64 d.M):=Zgr;have d3:w2.cell? ⟨xz<|xj w1,3,U⟩=J (.bool d.gone):=Zgr;have d4:w2.cell? ⟨xz<|xj w1,4,U⟩=J (.int .u64 d.target):=Zgr;clear C A Y u;gi_wp2
      refine⟨λh=>Zgf,L.mono ?_⟩;rintro e W3 ⟨rfl,a3,D⟩;have b8:=Zh2 a3;have e9:=Zh2 D;have F:UN w2 z≠J (xz<|xj w1):=by
       intro e;have e0:z<xz (xj wr):=by have:=j.out.2.2.1.lt.2.2.2;omega
       have:UN w2 z=UN wr z:=by
        unfold UN;rw[ZhS (a:=⟨z,0,U⟩)<|Q.out.block z e0 b2]
       rw[this]at e;have:=d7 _ _ j.out.1 _ e;have:=H.out.size;omega
      have P:=D.same _ _ b4.out rfl (by have:=j.out.2.2.1.lt.2.2.2;have:=H.out.size;omega)<|.inr F;have f1:W3.cell? ⟨xz<|xj w1,1,U⟩=J (.int .i64 d.size):=by rw[Zh7 _ _ _ _ _ _ P];rfl
      have a7:=d6.out.kp D;have a4:K t' w2:=a6 _ _ _ c0.out<|((Zhi _ _).alloc (Zh3 _) _).trans<|b3.out.mono Z1;have a5:=d9 _ _ _ a4 D;have a2:=Zh2<|And.intro a7 a5;obtain⟨m,hm⟩:∃m:Nat,d.size=m:=⟨d.size.toNat,by have:=(YD.1 a0).1;omega⟩;rw[hm]at f1;have f5:(m:Int)<=255:=by have:=(YD.1 a0);omega
      have q1:IntKind.i64.wrap (1+(m:Int))=((1+m:Nat):Int):=Zgc;have q2:IntKind.i64.wrap ((a:Int)+((1+m:Nat):Int))=((a+(1+m):Nat):Int):=Zgc;clear a3 D P a7 a4 a5 F;clear X;gi_wp2
      obtain⟨_,_,_,hf,N,f2,f6,L⟩:=j.out;obtain⟨f,rfl⟩:∃f',f=f'+1:=⟨f-1,Z0⟩;rw[S.out,Zh9 Z0,Zh9 b6.out.2]at L;have f4:a+1+m<=I ws:=Z0;refine⟨⟨a+(1+m),t',f,pre++[d],Z1,Zh2 ⟨b8.out,a2.out.2,a2.out.1,Z0,Z0,Z0,Zg1,?_⟩⟩,by grind [intOf]⟩;grind
  .have e6:((a:Int)<I ws)=False:=ZjE Z0
   have HE:Hid<|zT ws shs old K pre wr:=Zh2 (by
    obtain⟨_,hK,_,hf,N,_,_,L⟩:=j.out;refine⟨t,hK,?_⟩;cases f with
    |zero=>omega
    |succ f=>
     simp_all[Xp,ZhZ])
   obtain⟨sa,sc,rfl⟩:∃sa sc,sv=.slice sa (I ws) sc:=by
    grind
   clear a1;gi_wp2
   go_end0
   exact .inl ⟨_,pre,rfl,HE.out,j.out.1⟩
end Vm
namespace Vm
open Go Go.Proofs Go.RowKit Go.Shelf
def Z3o(w:World)(g d:Value)(k:∃a n c,g=.slice a n c)(h:d=.nilFunc\/∃f vs,d=.func (.func f) #[] vs):
  Calls xP 101 #[g,d] w λe l=>e=.returned (.func (.func 102) #[] #[.pointer<|J ⟨xz<|xj w,0,U⟩,.pointer<|J ⟨xz (xj w)+1,0,U⟩])/\
   l=(w.alloc<|.cells #[g] 28).alloc (.cells #[d] 168):=by
 have j:∀(fn:Go.Fn) (first cap:Array Value) (w:World),(Instr.makeFunc fn first cap).run xP w=.ok (.func fn first cap) w:=λ_ _ _ _=>rfl;obtain⟨a,n,c,rfl⟩:=k;obtain rfl|⟨f,vs,rfl⟩:=h
 .go_enter jU,Try.ntmps101;go_wp2;exact ZhE (results_tmp rfl _ _ _) rfl ⟨rfl,rfl⟩
 .go_enter jU,Try.ntmps101;go_wp2;exact ZhE (results_tmp rfl _ _ _) rfl ⟨rfl,rfl⟩
def Z6B w:Sem.run xP (binOp .neq 20 .nilIface .nilIface) w=.ok (.bool xw) w:=ZgR
def Z6C w T v:Sem.run xP (binOp .neq 20 (.iface T v) .nilIface) w=.ok (.bool xk) w:=ZgR
def ZaJ(w:World)(x:Int):Sem.run xP (Instr.typeAssert (.iface 167<|.agg #[.int .i64 x]) 20 167 xk) w=.ok (.tuple #[.agg #[.int .i64 x],.bool xk]) w:=ZgR
def Z35(n:Nat)(p q:Addr)(w:World):
  CallsDIn Fence.wide n xP 100 #[.pointer<|J p,.pointer<|J q] .returning w λe f g=>e=.returned (.tuple #[])/\f=.returning/\g=w:=by
 have j:=Z6B;refine callsDIn_of_wpSIn jT rfl trivial λa h d=> ?_;simp only[Try.ntmps100,Zit,Zie,Zif,Nat.reduceAdd,Nat.reduceSub,ZiN,ZiO,Zjh,ZiV,ZhU,Zid];apply wpSIn_seq;apply wpSIn_region;simp[wpOpsSIn,go_sem,recoverD,d,Exit.thenS];refine wpSIn_of_wpIn rfl ?_;gi_wp2
 cases a;simp_all [bodyPostS,results,Try.results100]
def Z36(n:Nat)(a d:Nat)(x:Int)(w:World)(z l:Value)(f:Boxed w a 110 z)(g:Boxed w d 34 l)(h:a≠d):
  CallsDIn Fence.wide n xP 100 #[.pointer<|J ⟨a,0,U⟩,.pointer<|J ⟨d,0,U⟩] (.panicking<|Vr x) w λe y j=>
   e=.returned (.tuple #[])/\y=.panicking [{v:=.iface 167<|.agg #[.int .i64 x],recovered:=xk}]/\
   Boxed j a 110 (.slice U 0 0)/\Boxed j d 34 (.int .i64 x)/\(xz (xj w)<=xz (xj j)/\∀k,k<xz (xj w)->k≠a->k≠d->j.heap[k]?=w.heap[k]?)/\j.os=w.os/\j.tape=w.tape/\j.output=w.output:=by
 have C:=Z6C;have D:=ZaJ;have P:=(f.alloc<|.cells #[.int .i64 x] 167).cell;have p2:=(f.alloc<|.cells #[.int .i64 x] 167).frozen;have Q:=(g.alloc<|.cells #[.int .i64 x] 167).cell;have R:=(g.alloc<|.cells #[.int .i64 x] 167).frozen;have p3:=f.cell;have p4:=f.frozen;have S:=g.cell;have T:=g.frozen;have H:=f.lt;have K:=g.lt;have t:¬a=d:=h;have u:¬d=a:=λe=>h e.symm;have L:¬a=xz (xj w):=Z0;have M:¬xz (xj w)=a:=Z0;have N:¬d=xz (xj w):=Z0;have O:¬xz (xj w)=d:=Z0;have o:=Zh2<|And.intro f g;clear f g h;refine callsDIn_of_wpSIn jT rfl trivial λB A r=> ?_;simp only[Try.ntmps100,Zit,Zie,Zif,Nat.reduceAdd,Nat.reduceSub,ZiN,ZiO,Zjh,ZiV,ZhU,Zid];apply wpSIn_seq;apply wpSIn_region;simp[wpOpsSIn,go_sem,recoverD,r,Vr,Exit.thenS];refine wpSIn_of_wpIn rfl ?_;gi_wp2
 gi_region
 all_goals gi_wp2
 obtain⟨f,g⟩:=o.out;have p:Boxed ((w.setCell ⟨a,0,U⟩<|.slice U 0 0).setCell ⟨d,0,U⟩<|.int .i64 x) a 110<|.slice U 0 0:=(Zhj _ ⟨d,0,U⟩ _ a t).trans<|f.set _;have q:Boxed ((w.setCell ⟨a,0,U⟩<|.slice U 0 0).setCell ⟨d,0,U⟩<|.int .i64 x) d 34<|.int .i64 x:=Boxed.set _ (show Boxed (w.setCell ⟨a,0,U⟩<|.slice U 0 0) d 34 l from(Zhj _ ⟨a,0,U⟩ _ d u).trans g);refine⟨rfl,_,rfl,_,by simp[results,Try.results100],rfl,rfl,p.alloc _,q.alloc _,⟨?_,λk F k1 G=> ?_⟩,rfl,rfl,rfl⟩;simp;show(World.alloc _ _).heap[k]?=_;grind [Below.heap_alloc,World.setCell,Below.heap_setCell]
end Vm
namespace Vm
open Go Go.Proofs Go.RowKit Go.Shelf
def TQ(a:Ob):List Value:=[.int .i64 a.aa,.int .i64 a.size,.int .i64 a.M,.bool a.gone,.int .u64 a.target]
def WQ(l:List Ob):List Value:=l.flatMap TQ
def Z6U l x:WQ (l++[x])=WQ l++TQ x:=by simp[WQ]
structure WIv (w:World) (bt:Option Nat) (pre:List Ob) (W:World):Prop where
 row:∃v,Boxed W (xz<|xj w) 110 v/\W.ownsRow (xz (xj w)+4) 120 5 v (I pre) (WQ pre)
 e:Boxed W (xz (xj w)+1) 34<|.int .i64 0
 gr:w.grownBy W bt
 size:xz (xj w)+4<=xz (xj W)
def T8{w X Y:World}{bt row}(h:w.grownBy X bt)(k:X.grownBy Y row)(f:∀r,row=J r->J r=bt\/xz (xj w)<=r):w.grownBy Y bt:=
 ⟨k.os.trans h.os,k.tape.trans h.tape,k.output.trans h.output,Zhu h.size k.size,λi a d=>
  (k.block i (Zh8 a h.size) ZfZ).trans (h.block i a d)⟩
theorem jf{W b t v}(h:Boxed W b t v):UN W b=v.ownBlock:=by
 unfold UN;rw[h.cell];rfl
def WIv.tn{w bt pre W}(h:WIv w bt pre W):EH (xz<|xj w) W:=by
 let⟨v,f,d⟩:=h.row;intro k a;rw[jf f]at a;exact(d.lt k a).2
def WIv.own{w bt}(u:∀r,bt=J r->r<xz (xj w)):OwnP bt (xz (xj w)+4)<|WIv w bt:=by
 intro s X Y row h d p;have y:∀k,xz (xj w)<=k->k<xz (xj w)+4->J k≠row:=by
  intro k t A e;obtain j|⟨j,_⟩:=p k e.symm;grind;omega
 let⟨v,z,a⟩:=h.row;refine⟨⟨v,z.kept d Zg0,a.kept d ?_⟩,h.e.kept d Zg0,T8 h.gr d λr e=>ZfZ,Zhu h.size d.size⟩;cases l:v.ownBlock with
 |none=>simp
 |some b=>
  refine .inr λe=> ?_;have t:=a.lt b l;obtain j|⟨_,o,n,x⟩:=p b e.symm;grind;obtain⟨rfl,_⟩|⟨g,cap,q,rfl,_,f,_⟩:=a.2;simp[Value.ownBlock]at l;obtain rfl:g=b:=by grind [Value.ownBlock]
  rw[f]at n;cases n;cases x
def WIv.appended{w W w1:World}{bt:Option Nat}{pre:List Ob}{x:Ob}{v v':Value}{tmp:Obj}(C:∀r,bt=J r->r<xz (xj w))(h:WIv w bt pre W)(A:Boxed W (xz<|xj w) 110 v)
  (g:W.ownsRow (xz (xj w)+4) 120 5 v (I pre)<|WQ pre) (d:w1.ownsRow (xz (xj w)+4) 120 5 v' (I pre+1)<|WQ pre++TQ x)
  (a:(W.alloc tmp).grownBy w1 v.ownBlock) (f:v'.ownBlock=v.ownBlock\/v'.ownBlock=J (xz<|xj<|W.alloc tmp)):
  Boxed w1 (xz<|xj w) 110 v/\KeepsFrom (xz (xj w)+4) W (w1.setCell ⟨xz<|xj w,0,U⟩ v')/\KpW (xz<|xj w) (xz (xj w)+4) W (w1.setCell ⟨xz<|xj w,0,U⟩ v')/\WIv w bt (pre++[x]) (w1.setCell ⟨xz<|xj w,0,U⟩ v'):=by
 have u:=h.size;obtain⟨y,l,F,j,B⟩:=A.appended Zgg (qB g (B':=xz<|xj w) Z0) Z0 (Zh3 _) (qB d (B':=xz<|xj w) Z0) a;have z:∀b,v.ownBlock=J b->xz (xj w)+4<=b:=λb p=>(g.lt b p).1
 have t:(w1.setCell ⟨xz<|xj w,0,U⟩ v').ownsRow (xz (xj w)+4) 120 5 v' (I pre+1)<|WQ pre++TQ x:=d.kept (Zjm w1 (xz<|xj w) v') (by
  cases p:v'.ownBlock with
  |none=>simp
  |some b=>exact .inr λe=>by have G:=(d.lt b p).1;grind)
 refine⟨y,j.from _,⟨j.size,λk o n H D K=> ?_,λk n e=> ?_⟩,⟨v',l,?_⟩,?_,?_,Zhu u j.size⟩;rw[Zhj _ _ _ _ D,a.block k (by have:=Y9 n;simp;omega) (λe=> ?_),Zh4 _ _ _<|Y9 n,n];grind [jf,trans];rw[jf l]at e;rw[jf A];obtain f|f:=f;simp_all;rw[f]at e;simp at e;omega;simp_all[ZhJ,Z6U];have q:Boxed w1 (xz (xj w)+1) 34<|.int .i64 0:=(h.e.alloc tmp).kept a (λe=>ZfZ);exact(Zhj _ _ _ _ Z1).trans q;refine T8 (T8 (T8 h.gr (Zij W tmp U) Z1) a λr e=>.inr ?_) (Zjm w1 (xz<|xj w) v') λr e=>.inr ?_;grind;simp_all
def KpW.alloc{a base W}o(d:a<xz (xj W)):KpW a base W<|W.alloc o:=by
 refine⟨Z1,λk h f _ _ _=>(Zh4 _ _ _ ZfZ).trans f,λk _ g=> ?_⟩;simp_all[UN,Ziu]
end Vm
namespace Vm
open Go Go.Proofs Go.RowKit Go.Shelf
attribute [local go_sem] Oper.semAt_some
def Z5v:(xP.info? 120).map (λi=>(i.zero,i.size,i.bytes))=J (J<|.agg #[.int .i64 0,.int .i64 0,.int .i64 0,.bool xw,.int .u64 0],5,40):=Z2
def unO:xP.underlying 110=J (.slice 120):=Z2
def Z3a(w:World)a b c d e t:∀j u,[a,b,c,d,e][j]?=J u->(w.alloc<|.cells #[a,b,c,d,e] t).cell? ((⟨xz<|xj w,0,U⟩:Addr).add j)=J u:=by
 intro j u h;have:=Zh7 _ _ j _ _ _<|Zhk w<|.cells #[a,b,c,d,e] t;grind [Addr.add]
def Fg(w:World)(ws:List Int)(shs:List<|Int×Int)(old:Bool)(bt:Option Nat)(K:Nat->World->Prop)(e:Ending)(W:World):Prop:=
 ∃v n a,e=.returned (.tuple #[v,.int .i64 n])/\w.grownBy W bt/\W.ownsRow (xz (xj w)+4) 120 5 v (I a) (WQ a)/\((n=0/\zT ws shs old K a W)\/((n=2\/n=3)/\a=[]/\ZO ws shs old=([],n)))
def Z04{w:World}{ws:List Int}{g o cap:Nat}{bt:Option Nat}{p j:Value}{shs:List (Int×Int)}{old:Bool}{K:Nat->World->Prop}(hw:Words w ws g o cap)
  (b5:p=.slice (J ⟨g,o,U⟩) (I ws) cap\/(ws=[]/\∃a c,p=.slice a 0 c)) (hg:(ws≠[]->g<xz (xj w))/\g<xz (xj w)+4/\g≠xz (xj w)) (d7:j=.nilFunc\/∃f vs,j=.func (.func f) #[] vs)
  (a0:∀r,bt=J r->r<xz (xj w)) (d6:J g≠bt) (a6:zk ws g o cap j shs old bt K) (b6:K 0 w)
  (z:∀t A B row,K t A->A.grownBy B row->(∀r,row=J r->xz (xj w)<=r)->K t B)
  (b8:∀bl base t A B,xz (xj w)<=bl->xz (xj w)<=base->K t A->KpW bl base A B->K t B):
  Calls xP 97 #[p,j] w (Fg w ws shs old bt K):=by
 refine(Zj7 (n:=5)).1 ?_;have g4:∀(fn:Go.Fn) (first cap:Array Value) (w:World),(Instr.makeFunc fn first cap).run xP w=.ok (.func fn first cap) w:=λ_ _ _ _=>rfl;have e7:∃a n c,p=.slice a n c:=by
  obtain rfl|⟨_,a,c,rfl⟩:=b5;simp;simp
 refine callsIn_of_wp_marks Fc rfl trivial ?_ rfl;simp only[Try.ntmps97,Zit,Zie,Zif,Nat.reduceAdd,Nat.reduceSub,ZiN,ZiO,Zjh,ZiV,ZhU,Zid];have he:=λW=>Z3o W p j e7 d7;gi_wp2
 refine⟨trivial,(Zj7.2<|he _).mono ?_⟩;rintro e w1 ⟨rfl,rfl⟩;gi_wp2
 have a2:∀b:Nat,b<xz (xj w)->((((w.alloc<|Obj.cells #[.slice U 0 0] 110).alloc<|.cells #[.int .i64 0] 34).alloc<|.cells #[p] 28).alloc<|.cells #[j] 168).heap[b]?=w.heap[b]? :=λb hb=>by
  grind [Below.heap_alloc]
 have b0:Boxed ((((w.alloc<|Obj.cells #[.slice U 0 0] 110).alloc<|.cells #[.int .i64 0] 34).alloc<|.cells #[p] 28).alloc<|.cells #[j] 168) (xz<|xj w) 110<|.slice U 0 0:=(((Boxed.new w _ _).alloc _).alloc _).alloc _;have b1:Boxed ((((w.alloc<|Obj.cells #[.slice U 0 0] 110).alloc<|.cells #[.int .i64 0] 34).alloc<|.cells #[p] 28).alloc<|.cells #[j] 168) (xz (xj w)+1) 34<|.int .i64 0:=by
  have:=((Boxed.new (w.alloc<|Obj.cells #[.slice U 0 0] 110) 34<|.int .i64 0).alloc<|.cells #[p] 28).alloc<|.cells #[j] 168;rwa[Zj3]at this
 have b2:Boxed ((((w.alloc<|Obj.cells #[.slice U 0 0] 110).alloc<|.cells #[.int .i64 0] 34).alloc<|.cells #[p] 28).alloc<|.cells #[j] 168) (xz (xj w)+2) 28 p:=by
  have:=(Boxed.new ((w.alloc<|Obj.cells #[.slice U 0 0] 110).alloc<|.cells #[.int .i64 0] 34) 28 p).alloc<|.cells #[j] 168;simp_all
 have b3:Boxed ((((w.alloc<|Obj.cells #[.slice U 0 0] 110).alloc<|.cells #[.int .i64 0] 34).alloc<|.cells #[p] 28).alloc<|.cells #[j] 168) (xz (xj w)+3) 168 j:=by
  have:=Boxed.new (((w.alloc<|Obj.cells #[.slice U 0 0] 110).alloc<|.cells #[.int .i64 0] 34).alloc<|.cells #[p] 28) 168 j;simp_all
 have L:w.grownBy ((((w.alloc<|Obj.cells #[.slice U 0 0] 110).alloc<|.cells #[.int .i64 0] 34).alloc<|.cells #[p] 28).alloc<|.cells #[j] 168) bt:=⟨rfl,rfl,rfl,Zg1,λk hk _=>a2 k hk⟩;have P:xz (xj<|(((w.alloc<|Obj.cells #[.slice U 0 0] 110).alloc<|.cells #[.int .i64 0] 34).alloc<|.cells #[p] 28).alloc<|.cells #[j] 168)=xz (xj w)+4:=Z1;generalize f8:(((w.alloc<|Obj.cells #[.slice U 0 0] 110).alloc<|.cells #[.int .i64 0] 34).alloc<|.cells #[p] 28).alloc (.cells #[j] 168)=W0 at*;have e8:Stat6 ws g o cap p (xz (xj w)+2) (xz (xj w)+3) (xz (xj w)+4) (xz<|xj w) bt j W0:=by
  refine⟨⟨λi x F=> ?_,hw.le,hw.cap,hw.len,hw.u64⟩,b5,b2,b3,λhn=> ?_,⟨Z0,Z0,Z0,Z0⟩,⟨Z0,Z0,Z0⟩,d6,?_,?_⟩;rw[<-hw.aa i x F];grind [World.cell?_of_block];obtain⟨x,F⟩:∃x,ws[0]?=J x:=by cases ws with|nil=>simp_all|cons x l=>simp
  have:=hw.aa 0 x F;rw[a2 g<|hg.1 hn];unfold World.cell? at this;cases hh:w.heap[g]? with
  |none=>simp_all
  |some ob=>
   refine⟨ob,rfl,?_⟩;grind [Obj.isCells]
  grind;grind
 have a5:K 0 W0:=z 0 w W0 U b6 ⟨L.os,L.tape,L.output,L.size,λk hk _=>a2 k hk⟩ Z1;have b4:=Z3n 4 e8 Z0 (λe=>ZfZ) a6 a5 (λt A B hA O=>z t A B U hA ⟨O.os,O.tape,O.output,O.size,λk hk _=>O.block k hk⟩ Z1) (λt A B hA O=>b8 _ _ t A B (Zh3 _) Z0 hA O)
 refine Zbi rfl Z0 (gf:=102) (lb:=#[.pointer<|J ⟨xz (xj w)+2,0,U⟩,.pointer<|J ⟨xz (xj w)+3,0,U⟩]) rfl trivial (enters_of EK Z2 rfl)
  b4 (λr e=>ZfZ) KpW.trans (λW l o o' h1 h2 h3 _=>KpW.put o' h2 h3 Z0) (Zhi _ _) (λ_=>rfl)
  (WIv w bt) (P▸WIv.own a0) (λpre W h=>h.tn) ⟨⟨_,b0,Zio _ _ _ _⟩,b1,L,Z0⟩ ?hS
  (λx a' W=>∃y,xz (xj w)+4<=y/\W.heap[y]?=J (.cells #[.int .i64 x.aa,.int .i64 x.size,.int .i64 x.M,.bool x.gone,.int .u64 x.target] 120 (0,0))/\
   a'= {tmps:=#[p,j,xy,xy,.pointer<|J ⟨xz<|xj w,0,U⟩,.pointer<|J ⟨xz (xj w)+1,0,U⟩,.pointer<|J ⟨y,0,U⟩,
    .func (.func 100) #[] #[.pointer<|J ⟨xz<|xj w,0,U⟩,.pointer<|J ⟨xz (xj w)+1,0,U⟩],p,j,.func (.func 102) #[] #[.pointer<|J ⟨xz (xj w)+2,0,U⟩,.pointer<|J ⟨xz (xj w)+3,0,U⟩],WK x,xy,xy,xy,xy,xy],defers:=[]})
  ?hAx ?assign ?body ?done ?panic
 case hS=>
  rintro u X Y row ⟨t,hK,hR⟩ M d;exact⟨t,z t X Y row hK M λr e=>(d r e).elim (λe2=>by cases e2) (λe2=>Z0),hR⟩
 case hAx=>
  rintro x a' s X Y row ⟨y,O,F,ha⟩ M d;refine⟨y,O,(M.block y (Y9 F) λe=> ?_).trans F,ha⟩;obtain e2|⟨_,o2,h2,h3⟩:=d y e.symm;cases e2;rw[F]at h2;cases h2;cases h3
 case assign=>
  rintro l pre x W K2 q b7;simp only[List.zip_cons_cons,Array.zip,WK];gi_wp2
  exact b7 _ _ ((KeepsOthers.alloc W _).from _) (KpW.alloc _ (by have:=q.size;omega)) ((WIv.own a0).alloc _ q) ⟨xz<|xj W,q.size,Zhk W _,rfl⟩
 case body=>
  rintro l pre x a' W q ⟨y,f7,F,rfl⟩ a8;obtain⟨v,Q,d⟩:=q.row;obtain⟨i0,d8,e9,f2,f3⟩:=info_parts Z5v;obtain⟨G,H,rfl⟩:=Yi d;have c1:=Q.cell;have c2:=Q.frozen;have d0:W.cell? ⟨y,0,U⟩=J (.int .i64 x.aa):=Zgo;have d1:W.cell? ⟨y,1,U⟩=J (.int .i64 x.size):=Zgo;have d2:W.cell? ⟨y,2,U⟩=J (.int .i64 x.M):=Zgo;have d3:W.cell? ⟨y,3,U⟩=J (.bool x.gone):=Zgo;have d4:W.cell? ⟨y,4,U⟩=J (.int .u64 x.target):=Zgo;have g5:I pre<=1000000:=Zhu (Nat.le_of_lt a8) hw.len;have f6:=q.size;have HA:=λtmp w1 v'=>WIv.appended (W:=W) (w1:=w1) (x:=x) (v':=v') (tmp:=tmp) a0 q Q d;gi_wp2_with (gi_at_builtin;refine wpListIn_append_own_at _ rfl _ _ 110 rfl (xz (xj w)+4) 120 i0 _ 5 40 unO d8 e9 f2 f3 rfl Zgg _ _ _ rfl (d.alloc _) ⟨xz<|xj W,0,U⟩ 1 1 (TQ x) rfl rfl (Z3a _ _ _ _ _ _ _) (by simp[TQ,Value.oneCell']) (by grind [maxLen]) Z0 Zg1 ?_;intro v' w1 N a1 _ c0;obtain⟨g',f5,rfl⟩:=ownsRow_succ N;obtain⟨e1,e2,e3,e4⟩:=HA _ _ _ N a1 c0;have e5:=e1.cell;have e6:=e1.frozen)
  rw[P];exact⟨e2,e3,e4⟩
 case done=>
  rintro D u W hD hS q Z;obtain⟨v,Q,d⟩:=q.row;obtain⟨G,H,rfl⟩:=Yi d;have c1:=Q.cell;have c2:=Q.frozen;have c3:=q.e.cell;have c4:=q.e.frozen;rw[P]at hD;gi_wp2
  have a4:((W.setCell ⟨xz<|xj w,0,U⟩<|.slice G (I u) H).setCell ⟨xz (xj w)+1,0,U⟩<|.int .i64 0).heap[D]?=J (.deferred<|J []):=by
   rw[Zhj _ _ _ _ ZfZ,Zhj _ _ _ _ ZfZ];exact Z
  have f0:Boxed ((W.setCell ⟨xz<|xj w,0,U⟩<|.slice G (I u) H).setCell ⟨xz (xj w)+1,0,U⟩<|.int .i64 0) (xz<|xj w) 110<|.slice G (I u) H:=
   (Zhj _ _ _ _ Z1).trans (Q.set _)
  have f1:Boxed ((W.setCell ⟨xz<|xj w,0,U⟩<|.slice G (I u) H).setCell ⟨xz (xj w)+1,0,U⟩<|.int .i64 0) (xz (xj w)+1) 34<|.int .i64 0:=
   Boxed.set _ (show Boxed (W.setCell ⟨xz<|xj w,0,U⟩<|.slice G (I u) H) (xz (xj w)+1) 34 (.int .i64 0)from(Zhj _ _ _ _ Z1).trans q.e)
  have g1:=Zjm W (xz<|xj w)<|.slice G (I u) H;have g2:=Zjm (W.setCell ⟨xz<|xj w,0,U⟩<|.slice G (I u) H) (xz (xj w)+1)<|.int .i64 0;have R:=d.lt
  have r2:=(d.kept g1 (by
   cases hb:(Value.slice G (I u) H).ownBlock with
   |none=>simp
   |some b=>exact .inr λe=>by have:=(R b hb).1;grind)).kept g2 (by
   cases hb:(Value.slice G (I u) H).ownBlock with
   |none=>simp
   |some b=>exact .inr λe=>by have:=(R b hb).1;grind)
  generalize f9:(W.setCell ⟨xz<|xj w,0,U⟩<|.slice G (I u) H).setCell ⟨xz (xj w)+1,0,U⟩ (.int .i64 0)=W2 at*;have g3:=ZjQ W2 D<|.deferred U;have S:Boxed (W2.putObj D<|.deferred U) (xz<|xj w) 110<|.slice G (I u) H:=(ZhF Z0).trans f0;have T:Boxed (W2.putObj D<|.deferred U) (xz (xj w)+1) 34<|.int .i64 0:=(ZhF Z0).trans f1;have k0:=S.cell;have k1:=T.cell;refine⟨Z1,.inl ⟨D,_,rfl,Zke a4,?_⟩⟩;refine⟨Z1,.inr ⟨λh=>Zgf,.func 100,_,100, #[.pointer<|J ⟨xz<|xj w,0,U⟩,.pointer<|J ⟨xz (xj w)+1,0,U⟩],rfl,ZgR,λ_ _=>trivial,?_⟩⟩;refine(Z35 _ _ _ _).mono ?_;rintro e u' f4 ⟨rfl,rfl,rfl⟩;refine⟨.tuple #[.slice G (I u) H,.int .i64 0],by simp[results,Try.results97,go_sem,k0,k1],?_⟩;obtain⟨t,hK,hR⟩:=hS;refine⟨_,0,u,rfl,T8 (T8 (T8 q.gr g1 λr e=>.inr ?_) g2 λr e=>.inr ?_) g3 λr e=>.inr ?_,ownsRow_putObj r2 _ a4 rfl,.inl ⟨rfl,t,z t _ _ _ (z t _ _ _ (z t _ _ _ hK g1 λr e=> ?_) g2 λr e=> ?_) g3 λr e=> ?_,hR⟩⟩;all_goals (grind)
 case panic=>
  rintro D chain pre W hD ⟨e,d5,rfl,b9⟩ q Z;rw[P]at hD;obtain⟨v,Q,d⟩:=q.row;have g3:=ZjQ W D<|.deferred U;have S:Boxed (W.putObj D<|.deferred U) (xz<|xj w) 110 v:=(ZhF Z0).trans Q;have T:Boxed (W.putObj D<|.deferred U) (xz (xj w)+1) 34<|.int .i64 0:=(ZhF Z0).trans q.e;have C:w.grownBy (W.putObj D<|.deferred U) bt:=T8 q.gr g3 λr e=>.inr ZfZ;refine⟨Z1,.inl ⟨D,_,rfl,Zke Z,?_⟩⟩;refine⟨Z1,.inr ⟨λh=>Zgf,.func 100,_,100, #[.pointer<|J ⟨xz<|xj w,0,U⟩,.pointer<|J ⟨xz (xj w)+1,0,U⟩],rfl,ZgR,λ_ _=>trivial,?_⟩⟩;refine(Z36 _ (xz<|xj w) (xz (xj w)+1) e _ _ _ S T Z0).mono ?_;rintro e' u' f4 ⟨rfl,rfl,h0,h1,⟨e0,hk⟩,d9,a3,a9⟩;have k0:=h0.cell;have k1:=h1.cell;refine⟨.tuple #[.slice U 0 0,.int .i64 e],by simp[results,Try.results97,go_sem,k0,k1],?_⟩;refine⟨_,e,[],rfl,⟨d9.trans C.os,a3.trans C.tape,a9.trans C.output,Zhu C.size e0,λk a7 hn=> ?_⟩,Zio _ _ _ _,.inr ⟨d5,rfl,b9⟩⟩;exact(hk k (Zh8 a7 C.size) Z0 Z0).trans (C.block k a7 hn)
end Vm
namespace Vm
open Go Go.Proofs Go.RowKit Go.Shelf
theorem Sz{w G k n v}(r:Rd w G (.int k n) v):v=.int k n:=by cases r;rfl
theorem Oi{w G b v}(r:Rd w G (.bool b) v):v=.bool b:=by cases r;rfl
def Z0b{w G ws v}(r:Rd w G (.sl<|ws.map vu) v)(B:∀b,G b->b<xz (xj w))(u:I ws<=1000000)(y:∀x∈ws,ZC x)q:
  ∃g o cap,Words w ws g o cap/\(v=.slice (J ⟨g,o,U⟩) (I ws) cap\/(ws=[]/\∃a c,v=.slice a 0 c))/\((ws≠[]->g<xz (xj w))/\(g<(xz<|xj w)\/g=q)):=by
 generalize p:ws.map vu=L at r;cases r with
 |nil a cap C=>
  have:ws=[]:=Zg0;subst this;exact⟨q,0,0,⟨Z1,Z1,ZfZ,Z1,Z1⟩,Z1,Z1,.inr rfl⟩
 |sl _ b o cap k vs d l A f h n=>
  subst p;simp only[Zhv]at d h⊢;refine⟨b,o,cap,⟨λi x z=> ?_,d,l,u,y⟩,.inl rfl,Zg0,Zg0⟩;have j:(ws.map vu)[i]?=J (vu x):=by rw[Zhq,z];rfl
  have t:k=1:=((f _<|Zha j).1).symm;subst t;have D:i<I ws:=ZfZ;rw[h i Z0];have:=n i (vu x) (by have:=VQ f j 0 Z0;simp_all);rw[Sz this]
def Za0{w G shs v}(r:Rd w G (.sl<|shs.map Wd) v)(q:∀b,G b->b<xz (xj w)):
  (∃g o cap,v=.slice (J ⟨g,o,U⟩) (I shs) cap/\I shs<=cap/\cap<=maxLen/\g<xz (xj w)/\∀i x,shs[i]?=J x->w.cell? ⟨g,o+i*2,U⟩=J (.int .i64 x.1)/\w.cell? ⟨g,o+i*2+1,U⟩=J (.int .i64 x.2))\/
  (∃a cap,v=.slice a 0 cap/\shs=[]):=by
 generalize t:shs.map Wd=L at r;cases r with
 |nil a cap A=>
  simp_all
 |sl _ b o cap k vs h l n d p j=>
  subst t;simp only[Zhv]at h p⊢;refine .inl ⟨b,o,cap,rfl,h,l,q b n,λi x u=> ?_⟩;have f:(shs.map Wd)[i]?=J (Wd x):=by rw[Zhq,u];rfl
  have C:k=2:=((d _<|Zha f).1).symm;have B:i<I shs:=ZfZ;have y:=j (i*2) (vi x.1) (by have:=VQ d f 0 Z0;simp_all);have z:=j (i*2+1) (vi x.2) (by have:=VQ d f 1 Z0;simp_all);grind [Sz,Nat.add_assoc]
def Mm{w G}:∀l i c,(flat<|l.map ZN)[i]?=J c->Rd w G c ((WQ l).getD i xy)
 | [],i,c,h=>Zg0
 |x::l,i,c,h=>by
  rw[ZhA,Qc]at h;have e:WQ (x::l)=TQ x++WQ l:=by simp[WQ]
  by_cases d:i<5
  match i,d with
  |0,_=>simp at h;subst h;exact .int _ _
  |1,_=>simp at h;subst h;exact .int _ _
  |2,_=>simp at h;subst h;exact .int _ _
  |3,_=>simp at h;subst h;exact .bool _
  |4,_=>simp at h;subst h;exact .int _ _
  have a:(flat<|l.map ZN)[i-5]?=J c:=by
   rw[Zhp Zg0]at h;simpa[ZN,V.cells]using h
  have:=Mm (w:=w) (G:=G) l _ c a;have f:(TQ x++WQ l).getD i xy=(WQ l).getD (i-5) xy:=by
   simp[List.getD_eq_getElem?_getD];rw[Zhp (by grind [TQ])];simp[TQ]
  simp_all
def Z6V(l:List Ob):∀x∈l.map ZN,V.aw 5 x:=by
 intro x a;obtain⟨o,_,rfl⟩:=Zhl.1 a;exact⟨rfl,Z1⟩
def Mn{w G B e v l}(h:w.ownsRow B e 5 v (I l)<|WQ l)(q:∀c,B<=c->c<xz (xj w)->G c):Rd w G (.sl<|l.map ZN) v:=by
 have a:=h.1;obtain⟨rfl,p⟩|⟨g,cap,j,rfl,r,t,o,d,_⟩:=h.2;have:l=[]:=Zg0;subst this;exact .nil _ _ ZfZ
 have:=Rd.sl (w:=w) (G:=G) _ g 0 cap 5 (λi=>(WQ l).getD i xy) Zg0 d ZfZ (Z6V l) (λi n=>by
   have f:i< I (WQ l):=by rw[a];simpa using n
   rw[ZhN,h.cellAt i Z0];simp[f]) (λi c k=>Mm l i c k)
 simp_all
def Zb8{ws shs old K n xs W}(a:shs=[])(h:(n=0/\zT ws shs old K xs W)\/((n=2\/n=3)/\xs=[]/\ZO ws shs old=([],n))):ZO ws shs old=(xs,n):=by
 obtain⟨rfl,t,_,h⟩|⟨_,rfl,h⟩:=h;simp_all;exact h
def jZ:RX:=by
 intro W O P;refine⟨Z2,λw G vs L p q=> ?_⟩;have r0:=q 0 _ rfl;obtain⟨⟨l⟩⟩:=vs;simp at p;rename_i v0 l;cases l with
 |cons _ _=>simp at p
 |nil=>
  simp at r0;obtain⟨g,o,cap,C,k,x,N⟩:=Z0b r0 L O P<|xz (xj w)+1;have z:=Z04 (w:=w) (shs:=[]) (old:=xw) (bt:=U) (K:=λt _=>t=0) C k ⟨x,Z0,Z0⟩ (.inl rfl) Z1 Z1 Z2C rfl (λt A B row h _ _=>h) (λQ base t A B _ _ h _=>h);obtain⟨S,T,sc,rfl⟩:∃a n c,v0=.slice a n c:=by
   obtain rfl|⟨_,a,c,rfl⟩:=k;simp;simp
  have D:=Zh2 z;clear z C k r0 q;go_enter Z1V,Try.ntmps84;go_wp2_with (go_at_call 97;refine D.out.mono ?_;rintro e w1 ⟨v,n,X,rfl,f,d,u⟩;have F:=Zh2<|And.intro f<|And.intro d u;clear f d u)
  obtain⟨f,d,u⟩:=F.out;have M:=Zb8 rfl u;refine ZhE (v:=.tuple #[v,.int .i64 n]) (by simp[results,Try.results84,go_sem]) rfl ⟨_,rfl,(Zhi _ w).grown f (Zh3 _) (λj e=>by cases e),?_⟩;rw[M];refine .am _ _ rfl ?_;intro i y r
  match i,r with
  |0,r=>cases r;exact Mn d λc R H=>.inr ⟨Z0,H⟩
  |1,r=>cases r;exact .int _ _
def KpW.cell{j base A B}(h:KpW j base A B){k i c}(hc:A.cell? ⟨k,i,U⟩=J c)(n:k<base)(l:k≠j):B.cell? ⟨k,i,U⟩=J c:=by
 unfold World.cell? at hc;cases d:A.heap[k]? with
 |none=>simp_all
 |some g=>
  have f:g.isCells=xk:=by
   rw[d]at hc;cases g<;>simp_all [Obj.isCells]
  rw[<-hc];exact ZhS (a:=⟨k,i,U⟩)<|(h.same k g d f l Z0).trans d.symm
def KOld.grown{shs bt a t n v A B row}(h:KOld shs bt a v t A)(d:A.grownBy B row)(p:bt<n)(l:a<n)(u:shs≠[]->∀g o cap,v=.slice (J ⟨g,o,U⟩) (I shs) cap->g<n)(q:∀r,row=J r->n<=r):KOld shs bt a v t B:=by
 let⟨f,j,k⟩:=h;exact⟨(d.block _ ZfZ ZfZ).trans f,j.grown d ZfZ ZfZ,k⟩
def KOld.kp{shs bt d t n j base v A B}(h:KOld shs bt d v t A)(a:KpW j base A B)(u:bt<n)(r:d<n)(w:shs≠[]->∀g o cap,v=.slice (J ⟨g,o,U⟩) (I shs) cap->g<n)(D:n<=j)(h2:n<=base):KOld shs bt d v t B:=by
 let⟨k1,⟨y,z⟩,C⟩:=h;refine⟨a.same _ _ k1 rfl Z0 Z0,⟨a.same _ _ y rfl Z0 Z0,?_⟩,C⟩;obtain⟨g,o,cap,rfl,l,p,q,f⟩|h:=z;refine .inl ⟨g,o,cap,rfl,l,p,Zh8 q a.size,λi x k=> ?_⟩;have:=w (λe=>Zg0) _ _ _ rfl;exact⟨a.cell (f i x k).1 Z0 Z0,a.cell (f i x k).2 Z0 Z0⟩;simp_all
def Words.ri{w W ws g o cap}(h:Words w ws g o cap)(d:ws≠[]->g<xz (xj w))(a:Below (xz<|xj w) w W):Words W ws g o cap:=
 ⟨λi x f=>by rw[a.cell (p:=⟨g,o+i,U⟩)<|d (λe=>Zg0)];exact h.aa i x f,h.le,h.cap,h.len,h.u64⟩
def jY:RY:=by
 intro C d hl a7 hu b2;refine⟨Z2,λw G vs hG N P=> ?_⟩;have r0:=P 0 _ rfl;have r1:=P 1 _ rfl;obtain⟨⟨l⟩⟩:=vs;simp at N;rename_i v0 l;cases l with
 |nil=>simp at N
 |cons v1 l=>
 cases l with
 |cons _ _=>simp at N
 |nil=>
  simp at r0 r1;obtain⟨g,o,cap,hw,M,R,a0⟩:=Z0b r0 hG hl hu<|xz (xj w)+3;have O:=Za0 r1 hG;obtain⟨sa,sn,sc,rfl⟩:∃a n c,v0=.slice a n c:=by
   obtain rfl|⟨_,a,c,rfl⟩:=M;simp;simp
  obtain⟨k,q,rfl⟩:∃a c,v1=.slice a (I d) c:=by
   grind
  have b0:((w.alloc<|.cells #[.slice k (I d) q] 156).alloc<|.cells #[.int .i64 0] 3).heap[xz<|xj w]?=J (.cells #[.slice k (I d) q] 156 (0,0)):=(Zh4 _ _ _ Z1).trans<|Zhk w _;have b1:((w.alloc<|.cells #[.slice k (I d) q] 156).alloc<|.cells #[.int .i64 0] 3).heap[xz (xj w)+1]?=J (.cells #[.int .i64 0] 3 (0,0)):=by
   have:=Zhk (w.alloc<|.cells #[.slice k (I d) q] 156)<|.cells #[.int .i64 0] 3;simp_all
  have z:Below (xz<|xj w) w<|(w.alloc<|.cells #[.slice k (I d) q] 156).alloc<|.cells #[.int .i64 0] 3:=((Zhi _ w).alloc (Zh3 _) _).alloc Z1 _;have L:xz (xj<|(w.alloc<|.cells #[.slice k (I d) q] 156).alloc<|.cells #[.int .i64 0] 3)=xz (xj w)+2:=Z1;have a5:d≠[]->∀g o cap,Value.slice k (I d) q=.slice (J ⟨g,o,U⟩) (I d) cap->g<xz (xj w):=by
   intro X g o cap e;obtain⟨g1,Y,c1,e1,_,_,h4,_⟩|⟨_,_,_,h⟩:=O;simp_all;simp_all
  have W:Calls xP 97 #[.slice sa sn sc,.func (.func 98) #[] #[.pointer<|J ⟨xz (xj w)+1,0,U⟩,.pointer<|J ⟨xz<|xj w,0,U⟩]] ((w.alloc<|.cells #[.slice k (I d) q] 156).alloc<|.cells #[.int .i64 0] 3)
    (Fg ((w.alloc<|.cells #[.slice k (I d) q] 156).alloc<|.cells #[.int .i64 0] 3) C d xk (J<|xz (xj w)+1)<|KOld d (xz (xj w)+1) (xz<|xj w)<|.slice k (I d) q):=by
   generalize a8:(w.alloc<|.cells #[.slice k (I d) q] 156).alloc (.cells #[.int .i64 0] 3)=W1 at*;have K:d≠[]->∀g o cap,Value.slice k (I d) q=.slice (J ⟨g,o,U⟩) (I d) cap->g<xz (xj W1):=λX g o cap e=>ZfZ;refine Z04 (hw.ri R z) M ⟨λh=>ZfZ,Z0,Z0⟩ (.inr ⟨_,_,rfl⟩) (λr e=>ZfZ) (λe=>ZfZ) (Z2D a7 Z0<|λX g o cap e=>ZfZ) ⟨b1,⟨b0,?_⟩,Z0⟩ (λt A B row h hg hr=>h.grown hg (n:=xz<|xj W1) Z0 Z0 K hr) (λbl base t A B h1 h2 h W=>h.kp W (n:=xz<|xj W1) Z0 Z0 K h1 h2);obtain⟨g1,Y,c1,e1,a1,a2,a3,a4⟩|⟨a,c,e1,h⟩:=O;exact .inl ⟨g1,Y,c1,e1,a1,a2,Z0,λi x hx=>⟨(z.cell (p:=⟨g1,Y+i*2,U⟩) a3).trans (a4 i x hx).1,(z.cell (p:=⟨g1,Y+i*2+1,U⟩) a3).trans (a4 i x hx).2⟩⟩;simp_all
  have F:∀w1 v n (Q:List Ob),(v=.slice U 0 0/\Q=[]\/w1.ownsRow (xz (xj w)+6) 120 5 v (I Q) (WQ Q))->ZO C d xk=(Q,n)->Rd w1 (λb=>xk=xw/\G b\/xz (xj w)<=b/\b<xz (xj w1)) (.am [.sl<|(ZO C d xk).1.map ZN,vi (ZO C d xk).2]) (.tuple #[v,.int .i64 n]):=by
   intro w1 v n Q f hW;rw[hW];refine .am _ _ rfl ?_;intro i y T
   match i,T with
   |0,T=>
    cases T;obtain⟨rfl,rfl⟩|f:=f;exact .nil _ _ (by grind [maxLen]);exact Mn f λc h1 h2=>.inr ⟨Z0,h2⟩
   |1,T=>cases T;exact .int _ _
  have S:Calls xP 97 #[.slice sa sn sc,.func (.func 98) #[] #[.pointer<|J ⟨xz (xj w)+1,0,U⟩,.pointer<|J ⟨xz<|xj w,0,U⟩]] ((w.alloc<|.cells #[.slice k (I d) q] 156).alloc<|.cells #[.int .i64 0] 3) λe w1=>
    (∃(v:Value) (t:Nat),e=.returned (.tuple #[v,.int .i64 0])/\w1.cell? ⟨xz (xj w)+1,0,U⟩=J (.int .i64 t)/\w1.cell? ⟨xz<|xj w,0,U⟩=J (.slice k (I d) q)/\(t:Int)<I d/\Hid (Below (xz<|xj w) w w1/\Rd w1 (λb=>xk=xw/\G b\/xz (xj w)<=b/\b<xz (xj w1)) (.am [.sl<|(ZO C d xk).1.map ZN,vi (ZO C d xk).2]) (.tuple #[.slice U 0 0,.int .i64 3])))\/
    (∃(v:Value) (t:Nat),e=.returned (.tuple #[v,.int .i64 0])/\w1.cell? ⟨xz (xj w)+1,0,U⟩=J (.int .i64 t)/\w1.cell? ⟨xz<|xj w,0,U⟩=J (.slice k (I d) q)/\¬(t:Int)<I d/\Hid (Below (xz<|xj w) w w1/\Rd w1 (λb=>xk=xw/\G b\/xz (xj w)<=b/\b<xz (xj w1)) (.am [.sl<|(ZO C d xk).1.map ZN,vi (ZO C d xk).2]) (.tuple #[v,.int .i64 0])))\/
    (∃(v:Value) (n:Int),e=.returned (.tuple #[v,.int .i64 n])/\¬n=0/\Hid (Below (xz<|xj w) w w1/\Rd w1 (λb=>xk=xw/\G b\/xz (xj w)<=b/\b<xz (xj w1)) (.am [.sl<|(ZO C d xk).1.map ZN,vi (ZO C d xk).2]) (.tuple #[.slice U 0 0,.int .i64 n]))):=by
   refine W.mono ?_;rintro e w1 ⟨v,n,Q,rfl,a6,f,hE⟩;rw[L]at f;have hB:Below (xz<|xj w) w w1:=z.trans<|(Zhi _ _).grown a6 Z0 (λj e=>ZfZ);obtain⟨rfl,t,⟨hb,hs,ht⟩,u⟩|⟨X,rfl,u⟩:=hE;have Z:w1.cell? ⟨xz (xj w)+1,0,U⟩=J (.int .i64 t):=by rw[Zh7 _ _ _ _ _ _ hb];rfl
   have q2:w1.cell? ⟨xz<|xj w,0,U⟩=J (.slice k (I d) q):=by rw[Zh7 _ _ _ _ _ _ hs.box];rfl
   by_cases D:t<I d;rw[Zhc D]at u;exact .inl ⟨v,t,rfl,Z,q2,Z0,Zh2 ⟨hB,F w1 _ _ [] (.inl ⟨rfl,rfl⟩) u⟩⟩;rw[Zh9 D]at u;exact .inr<|.inl ⟨v,t,rfl,Z,q2,Z0,Zh2 ⟨hB,F w1 _ _ Q (.inr f) u⟩⟩;exact .inr<|.inr ⟨v,n,rfl,Z0,Zh2 ⟨hB,F w1 _ _ [] (.inl ⟨rfl,rfl⟩) u⟩⟩
  have HK:=Zh2 S;clear hw M r0 r1 P O R a0 W S z b0 b1 a5 L F;go_enter Z1X,Try.ntmps86;have a9:∀(fn:Go.Fn) (first cap:Array Value) (w:World),(Instr.makeFunc fn first cap).run xP w=.ok (.func fn first cap) w:=λ_ _ _ _=>rfl;go_wp2_with (go_at_call 97;refine HK.out.mono ?_;rintro e w1 (⟨v,t,rfl,Z,q2,D,H⟩|⟨v,t,rfl,Z,q2,D,H⟩|⟨v,n,rfl,X,H⟩))
  .refine ZhE (v:=.tuple #[.slice U 0 0,.int .i64 3]) (by simp[results,Try.results86,go_sem]) rfl ⟨_,rfl,H.out.1,H.out.2⟩
  .refine ZhE (v:=.tuple #[v,.int .i64 0]) (by simp[results,Try.results86,go_sem]) rfl ⟨_,rfl,H.out.1,H.out.2⟩
  .refine ZhE (v:=.tuple #[.slice U 0 0,.int .i64 n]) (by simp[results,Try.results86,go_sem]) rfl ⟨_,rfl,H.out.1,H.out.2⟩
end Vm
namespace Vm
open Go Go.Proofs Go.RowKit
def Z6W{w G l v}(r:Rd w G (.sl<|l.map ZN) v)(t:∀b,G b->b<xz (xj w)):
  (∃g o cap,v=.slice (J ⟨g,o,U⟩) (I l) cap/\I l<=cap/\cap<=maxLen/\g<xz (xj w)/\∀i x,l[i]?=J x->w.cell? ⟨g,o+i*5,U⟩=J (.int .i64 x.aa)/\w.cell? ⟨g,o+i*5+1,U⟩=J (.int .i64 x.size)/\
   w.cell? ⟨g,o+i*5+2,U⟩=J (.int .i64 x.M)/\w.cell? ⟨g,o+i*5+3,U⟩=J (.bool x.gone)/\w.cell? ⟨g,o+i*5+4,U⟩=J (.int .u64 x.target))\/
  (∃a cap,v=.slice a 0 cap/\l=[]):=by
 generalize u:l.map ZN=L at r;cases r with
 |nil a cap F=>
  simp_all
 |sl _ b o cap k vs j n p d q h=>
  subst u;simp only[Zhv]at j q⊢;refine .inl ⟨b,o,cap,rfl,j,n,t b p,λi x y=> ?_⟩;have f:(l.map ZN)[i]?=J (ZN x):=by rw[Zhq,y];rfl
  have K:k=5:=((d _<|Zha f).1).symm;have H:i<I l:=ZfZ;have z:=h (i*5) (vi x.aa) (by have:=VQ d f 0 Z0;simp_all);have A:=h (i*5+1) (vi x.size) (by have:=VQ d f 1 Z0;simp_all);have B:=h (i*5+2) (vi x.M) (by have:=VQ d f 2 Z0;simp_all);have C:=h (i*5+3) (.bool x.gone) (by have:=VQ d f 3 Z0;simp_all);have D:=h (i*5+4) (vu x.target) (by have:=VQ d f 4 Z0;simp_all);grind [Sz,Nat.add_assoc,Oi]
end Vm
end
section

end
section
namespace Vm
open Go Go.Proofs
def QV{h:Hp}(a:h.ok):VC xP 17 xw [ZD h]<|.bool<|Yw h:=by
 rw[<-(Bz h).1];exact Z0y jZ jY a
def Z0v{h:Hp}(a:h.ok){k:Int}:VC xP 81 xw [ZD h,vi k]<|.am [.sl<|(UH h k).1.map ZN,vi (UH h k).2]:=by
 rw[<-Z5X h k];exact Z0w jZ jY a
def El{h:Hp}(a:h.ok):VC xP 18 xw [ZD h]<|vi<|RM h:=by
 rw[<-Z61 h];exact Z0A jZ jY a
def VT(l:Zi):List<|Int×Int:=(l.filter λo=>o.gone).map λo=>(o.size,o.M)
def Z02{ws:Z8}{shs:List (Int×Int)}{old:Bool}:∀(l:Zi) (f a k:Nat) (g:Zi),Tiles ws old a l->I ws<f+a->0<f->shs.drop k=VT l->Xp ws shs old f a k g=(g++l,0)
 | [],f,a,k,g,D,M,K,B=>by
   obtain⟨f,rfl⟩:∃C,f=C+1:=⟨f-1,Z0⟩;have:I ws<=a:=D;have r:I shs<=k:=List.drop_eq_nil_iff.1 B;rw[Xp,ZhZ this];simp only;rw[Zh9 Z0,Zim]
 |o::l,f,a,k,g,D,M,K,B=>by
  obtain⟨f,rfl⟩:∃C,f=C+1:=⟨f-1,Z0⟩;obtain⟨t,r,L⟩:=D;obtain⟨w,F,j⟩:=r.word;have O:=YD.1 r.shape;have u:=r.aw;have q:=r.gl;rw[t]at F u q;simp only[Zhh]at F q;have z:∀d:Nat,shs.drop d=VT l->Xp ws shs old f (a+1+o.size.toNat) d (g++[o])=(g++o::l,0):=λd p=>by
   rw[Z02 l f _ d _ L Z0 Z0 p];simp
  have y:∃d,Wk shs old a k w=J (o,d)/\shs.drop d=VT l:=by
   unfold Wk;cases n:o.gone;rw[n]at j;simp only[Zhn,Zi0]at j;rw[Zh9 (λh=>j.1 h.1 h.2),j.2.1];refine⟨k,?_,?_⟩;simp only[ZhY];obtain⟨P,R,op,Q,S⟩:=o;simp only at n t j⊢;rw[n,t,j.2.2];rw[B];simp[VT,n];rw[n]at j;simp only[ZhY]at j;rw[Zhc ⟨j.1,j.2.1⟩];have A:shs.drop k=(o.size,o.M)::VT l:=by rw[B];simp[VT,n]
   have x:k<I shs:=by
    have:=Zi8 List.length A;simp at this;omega
   rw[ZhV x]at A;have G:=(List.cons.inj A).1;have H:=(List.cons.inj A).2;rw[ZgY x,G];simp only[r.shape,ZhY];refine⟨k+1,?_,H⟩;obtain⟨P,R,op,Q,S⟩:=o;simp only at n t j⊢;rw[n,t,j.2.2]
  obtain⟨d,N,p⟩:=y;rw[Xp,F];simp only;rw[N];simp only;rw[Zh9 Z0,Zh9 (by rw[q];simp)];exact z d p
def zh{ws:Z8}{shs:List (Int×Int)}{old:Bool}{l:Zi}(d:Tiles ws old 0 l)(a:shs=VT l):ZO ws shs old=(l,0):=by
 unfold ZO;rw[Z02 l (I ws+1) 0 0 [] d Z0 Z0 ZgO,ZhU]
def QY(h:Hp)(low l:Zi):Prop:=∀o∈l,o.gone=xk->∃q,YG h 1 low o.target=J q/\q.size=o.size/\q.M=o.M
def jt{h:Hp}{ws:Z8}{low:Zi}:∀(l:Zi) (f i:Nat) (a:List<|Int×Int),Tiles ws xk i l->I ws<f+i->0<f->QY h low l->V9 h ws low f i a=J (a++VT l)
 | [],f,i,a,u,D,B,r=>by
   obtain⟨f,rfl⟩:∃n,f=n+1:=⟨f-1,Z0⟩;have:I ws<=i:=u;rw[V9,ZhZ this];simp[VT]
 |o::l,f,i,a,u,D,B,r=>by
  obtain⟨f,rfl⟩:∃n,f=n+1:=⟨f-1,Z0⟩;obtain⟨C,p,y⟩:=u;obtain⟨w,x,g⟩:=p.word;have F:=YD.1 p.shape;have j:=p.aw;rw[C]at x j;simp only[Zhh]at x;have k:QY h low l:=λq t=>r q<|ZhG _ t;rw[V9,x];simp only;cases d:o.gone;rw[d]at g;simp only[Zhn,Zi0,true_implies]at g;rw[Zh9 g.1,g.2.1];simp only[ZhY];rw[jt l f _ a y Z0 Z0 k];simp[VT,d];rw[d]at g;simp only[ZhY,true_and]at g;rw[Zhc g.1];obtain⟨q,t,z,A⟩:=r o (.head _) d;rw[<-g.2,t];simp only;rw[z,A,jt l f _ _ y Z0 Z0 k];simp[VT,d]
def NJ{h:Hp}{p:Pts}(d:Tiles h.H xw 0 p.H)(h2:Tiles h.ab xw 0 p.ab)(f:Tiles h.ah xk 0 p.ah)(g:Tiles h.ak xk 0 p.ak)(q:QY h p.H p.ah)(r:QY h p.H p.ak):Xm h=J p:=by
 have k:∀ {n:Z8} {a:Nat} {l:Zi},Tiles n xw a l->VT l=[]:=λ{n a l} x=>by
  unfold VT;rw[List.map_eq_nil_iff,Zk3];intro o u t;obtain⟨w,_,j⟩:=(x.bc o u).1.word;rw[Zhc t]at j;cases j.1
 unfold Xm;rw[zh d (k d).symm,zh h2 (k h2).symm];unfold VG;simp only[Zli,ZkN,or_self,Zi0];rw[jt p.ah _ 0 [] f Z0 Z0 q,jt p.ak _ 0 [] g Z0 Z0 r];simp only[ZhU,Zhw];rw[zh f rfl,zh g rfl];simp
def OF{h:Hp}{p:Pts}(a:TP h=xk)(d:Xm h=J p)(f:SF h p=xk):Yw h=xk:=by
 unfold Yw;rw[a,d];simpa using f
def FK{h:Hp}{k:Int}{l:Zi}{o:Ob}(a:o∈l)(f:∀q∈l,YX h k q.aa=YX h k o.aa->q=o):YG h k l (YX h k o.aa)=J o:=by
 unfold YG;induction l with
 |nil=>simp at a
 |cons x l j=>
  rw[List.find?_cons];by_cases d:YX h k x.aa=YX h k o.aa;rw[f x (.head _) d];simp;have:(YX h k x.aa==YX h k o.aa)=xw:=Zge;rw[this];obtain rfl|a:=Zho.1 a;exact absurd rfl d;exact j a λq g=>f q<|ZhG _ g
def A8{h:Hp}{k:Int}{l:Zi}{a:Int}:(YG h k l a).isSome=xk↔ ∃o∈l,YX h k o.aa=a:=by
 unfold YG;rw[List.find?_isSome];simp
section
structure Tld (h:Hp) (p:Pts):Prop where
 bb:ZI (Zv h)=xk
 an:∀k:Int,1<=k/\k<=4->Tiles (Zx h k) (decide (2<k)) 0 (p.at k)
def Gos(h:Hp)(p:Pts)(w one a:Int):Prop:=w=0\/∃k o,(k=one\/k=a)/\o∈p.at k/\w=Y0 (Zv h) k o.aa
def Wf(h:Hp)(p:Pts)(k:Int)(i:Nat)(w:Int):Prop:=if 2<k then Gos h p w 3 4 else if k=1/\h.Z<=i then Gos h p w 1 2\/Gos h p w 3 4 else Gos h p w 1 2
section
variable {h:Hp}{p:Pts}
def Tld.ob(t:Tld h p){k:Int}(g:1<=k/\k<=4){o:Ob}(j:o∈p.at k):∃a n m:Nat,o.aa=a/\o.size=n/\o.M=m/\a+(n+1)<=I (Zx h k)/\n<=255/\m<=n:=by
 have d:=((t.an k g).bc o j).1;have f:=YD.1 d.shape;obtain⟨a,l⟩:=Zhf d.iz;obtain⟨n,r⟩:=Zhf f.1;obtain⟨m,q⟩:=Zhf f.2.2.1;have:=d.aw;grind
def Tld.start(t:Tld h p){k:Int}(d:1<=k/\k<=4){o:Ob}(f:o∈p.at k):YX h k o.aa=fstL (Zv h) k+o.aa:=by
 obtain⟨a,n,m,g,_,_,j,_⟩:=t.ob d f;unfold YX;rw[SZ t.bb d (by grind [Tn])]
def Tld.dc(t:Tld h p){k:Int}(d:1<=k/\k<=4){o q:Ob}(f:o∈p.at k)(g:q∈p.at k)(e:q.aa=o.aa):q=o:=by
 rcases(t.an k d).apart q g o f with a|a|a;exact a;have:=YD.1 ((t.an k d).bc q g).1.shape;omega;have:=YD.1 ((t.an k d).bc o f).1.shape;omega
def Tld.find(t:Tld h p){k:Int}(a:1<=k/\k<=4){o:Ob}(d:o∈p.at k):YG h k (p.at k) (fstL (Zv h) k+o.aa)=J o:=by
 rw[<-t.start a d];refine FK d λq f e=>t.dc a d f ?_;rw[t.start a d,t.start a f]at e;omega
theorem Tld.inj(t:Tld h p){k j:Int}(d:1<=k/\k<=4)(f:1<=j/\j<=4){o q:Ob}(g:o∈p.at k)(l:q∈p.at j)(e:Y0 (Zv h) k o.aa=Y0 (Zv h) j q.aa):k=j/\o=q:=by
 obtain⟨a,n,m,x,_,_,z,_⟩:=t.ob d g;obtain⟨b,B,A,y,_,_,w,_⟩:=t.ob f l;obtain⟨r,u⟩:=Z8S t.bb d f (by grind [Tn]) (by grind [Tn]) e;subst r;exact⟨rfl,t.dc d l g u⟩
def Tld.lg(t:Tld h p){k:Int}(d:1<=k/\k<=4){o:Ob}(f:o∈p.at k):adr (Y0 (Zv h) k o.aa)=(fstL (Zv h) k+o.aa,0):=by
 obtain⟨a,n,m,g,_⟩:=t.ob d f;exact Ur t.bb Z0
def Tld.mq(t:Tld h p){k:Int}(d:1<=k/\k<=4){w:Int}(f:(Vm.adr w).2=0):(YG h k (p.at k) (Vm.adr w).1).isSome=xk↔ ∃o∈p.at k,w=Y0 (Zv h) k o.aa:=by
 rw[A8];constructor;rintro⟨o,a,e⟩;rw[t.start d a]at e;exact⟨o,a,Z0a f e.symm⟩;rintro⟨o,a,rfl⟩;exact⟨o,a,by rw[t.lg d a,t.start d a]⟩
def Tld.dp(t:Tld h p){i j:Int}(g:1<=i/\i<=4)(l:1<=j/\j<=4){w:Int}:Xz h p w i j=xk↔Gos h p w i j:=by
 unfold Xz Gos;by_cases d:w=0;simp[d];by_cases a:(Vm.adr w).2=0;simp only[d,a,Zle,ZkB,Zkh,ZjN,Zhg,false_or,t.mq g a,t.mq l a];simp;simp only[d,a,ZkB,Zk8,Bool.or_self,Zhn,false_or,false_iff];rintro⟨k,o,n,q,rfl⟩;have f:1<=k/\k<=4:=by obtain rfl|rfl:=n<;>assumption
 exact a (by rw[t.lg f q])
def Pn:∀ {l:Z8} {a:Int} {i:Nat},XP l xk a i=xk->∀w∈l,w=0
 | [],_,_,_,w,d=>by simp at d
 |y::l,a,i,f,w,d=>by
  simp only[XP,Zh1]at f;obtain rfl|d:=Zho.1 d;have g:=f.1;simp at g;exact g.1;exact Pn f.2 w d
def Tld.uq(t:Tld h p){k:Int}(d:1<=k/\k<=4){o:Ob}(f:o∈p.at k){j:Nat}(x:(j:Int)<o.size):∃w,(Zx h k)[o.aa.toNat+1+j]?=J w/\(o.gone=xk->w=0):=by
 obtain⟨a,n,m,l,u,z,y,_⟩:=t.ob d f;have r:a+1+j< I (Zx h k):=Z0;refine⟨(Zx h k)[a+1+j],Zg0,λq=> ?_⟩;have g:=((t.an k d).bc o f).1.gl;rw[q]at g;refine Pn g _ ?_;rw[l,u,Zhh,Zhh];refine Zha (i:=j) ?_;simp_all
end
structure Body (h:Hp) (p:Pts):Prop extends Tld h p where
 gone:∀k:Int,3<=k/\k<=4->∀o∈p.at k,o.gone=xk->∃q∈p.H,o.target=fstL (Zv h) 1+q.aa/\q.size=o.size/\q.M=o.M
 ptr:∀k:Int,1<=k/\k<=4->∀o∈p.at k,o.gone=xw->∀j:Nat,(j:Int)<o.M->∀w,(Zx h k)[o.aa.toNat+1+j]?=J w->Wf h p k (o.aa.toNat+1+j) w
 room:(I h.H:Int)+I h.ab+YF p<=h.cap
structure Rt (h:Hp) (p:Pts):Prop extends Body h p where
 fu:I h.E<=16
 fe:0<=h.Z
 du:h.Z<=I h.H
 ij:h.Y=xk->h.Z<I h.H
 rest:h.Y=xw->h.Z=I h.H/\h.ah=[]/\h.ak=[]
 fp:h.Y=xk->∀o∈p.H,Tp p (fstL (Zv h) 1+o.aa)=1
 E:∀w∈h.E,Gos h p w 1 2
section
variable {h:Hp}{p:Pts}
def EC(t:Tld h p){k:Int}{i:Nat}{w:Int}(a:(Zx h k)[i]?=J w):Um h p k i=xk↔Wf h p k i w:=by
 unfold Um Wf;simp only[a,Zhw];split;exact t.dp Z0 Z0;split;rw[Zhg,t.dp Z0 Z0,t.dp Z0 Z0];exact t.dp Z0 Z0
theorem Z1a(k:Int)(i:Nat):Wf h p k i 0:=by
 unfold Wf;split;exact .inl rfl;split;exact .inl<|.inl rfl;exact .inl rfl
def O2(t:Tld h p){k:Int}(g:1<=k/\k<=4):WE h p k=xk↔ ∀o∈p.at k,o.gone=xw->∀j:Nat,(j:Int)<o.M->∀w,(Zx h k)[o.aa.toNat+1+j]?=J w->Wf h p k (o.aa.toNat+1+j) w:=by
 unfold WE qn;simp only[Zhd,ZjH];constructor;intro l o d _ j q w f;exact(EC t f).1 (l o d j Z0);intro l o d j q;obtain⟨a,n,m,r,y,x,u,_⟩:=t.ob g d;obtain⟨w,f,z⟩:=t.uq g d (j:=j) Z0;refine(EC t f).2 ?_;grind [Z1a]
def RightH.vh(r:RightH h p):Tld h p:=⟨r.bb,λk a=>r.an a⟩
def RightH.rt(r:RightH h p):Rt h p:=by
 have t:=r.vh;have j:=r.num;have a:=r.ok;unfold TP at j;unfold SF at a;simp only[Zh1,Zhy]at j a;obtain⟨⟨⟨⟨G,A⟩,B⟩,C⟩,H⟩:=j;obtain⟨⟨⟨⟨⟨⟨l,D⟩,K⟩,L⟩,M⟩,N⟩,F⟩:=a;have f:∀k:Int,1<=k/\k<=4->WE h p k=xk:=λk d=>by
  have:k=1\/k=2\/k=3\/k=4:=Z0;grind
 refine⟨⟨t,λk d o a y=> ?_,λk d=>(O2 t d).1<|f k d,F⟩,A,B,C,λg=> ?_,λg=> ?_,λg o a=> ?_,λw z=> ?_⟩;obtain⟨q,n,e,u,x⟩:=r.ni d a y;exact⟨q,n,by rw[<-e,t.start (k:=1) Z0 n],u,x⟩;simp_all;simp_all;rw[g]at l;simp only[Zki,Zkh,Zhd]at l;have:=l o a;unfold RI at this;rw[t.start (k:=1) Z0 a]at this;simp_all;exact(t.dp Z0 Z0).1 (Zhd.1 D w z)
def Rt.fb(r:Rt h p):Xm h=J p:=by
 have g:∀k:Int,3<=k/\k<=4->QY h p.H (p.at k):=λk j o l f=>by
  obtain⟨q,n,e,a,d⟩:=r.gone k j o l f;exact⟨q,by rw[e];exact r.toTld.find (k:=1) Z0 n,a,d⟩
 exact NJ (r.an 1 Z0) (r.an 2 Z0) (r.an 3 Z0) (r.an 4 Z0) (g 3 Z0)<|g 4 Z0
theorem Rt.right(r:Rt h p):Yw h=xk:=by
 have t:=r.toTld;refine OF ?_ r.fb ?_;unfold TP;simp only[Zh1,Zhy];refine⟨⟨⟨⟨r.bb,r.fu⟩,r.fe⟩,r.du⟩,?_⟩;cases a:h.Y;obtain⟨l,n,q⟩:=r.rest a;simp_all;simp[r.ij a];unfold SF;simp only[Zh1,Zhy];have d:=λk f=>(O2 t f).2<|r.ptr k f;refine⟨⟨⟨⟨⟨⟨?_,?_⟩,d 1 Z0⟩,d 2 Z0⟩,d 3 Z0⟩,d 4 Z0⟩,r.room⟩;cases a:h.Y;rfl;simp only[Zki,Zkh,Zhd];intro o g;unfold RI;rw[t.start (k:=1) Z0 g,Zhy];exact r.fp a o g;rw[Zhd];exactλw j=>(t.dp Z0 Z0).2<|r.E w j
def JV:Yw h=xk↔ ∃p,Rt h p:=
 ⟨λa=>by obtain⟨p,r⟩:=Z99 a;exact⟨p,r.rt⟩,λ⟨p,r⟩=>r.right⟩
def Rt.iu{q:Pts}(r:Rt h p)(s:Rt h q):q=p:=by
 have:=r.fb;rw[s.fb]at this;simp_all
def Rt.uf(r:Rt h p){k:Int}(a:1<=k/\k<=4):UH h k=(p.at k,0):=by
 unfold UH;rw[Zhc ⟨r.right,a⟩,r.fb];rfl
def Rt.nf(r:Rt h p):RM h=YF p:=by
 unfold RM;rw[Zhc r.right,r.fb];rfl
end
end
section
def VH(l:Zi):Nat:=(l.map λo=>1+o.size.toNat).sum
def Tiles.sum{ws:Z8}{old:Bool}:∀ {a:Nat} {l:Zi},Tiles ws old a l->a<=I ws->a+VH l=I ws
 |a,[],h,d=>by have:I ws<=a:=h;simp[VH];omega
 |a,o::l,h,d=>by
  have g:=YD.1 h.2.1.shape;have f:=h.2.1.aw;rw[h.1]at f;have:=Tiles.sum h.2.2 Z0;simp[VH]at this⊢;omega
def Tiles.km{ws:Z8}{old:Bool}{l:Zi}(h:Tiles ws old (I ws) l):l=[]:=by
 obtain _|⟨o,l⟩:=l;rfl;have d:=YD.1 h.2.1.shape;have a:=h.2.1.aw;rw[h.1]at a;omega
def Tiles.tz{ws d:Z8}{old:Bool}:∀ {a:Nat} {l j:Zi},Tiles ws old a l->Tiles d old a j->(∀i,i<I ws->d[i]?=ws[i]?)->I ws<=I d->
  (∀o∈l,∀q∈j,o.gone=xk->q.gone=xk->o.target=q.target->o.size=q.size/\o.M=q.M)->a<=I ws->∃r,j=l++r/\Tiles d old (I ws) r
 |a,[],j,h,k,_,_,_,t=>by
  have:I ws<=a:=h;grind
 |a,o::l,[],h,k,_,A,_,t=>by
  have H:=YD.1 h.2.1.shape;have z:=h.2.1.aw;have e:=h.1;have:I d<=a:=k;omega
 |a,o::l,q::j,h,k,B,A,G,t=>by
  obtain⟨p,n,C⟩:=h;obtain⟨k1,M,N⟩:=k;have H:=YD.1 n.shape;have z:=n.aw;obtain⟨w,g,D⟩:=n.word;obtain⟨u,f,F⟩:=M.word;rw[p]at g z;rw[k1]at f;simp only[Zhh]at g f;rw[B a Z0,g]at f;cases f;have e:o=q:=by
   obtain⟨S,T,op,O,W⟩:=o;obtain⟨X,Z,Y,P,qt⟩:=q;simp only at*;subst p k1;cases O<;>cases P<;>simp at D F
   simp_all;simp_all;simp_all;simp_all
  subst e;obtain⟨r,Q,R⟩:=Tiles.tz C N B A (λx K y L=>G x (.tail _ K) y<|.tail _ L) Z0;simp_all
def Tiles.iu{ws:Z8}{old:Bool}{l a:Zi}(h:Tiles ws old 0 l)(h':Tiles ws old 0 a)(g:∀o∈l,∀q∈a,o.gone=xk->q.gone=xk->o.target=q.target->o.size=q.size/\o.M=q.M):a=l:=by
 obtain⟨r,d,f⟩:=h.tz h' (λ_ _=>rfl) (Zh3 _) g<|Zik _;rw[d,f.km,Zim]
def Tiles.cw{ws:Z8}{a:Nat}{l:Zi}(h:Tiles ws xw a l):∀o∈l,o.gone=xw:=λo d=>by
 obtain⟨w,_,f⟩:=(h.bc o d).1.word;simp_all
def Tiles.tp{ws:Z8}{l d:Zi}(h:Tiles ws xw 0 l)(h':Tiles ws xw 0 d):d=l:=h.iu h' λo f q g a=>by rw[h.cw o f]at a;cases a
def AS(l:Zi):Nat:=(l.map λo=>if o.gone then 1+o.size.toNat else 0).sum
def Zbs(l:Zi):Yu l+AS l=VH l:=by
 induction l with
 |nil=>rfl
 |cons o l a=>
  simp only[Yu,AS,VH,ZhA,List.sum_cons,V2]at a⊢;cases o.gone<;>simp<;>omega
def ZaG{L:Zi}{f:Ob->Nat}(h:∀o∈L,f o=0):(L.map f).sum=0:=by
 induction L with
 |nil=>rfl
 |cons x L a=>simp_all
section
variable {h:Hp}{p:Pts}
def Tld.kz(t:Tld h p){o:Ob}(d:o∈p.H):0<=o.aa/\o.aa<I h.H:=by
 obtain⟨a,n,m,f,_,_,g,_⟩:=t.ob (k:=1) Z0 d;grind [Vl]
def Tiles.eh{ws:Z8}{old:Bool}:∀ {a:Nat} {l:Zi},Tiles ws old a l->l.Pairwise λx y=>x.aa<y.aa
 |_,[],_=>.nil
 |a,o::l,h=>by
  have f:=YD.1 h.2.1.shape;refine .cons (λy d=> ?_)<|Tiles.eh h.2.2;have:=(Tiles.bc h.2.2 y d).2;rw[h.1];omega
def Tiles.nil{old:Bool}{l:Zi}(h:Tiles [] old 0 l):l=[]:=Tiles.km (ws:=[]) h
def Rt.empty(r:Rt h p)(hc:h.Y=xw):p.ah=[]/\p.ak=[]:=by
 obtain⟨_,f,g⟩:=r.rest hc;have a:=r.an 3 Z0;have d:=r.an 4 Z0;simp only[NH,qJ,f,g]at a d;exact⟨a.nil,d.nil⟩
def Gos.uz(t:Tld h p){w i j:Int}(r:1<=i/\i<=4)(u:1<=j/\j<=4)(l:Gos h p w i j):w=0\/∃k,1<=k/\k<=4/\(k=i\/k=j)/\∃o∈p.at k,(adr w).2=0/\(adr w).1=fstL (Zv h) k+o.aa/\o.aa<YR (Zv h) k/\0<=o.aa:=by
 obtain rfl|⟨k,o,g,f,rfl⟩:=l;omega;have d:1<=k/\k<=4:=by obtain rfl|rfl:=g<;>assumption
 obtain⟨a,n,m,q,_,_,x,_⟩:=t.ob d f;exact .inr ⟨k,d.1,d.2,g,o,f,by rw[t.lg d f],by rw[t.lg d f],by grind [Tn],Z0⟩
end
end
section
section
variable {h:Hp}{p:Pts}
def Body.kj(r:Body h p){k:Int}(d:1<=k/\k<=2){o:Ob}(f:o∈p.at k):Vm.fwd h (Y0 (Zv h) k o.aa)=(Y0 (Zv h) k o.aa,h,0):=by
 obtain⟨a,n,m,g,_,_,j,_⟩:=r.toTld.ob Z0 f;exact Vm.fwd_here r.bb d ⟨Z0,Z0⟩
def Body.kh(r:Body h p){k:Int}(q:3<=k/\k<=4){o:Ob}(g:o∈p.at k)(l:o.gone=xk):Vm.fwd h (Y0 (Zv h) k o.aa)=(2*o.target+1,h,0):=by
 obtain⟨a,n,m,f,_,_,t,_⟩:=r.toTld.ob Z0 g;obtain⟨u,j,d⟩:=((r.an k Z0).bc o g).1.word;rw[Zhc l]at d;rw[f,Zhh]at j;rw[f,Vm.fwd_gone r.bb q j d.2.1,Z0a d.2.1 d.2.2.symm]
def Body.gx(r:Body h p){k:Int}(t:3<=k/\k<=4){o:Ob}(f:o∈p.at k)(q:o.gone=xw){a n:Nat}(j:o.aa=a)(l:o.size=n):
  Vm.fwd h (Y0 (Zv h) k o.aa)=(Y0 (Zv h) 1<|I h.H,Yv h k a<|n+1,0)/\((n+1:Nat):Int)<=Xu (Zv h):=by
 obtain⟨z,y,m,A,B,_,C,_⟩:=r.toTld.ob Z0 f;have:z=a:=Z0;subst this;have:y=n:=Z0;subst this;obtain⟨u,x,d⟩:=((r.an k Z0).bc o f).1.word;rw[Zh9 (by simp[q])]at d;rw[j,Zhh]at x;have D:=r.room;have g:=Zb6 t f;unfold V2 at g;rw[q,l]at g;simp at g;have e:Xu (Zv h)=h.cap-I h.H-I h.ab:=by unfold Xu;rw[Zhc r.bb];rfl
 have w:((y+1:Nat):Int)<=Xu (Zv h):=Z0;rw[j];exact⟨Vm.fwd_wait r.bb t x (d.1<|decide_eq_true Z0) (by rw[d.2.1,l]) C w,w⟩
end
def BT(h:Hp){k:Int}(d:3<=k/\k<=4)(a n:Nat):(Yv h k a n).H=h.H++((Zx h k).take<|a+n).drop a/\(Yv h k a n).ab=h.ab/\Zx (Yv h k a n) k=(zr (Zx h k) a n).set a (Y0 (Zv h) 1<|I h.H)/\Zx (Yv h k a n) (7-k)=Zx h (7-k)/\
  (Yv h k a n).E=h.E/\(Yv h k a n).Z=h.Z/\(Yv h k a n).Y=h.Y/\(Yv h k a n).cap=h.cap/\(Yv h k a n).base=h.base/\(Yv h k a n).to=h.to:=by
 have:k=3\/k=4:=Z0;obtain rfl|rfl:=this<;>exact⟨rfl,rfl,rfl,rfl,rfl,rfl,rfl,rfl,rfl,rfl⟩
end
section
def Cu{h:Hp}{k j:Int}(g:1<=k/\k<=4)(f:1<=j/\j<=4)(l:Z8):Zx (Xk h k l) j=if j=k then l else Zx h j:=by
 have a:k=1\/k=2\/k=3\/k=4:=Z0;have d:j=1\/j=2\/j=3\/j=4:=Z0;obtain rfl|rfl|rfl|rfl:=a<;>obtain rfl|rfl|rfl|rfl:=d<;>rfl
def ZP(b:Bt)(i:Nat):Nd:=(b.g.nodes[i]?).getD default
def ZE(b:Bt)(i:Nat):Pl:=(b.ax[i]?).getD ⟨0,0⟩
def Y6(b:Bt)(i:Nat):Pl:=(b.ah[i]?).getD ⟨0,0⟩
def KQ(n:Nd):Int:=(Xt ((I n.M:Int)+I n.data)<|I n.M).1
def XT(b:Bt)(p:Pl)(n:Nd)(tw:Int):List Int:=KQ n::(XO b p p.aa.toNat n.M tw++n.data)
def VS(b:Bt)(p:Pl)(n:Nd):List Int:=YJ b.h p::List.replicate (ZK n-1) 0
def YT(b:Bt)(x:Rw)(k:Int)(i:Nat):List Int:=
 if(ZE b i).part=k then XT b (ZE b i) (ZP b i)<|IntKind.i64.wrap<|x.be+i
 else if(Y6 b i).part=k then(if(ZE b i).part=0 then XT b (Y6 b i) (ZP b i) 0 else VS b (ZE b i)<|ZP b i)
 else []
def X0(b:Bt)(x:Rw)(k:Int)(i:Nat):List Int:=(List.range i).flatMap<|YT b x k
theorem Ub(b:Bt)(x:Rw)(k:Int)(i:Nat):X0 b x k (i+1)=X0 b x k i++YT b x k i:=by
 simp_all[X0,Zji,ZiW]
theorem UD(b:Bt)(p:Pl)(n:Nd)(tw:Int):I (XT b p n tw)=ZK n:=by
 grind [XT,XO,ZK]
theorem Qh(b:Bt)(p:Pl)(n:Nd):I (VS b p n)=ZK n:=by
 grind [VS,ZK]
structure Placed (b:Bt) (x:Rw):Prop where
 ok:BOk b
 ax:∀i,i<I b.g.nodes->(ZE b i=⟨0,0⟩/\∃k:Int,(k=3\/k=4)/\(Y6 b i).part=k)\/(((ZE b i).part=1\/(ZE b i).part=2)/\(ZE b i).aa=(I (X0 b x (ZE b i).part i):Nat))
 ah:∀i,i<I b.g.nodes->Y6 b i=⟨0,0⟩\/(((Y6 b i).part=3\/(Y6 b i).part=4)/\(Y6 b i).aa=(I (X0 b x (Y6 b i).part i):Nat)/\(ZE b i).part≠2)
 zero:∀k:Int,1<=k/\k<=4->Zx b.h k=List.replicate (I<|X0 b x k<|I b.g.nodes) 0
section
variable {b d:Bt}{x:Rw}
def D5(a:Like b d)(p:Pl):YJ d.h p=YJ b.h p:=by
 unfold YJ;rw[a.bb]
theorem Zad(a:Like b d)(p:Pl)(to tw:Int):Vq d p to tw=Vq b p to tw:=by
 unfold Vq;rw[a.ax,a.ah,a.Z,D5 a,D5 a]
def Iq(a:Like b d)(p:Pl)(n:Nd)(tw:Int):XT d p n tw=XT b p n tw:=by
 grind [XT,XO,Zad]
def Br{p:Pl}{a m:Nat}{n:Nd}{tw:Int}{F:Z8}(k:Zx d.h p.part=F++List.replicate m 0)(g:I F=a)(f:p.aa.toNat=a)(j:ZK n<=m):Sn d p a n tw=F++XT d p n tw++List.replicate (m-ZK n) 0:=by
 simp_all[Sn,List.replicate,ZK,Zkf,ZiF,XT,KQ]
def Z9T{F:Z8}{a m s:Nat}{w:Int}(d:I F=a)(h:1<=s)(g:s<=m):(F++List.replicate m (0:Int)).set a w=F++(w::List.replicate (s-1) 0)++List.replicate (m-s) 0:=by
 rw[<-d,Zl3 _ _<|Zh3 _,ZiT];obtain⟨m,rfl⟩:∃f,m=f+1:=⟨m-1,Z0⟩;rw[List.replicate_succ,Zjr,ZhM];congr 1;simp;omega
def Kt(b:Bt)(x:Rw)(k:Int){i j:Nat}(h:i<=j):∃r,X0 b x k j=X0 b x k i++r:=by
 induction j with
 |zero=>simp_all
 |succ j d=>
  by_cases a:i=j+1;simp_all;grind [YT,Ub,List.append_assoc]
def jX(b:Bt)(x:Rw)(i:Nat)(d:Bt):Prop:=∀k:Int,1<=k/\k<=4->Zx d.h k=X0 b x k i++List.replicate (I (X0 b x k<|I b.g.nodes)- I (X0 b x k i)) 0
def Dc(b:Bt)(x:Rw)(k:Int){i:Nat}(a:i<I b.g.nodes):I (X0 b x k i)+I (YT b x k i)<=I (X0 b x k<|I b.g.nodes):=by
 obtain⟨r,d⟩:=Kt b x k (Z0:i+1<=I b.g.nodes);grind [Ub]
def Z3A(C:Placed b x){i:Nat}(G:i<I b.g.nodes)(z:Like b d)(w:jX b x i d):jX b x (i+1)<|Jf x d i:=by
 have T:(d.g.nodes[i]?).getD default=ZP b i:=by rw[z.g];rfl
 have X:(d.ax[i]?).getD ⟨0,0⟩=ZE b i:=by rw[z.ax];rfl
 have W:(d.ah[i]?).getD ⟨0,0⟩=Y6 b i:=by rw[z.ah];rfl
 unfold Jf;simp only[T,X,W];have Z:=C.ax i G;have Q:=C.ah i G;have r:=λk=>Dc b x k G;have j:∀k,YT b x k i=if(ZE b i).part=k then XT b (ZE b i) (ZP b i) (IntKind.i64.wrap<|x.be+i)else if(Y6 b i).part=k then(if(ZE b i).part=0 then XT b (Y6 b i) (ZP b i) 0 else VS b (ZE b i)<|ZP b i)else []:=λk=>rfl
 have R:=UD b (ZE b i) (ZP b i)<|IntKind.i64.wrap<|x.be+i;have l2:=UD b (Y6 b i) (ZP b i) 0;have l3:=Qh b (ZE b i)<|ZP b i;have O:=Iq z (ZE b i) (ZP b i)<|IntKind.i64.wrap<|x.be+i;have S:=Iq z (Y6 b i) (ZP b i) 0;generalize ZE b i=p at*;generalize Y6 b i=o at*;generalize ZP b i=n at*;have N:1<=ZK n:=by unfold ZK;omega
 obtain⟨rfl,ko,a,P⟩|⟨hp,Y⟩:=Z
 ·
  have K:(o.part=3\/o.part=4)/\o.aa=(I (X0 b x o.part i):Nat):=by
   obtain rfl|⟨h1,h2,_⟩:=Q;grind;omega
  have D:Uv x d i n ⟨0,0⟩=d:=by unfold Uv;rw[Zh9 Z1]
  have F:Ux d n ⟨0,0⟩ o=Wj d o n 0:=by unfold Ux;rw[Zhc ⟨Z0,rfl⟩]
  have A:∀q,Ud q ⟨0,0⟩ o=q:=λq=>by simp_all[Ud,Zh9]
  rw[D,F,A];intro k t;have l:YT b x o.part i=XT b o n 0:=by rw[j,Zh9 ZfZ,Zhc rfl,Zhc rfl]
  have y:=r o.part;rw[l,l2]at y;unfold Wj;simp only;rw[Cu Z0 t];by_cases a:k=o.part;rw[Zhc a,a,Br (w o.part Z0) Z0 rfl Z0,Ub,l,S];grind;rw[Zh9 a,Ub,j k,Zh9 ZfZ,Zh9 (λh=>a h.symm),Zim];exact w k t
 have L:¬p.part=0:=Z0;have D:Uv x d i n p=Wj d p n (IntKind.i64.wrap<|x.be+i):=by unfold Uv;rw[Zhc Z0]
 have F:∀q,Ux q n p o=q:=λq=>by simp_all[Ux,Zh9]
 rw[D,F];have B:YT b x p.part i=XT b p n (IntKind.i64.wrap<|x.be+i):=by rw[j,Zhc rfl]
 have M:=r p.part;rw[B,R]at M;have u:∀k:Int,1<=k/\k<=4->Zx (Wj d p n<|IntKind.i64.wrap<|x.be+i).h k=if k=p.part then X0 b x p.part (i+1)++List.replicate (I (X0 b x p.part<|I b.g.nodes)- I (X0 b x p.part<|i+1)) 0 else Zx d.h k:=by
  intro k t;unfold Wj;simp only;rw[Cu Z0 t];by_cases f:k=p.part;rw[Zhc f,Zhc f,Br (w p.part Z0) Z0 rfl Z0,Ub,B,O];grind;simp_all
 have H:YJ (Wj d p n<|IntKind.i64.wrap<|x.be+i).h p=YJ b.h p:=by
  unfold YJ;have:Zv (Wj d p n<|IntKind.i64.wrap<|x.be+i).h=Zv b.h:=by
   rw[<-z.bb];unfold Wj;simp only;refine Ea ?_;rw[Br (w p.part Z0) Z0 rfl Z0,w p.part Z0,O];simp[R];omega
  rw[this]
 generalize Wj d p n (IntKind.i64.wrap<|x.be+i)=q at*;obtain rfl|⟨a0,K,a1⟩:=Q;have A:Ud q p ⟨0,0⟩=q:=by simp_all[Ud,Zh9]
 rw[A];intro k t;rw[u k t];by_cases f:k=p.part;simp_all;rw[Zh9 f,Ub,j k,Zh9 (λh=>f h.symm),Zh9 ZfZ,Zim];exact w k t;have A:Ud q p o= {q with h:=Xk q.h o.part ((Zx q.h o.part).set o.aa.toNat<|YJ q.h p)}:=by unfold Ud;rw[Zhc ⟨Z0,Z0⟩]
 rw[A];have l:YT b x o.part i=VS b p n:=by rw[j,Zh9 Z0,Zhc rfl,Zh9 L]
 have y:=r o.part;rw[l,l3]at y;intro k t;simp only;rw[Cu Z0 t,u o.part Z0,Zh9 (Z0:¬o.part=p.part),w o.part Z0,H];by_cases a:k=o.part;rw[Zhc a,a,Z9T Z0 N Z0,Ub,l];grind [VS];rw[Zh9 a,u k t];by_cases f:k=p.part;simp_all;rw[Zh9 f,Ub,j k,Zh9 (λh=>f h.symm),Zh9 (λh=>a h.symm),Zim];exact w k t
def GF(a:Placed b x):∀i,i<=I b.g.nodes->jX b x i (Uw x b i)
 |0,_=>by
  intro k d;rw[Uw,a.zero k d];simp[X0]
 |i+1,f=>by
  rw[Uw];exact Z3A a Z0 (L2 a.ok i Z0)<|GF a i Z0
def GE(a:Placed b x){k:Int}(d:1<=k/\k<=4):Zx (Yy x b) k=X0 b x k (I b.g.nodes):=by
 have h:=GF a (I b.g.nodes) (Zh3 _) k d;rw[ZiT,List.replicate_zero,Zim]at h;rw[<-h];rfl
end
end
section
def Qi(x:Rw)(c:Bool)(g:Gr)(i:Nat):Pl:=if V3 x i c=0 then⟨2,(Y4 x c g i).n2⟩else if V3 x i c=1 then⟨1,(Y4 x c g i).n1⟩else⟨0,0⟩
def JK(x:Rw)(c:Bool)(g:Gr)(i:Nat):Pl:=if(decide (0<V3 x i c)&&c)=xk then(if Ww x i then⟨4,(Y4 x c g i).n4⟩else⟨3,(Y4 x c g i).n3⟩)else⟨0,0⟩
def DD{x:Rw}{c:Bool}{g:Gr}(d:∀n∈g.nodes,ZK n<=9):∀j,j<=I g.nodes->∀i,i<j->(Y4 x c g j).ax[i]?=J (Qi x c g i)/\(Y4 x c g j).ah[i]?=J (JK x c g i)
 |0,_,i,f=>Z0
 |j+1,l,i,f=>by
  obtain⟨_,_,h,k⟩:=z5 (x:=x) (cycle:=c) d j Z0;rw[Y4];simp only[X6];by_cases a:i<j;have:=DD (x:=x) (c:=c) d j Z0 i a;rw[Zhz Z0,Zhz Z0];exact this;have:i=j:=Z0;subst this;rw[Zhp Z0,Zhp Z0,h,k,ZiT];exact⟨rfl,rfl⟩
def nk(s:St8)(k:Int):Nat:=if k=1 then s.n1 else if k=2 then s.n2 else if k=3 then s.n3 else s.n4
section
variable {x:Rw}{c:Bool}
def DM(x:Rw):∀n∈(ZW x.nodes x.E).nodes,ZK n<=9:=λn d=>by
 obtain⟨_,_,a⟩:=BN x.nodes x.E;have:=a n d;unfold ZK;omega
def RH(x:Rw)(c:Bool):(Yz x c).g=ZW x.nodes x.E:=rfl
def KR{i:Nat}(a:i< (ZW x.nodes x.E).nodes.length):ZE (Yz x c) i=Qi x c (ZW x.nodes x.E) i:=by
 unfold ZE;show((Y4 x c (ZW x.nodes x.E) (ZW x.nodes x.E).nodes.length).ax[i]?).getD _=_;rw[(DD (DM x) _ (Zh3 _) i a).1];rfl
def qv{i:Nat}(a:i< (ZW x.nodes x.E).nodes.length):Y6 (Yz x c) i=JK x c (ZW x.nodes x.E) i:=by
 unfold Y6;show((Y4 x c (ZW x.nodes x.E) (ZW x.nodes x.E).nodes.length).ah[i]?).getD _=_;rw[(DD (DM x) _ (Zh3 _) i a).2];rfl
def zN:∀i,i<=(ZW x.nodes x.E).nodes.length->∀k:Int,1<=k/\k<=4->I (X0 (Yz x c) x k i)=nk (Y4 x c (ZW x.nodes x.E) i) k
 |0,_,k,f=>by simp[X0,Y4,nk]
 |i+1,p,k,f=>by
  have o:=zN i Z0 k f;rw[Ub,ZhJ,o];have l:ZP (Yz x c) i=((ZW x.nodes x.E).nodes[i]?).getD default:=rfl;unfold YT;rw[KR (Z0:i< (ZW x.nodes x.E).nodes.length),qv (Z0:i< (ZW x.nodes x.E).nodes.length),l,Y4];generalize ((ZW x.nodes x.E).nodes[i]?).getD default=n;have a:k=1\/k=2\/k=3\/k=4:=Z0;unfold Qi JK;generalize Y4 x c (ZW x.nodes x.E) i=s;obtain g|h|⟨j,rfl⟩:=R5 x i c;obtain rfl|rfl|rfl|rfl:=a<;>simp[nk,X6,g,UD];cases c<;>cases d:Ww x i<;>obtain rfl|rfl|rfl|rfl:=a<;>simp[nk,X6,h,d,UD,Qh]
  cases d:Ww x i<;>obtain rfl|rfl|rfl|rfl:=a<;>simp[nk,X6,j,d,UD,Qh]
def Pv(hx:x.ok):Placed (Yz x c) x:=by
 refine⟨(z7 hx c).1,λi a=> ?_,λi a=> ?_,λk g=> ?_⟩;rw[RH]at a;rw[KR a,qv a];have d:=λk g=>zN (x:=x) (c:=c) i Z0 k g;unfold Qi JK;obtain j|h|⟨f,rfl⟩:=R5 x i c;right;simp[j,d 2,nk];right;simp[h,d 1,nk];left;refine⟨by simp[f],?_⟩;cases n:Ww x i;exact⟨3,.inl rfl,by simp[f]⟩;exact⟨4,.inr rfl,by simp[f]⟩;rw[RH]at a;rw[KR a,qv a];have d:=λk g=>zN (x:=x) (c:=c) i Z0 k g;unfold Qi JK;obtain j|h|⟨f,rfl⟩:=R5 x i c;left;simp[j];cases c;left;simp;right;cases n:Ww x i;simp[h,d 3,nk];simp[h,d 4,nk];right;cases n:Ww x i;simp[f,d 3,nk];simp[f,d 4,nk];rw[RH,zN _ (Zh3 _) k g];have l:k=1\/k=2\/k=3\/k=4:=Z0;obtain rfl|rfl|rfl|rfl:=l<;>rfl
end
end
section
def Pg(h:Hp){k:Int}(d:1<=k/\k<=4):YR (Zv h) k=I (Zx h k):=by
 have a:k=1\/k=2\/k=3\/k=4:=Z0;obtain rfl|rfl|rfl|rfl:=a<;>rfl
def ZaU{s p:Int}(h:YC s p=xk):ZR (Xt s p).1=(s,p,0):=by
 have a:=YD.1 h;unfold Xt;rw[Zhc h];unfold ZR;grind
theorem Z5z(h:Hp)(p:Pl):VX (YJ h p)=xk:=by
 unfold YJ VX;split;rfl;unfold Xn;split;rfl;rename_i a;unfold adr;grind
theorem Z5A(b:Bt)(p:Pl)(to tw:Int):VX (Vq b p to tw)=xk:=by
 unfold Vq;split;rfl;grind [Z5z]
def RG{gone:Bool}{ptrs:Int}:∀ {l:Z8} {i:Nat},(∀(j:Nat) (w:Int),l[j]?=J w->(gone=xk->w=0)/\(((i+j:Nat):Int)<ptrs->VX w=xk))->XP l gone ptrs i=xk
 | [],_,_=>rfl
 |w::l,i,h=>by
  obtain⟨f,g⟩:=h 0 w rfl;have d:XP l gone ptrs (i+1)=xk:=RG λj y a=>by
   have:=h (j+1) y a;grind
  rw[XP,d];grind
theorem Py{b:Bt}{p:Pl}{n:Nd}{tw:Int}{F r:Z8}{old:Bool}(f:p.aa=(I F:Nat))(o:ZK n<=9):Stands (F++XT b p n tw++r) old ⟨p.aa,(I n.M:Int)+I n.data,I n.M,xw,0⟩:=by
 have a:YC ((I n.M:Int)+I n.data) (I n.M)=xk:=by
  unfold ZK at o;exact YD.2 Z0
 have d:(F++XT b p n tw++r)[I F]?=J (KQ n):=by
  rw[ZhM,Zhp<|Zh3 _,ZiT];rfl
 have t:=ZaU a;refine⟨Zg0,a,?_,?_,KQ n,Zg0,?_⟩;grind [UD,ZK,List.length_append];simp only[f,Zhh];have e:((F++XT b p n tw++r).drop<|I F+1).take ((I n.M:Int)+I n.data).toNat=XO b p p.aa.toNat n.M tw++n.data:=by
  have k:((I n.M:Int)+I n.data).toNat=I (XO b p p.aa.toNat n.M tw++n.data):=by simp[XO];omega
  rw[k,ZhM,Zkf,ZiF Z0,ZjW,ZhU];have l:(XT b p n tw++r).drop 1=(XO b p p.aa.toNat n.M tw++n.data)++r:=rfl;rw[l,ZkH]
 rw[e];refine RG λj w d=>⟨Z1,λg=> ?_⟩;have h:j<I n.M:=ZgT;rw[Zhz (by simp_all[XO])]at d;simp only[XO,Zhq,Zh0]at d;obtain⟨q,_,rfl⟩:=d;grind [Z5A];simp_all[Zhn,Zi0,Fj,KQ,trivial]
def Zau{b:Bt}{p o:Pl}{n:Nd}{F r:Z8}(a:o.aa=(I F:Nat))(q:ZK n<=9)(l:(adr<|YJ b.h p).2=0):Stands (F++VS b p n++r) xk ⟨o.aa,(I n.M:Int)+I n.data,I n.M,xk,(adr<|YJ b.h p).1⟩:=by
 have d:YC ((I n.M:Int)+I n.data) (I n.M)=xk:=by
  unfold ZK at q;exact YD.2 Z0
 have f:(F++VS b p n++r)[I F]?=J (YJ b.h p):=by
  rw[ZhM,Zhp<|Zh3 _,ZiT];rfl
 refine⟨by show 0<=o.aa;omega,d,?_,?_,_,by rw[a];simpa using f,?_⟩;have:=Qh b p n;unfold ZK at this;simp only[ZhJ,this,a];omega;simp only[a,Zhh];have e:((F++VS b p n++r).drop<|I F+1).take ((I n.M:Int)+I n.data).toNat=List.replicate (ZK n-1) 0:=by
  have g:((I n.M:Int)+I n.data).toNat=I (List.replicate (ZK n-1) (0:Int)):=by simp[ZK];omega
  rw[g,ZhM,Zkf,ZiF Z0,ZjW,ZhU];have k:(VS b p n++r).drop 1=List.replicate (ZK n-1) 0++r:=rfl;rw[k,ZkH]
 rw[e];refine RG λj w f=> ?_;have:=(List.mem_replicate.1<|Zha f).2;subst this;exact⟨λ_=>rfl,λ_=>rfl⟩;simp only[ZhY];exact⟨trivial,l,trivial⟩
def Xd(b:Bt)(k:Int)(i:Nat):List Ob:=
 if(ZE b i).part=k then [⟨(ZE b i).aa,((ZP b i).M.length:Int)+(ZP b i).data.length,(ZP b i).M.length,xw,0⟩]
 else if(Y6 b i).part=k then(if(ZE b i).part=0 then [⟨(Y6 b i).aa,((ZP b i).M.length:Int)+(ZP b i).data.length,(ZP b i).M.length,xw,0⟩]
  else [⟨(Y6 b i).aa,((ZP b i).M.length:Int)+(ZP b i).data.length,(ZP b i).M.length,xk,(adr<|YJ b.h<|ZE b i).1⟩])
 else []
def obs(b:Bt)(k:Int):List Ob:=(List.range<|I b.g.nodes).flatMap<|Xd b k
section
variable {b:Bt}{x:Rw}
def Placed.si(a:Placed b x)(d:∀n∈b.g.nodes,ZK n<=9){i:Nat}(f:i<I b.g.nodes):ZK (ZP b i)<=9:=by
 simp_all[ZP,ZgY,Zhm]
def Placed.len(a:Placed b x){k:Int}(d:1<=k/\k<=4):YR (Zv b.h) k=(I (X0 b x k<|I b.g.nodes):Nat):=by
 rw[Pg b.h d,a.zero k d];simp
def Placed.ct(a:Placed b x){i:Nat}(f:i<I b.g.nodes)(k:(ZE b i).part≠0):((ZE b i).part=1\/(ZE b i).part=2)/\(ZE b i).aa=(I (X0 b x (ZE b i).part i):Nat)/\(ZE b i).aa+ZK (ZP b i)<=YR (Zv b.h) (ZE b i).part:=by
 obtain⟨h,_⟩|⟨j,d⟩:=a.ax i f;simp_all;refine⟨j,d,?_⟩;have:=Dc b x (ZE b i).part f;rw[a.len Z0,d];have e:YT b x (ZE b i).part i=XT b (ZE b i) (ZP b i) (IntKind.i64.wrap<|x.be+i):=by unfold YT;rw[Zhc rfl]
 grind [UD]
def Placed.dk(a:Placed b x){i:Nat}(d:i<I b.g.nodes)(o:(Y6 b i).part≠0):((Y6 b i).part=3\/(Y6 b i).part=4)/\(Y6 b i).aa=(I (X0 b x (Y6 b i).part i):Nat)/\(ZE b i).part≠2/\(Y6 b i).aa+ZK (ZP b i)<=YR (Zv b.h) (Y6 b i).part:=by
 obtain h|⟨k,f,l⟩:=a.ah i d;simp_all;refine⟨k,f,l,?_⟩;have:=Dc b x (Y6 b i).part d;rw[a.len Z0,f];have n:(ZE b i).part=0\/(ZE b i).part=1:=by
  by_cases j:(ZE b i).part=0;omega;have:=(a.ct d j).1;omega
 have e:I (YT b x (Y6 b i).part i)=ZK (ZP b i):=by
  unfold YT;rw[Zh9 Z0,Zhc rfl];split;grind [UD];exact Qh _ _ _
 omega
def Placed.fw(a:Placed b x)(f:ZI (Zv b.h)=xk){i:Nat}(j:i<I b.g.nodes)(d:(ZE b i).part≠0):YJ b.h (ZE b i)=Y0 (Zv b.h) (ZE b i).part (ZE b i).aa:=by
 obtain⟨k,l,n⟩:=a.ct j d;have o:1<=ZK (ZP b i):=by grind [ZK]
 unfold YJ;rw[Zh9 d,SZ f Z0 ⟨Z0,Z0⟩];have:=V5 f (ZE b i).part;unfold Xn Y0;grind
def Placed.oz(a:Placed b x)(f:ZI (Zv b.h)=xk){i:Nat}(j:i<I b.g.nodes)(d:(Y6 b i).part≠0):YJ b.h (Y6 b i)=Y0 (Zv b.h) (Y6 b i).part (Y6 b i).aa:=by
 obtain⟨k,l,_,n⟩:=a.dk j d;have o:1<=ZK (ZP b i):=by grind [ZK]
 unfold YJ;rw[Zh9 d,SZ f Z0 ⟨Z0,Z0⟩];have:=V5 f (Y6 b i).part;unfold Xn Y0;grind
def Mo(a:Placed b x)(z:ZI (Zv b.h)=xk)(C:∀n∈b.g.nodes,ZK n<=9){k:Int}(F:1<=k/\k<=4):∀(m i:Nat),i+m=I b.g.nodes->Tiles (X0 b x k<|I b.g.nodes) (decide (2<k)) (I<|X0 b x k i) ((List.range' i m).flatMap<|Xd b k)
 |0,i,D=>by
  have:i=I b.g.nodes:=Z0;subst this;exact Zh3 _
 |m+1,i,D=>by
  have t:=Mo a z C F m (i+1) Z0;have d:i<I b.g.nodes:=Z0;have w:=a.si C d;obtain⟨r,A⟩:=Kt b x k (Z0:i+1<=I b.g.nodes);rw[List.range'_succ,ZkK];have B:=Ub b x k i;by_cases f:(ZE b i).part=k;have u:YT b x k i=XT b (ZE b i) (ZP b i) (IntKind.i64.wrap<|x.be+i):=by unfold YT;rw[Zhc f]
  have q:Xd b k i=[⟨(ZE b i).aa,((ZP b i).M.length:Int)+(ZP b i).data.length,(ZP b i).M.length,xw,0⟩]:=by unfold Xd;rw[Zhc f]
  obtain⟨_,j,_⟩:=a.ct d Z0;rw[f]at j;rw[q];refine⟨j,?_,?_⟩;grind [Py];rw[B,u,ZhJ,UD]at t;have:(((ZP b i).M.length:Int)+(ZP b i).data.length).toNat=ZK (ZP b i) -1:=by grind [ZK]
  simp only[this];rw[show I (X0 b x k i)+1+(ZK (ZP b i) -1)=I (X0 b x k i)+ZK (ZP b i)by grind [ZK]];exact t;by_cases l:(Y6 b i).part=k;obtain⟨G,j,H,K⟩:=a.dk d Z0;have y:2<k:=Z0;rw[l]at j;have p:I (X0 b x k<|i+1)=I (X0 b x k i)+1+(((ZP b i).M.length:Int)+(ZP b i).data.length).toNat:=by
   have e:I (YT b x k i)=ZK (ZP b i):=by
    unfold YT;rw[Zh9 f,Zhc l];split;grind [UD];exact Qh _ _ _
   rw[B,ZhJ,e];unfold ZK;omega
  rw[p]at t;by_cases o:(ZE b i).part=0;have u:YT b x k i=XT b (Y6 b i) (ZP b i) 0:=by unfold YT;rw[Zh9 f,Zhc l,Zhc o]
  have q:Xd b k i=[⟨(Y6 b i).aa,((ZP b i).M.length:Int)+(ZP b i).data.length,(ZP b i).M.length,xw,0⟩]:=by unfold Xd;rw[Zh9 f,Zhc l,Zhc o]
  rw[q];refine⟨j,?_,t⟩;grind [Py];have u:YT b x k i=VS b (ZE b i) (ZP b i):=by unfold YT;rw[Zh9 f,Zhc l,Zh9 o]
  have q:Xd b k i=[⟨(Y6 b i).aa,((ZP b i).M.length:Int)+(ZP b i).data.length,(ZP b i).M.length,xk,(adr<|YJ b.h<|ZE b i).1⟩]:=by unfold Xd;rw[Zh9 f,Zhc l,Zh9 o]
  rw[q];refine⟨j,?_,t⟩;rw[A,B,u,decide_eq_true y];refine Zau j w ?_;obtain⟨L,M,_⟩:=a.ct d o;rw[a.fw z d o,Ur z Z0];simp_all[YT,Zh9,Xd,ZhU,Zim]
def Z6X(a:Placed b x)(j:ZI (Zv b.h)=xk)(f:∀n∈b.g.nodes,ZK n<=9){k:Int}(d:1<=k/\k<=4):Tiles (Zx (Yy x b) k) (decide (2<k)) 0<|obs b k:=by
 rw[GE a d];have:=Mo a j f d (I b.g.nodes) 0 Z0;unfold obs;rw[List.range_eq_range'];exact this
def JC{k:Int}{o:Ob}:o∈obs b k↔ ∃i,i<I b.g.nodes/\o∈Xd b k i:=by
 grind [obs]
end
end
section
def LZ{gone:Bool}{ptrs:Int}:∀ {l:Z8} {i:Nat},XP l gone ptrs i=xk->∀(j:Nat) (w:Int),l[j]?=J w->(gone=xk->w=0)/\(((i+j:Nat):Int)<ptrs->VX w=xk)
 | [],_,_,j,w,a=>by simp at a
 |y::l,i,d,j,w,a=>by
  simp only[XP,Zh1]at d;cases j with
  |zero=>
   simp at a;subst a;obtain⟨⟨f,g⟩,_⟩:=d;refine⟨λh=> ?_,λk=> ?_⟩;rw[h]at f;simpa using f;simpa[show(i:Int)<ptrs by omega]using g
  |succ j=>
   have:=LZ d.2 j w ZgO;rw[show i+1+j=i+(j+1)by omega]at this;exact this
def Stands.congr{ws a:Z8}{old:Bool}{o:Ob}(s:Stands ws old o)(n:I a=I ws)(k:a[o.aa.toNat]?=ws[o.aa.toNat]?)
  (g:∀j:Nat,(j:Int)<o.size->a[o.aa.toNat+1+j]?=ws[o.aa.toNat+1+j]? \/(o.gone=xw/\o.M<=j)):Stands a old o:=by
 refine⟨s.iz,s.shape,by rw[n];exact s.aw,RG λj w f=> ?_,by rw[k];exact s.word⟩;have d:j<o.size.toNat:=by
  have:=(ZgZ.1 f).1;simp at this;omega
 rw[ZhO d,Zhx]at f;obtain g|⟨l,p⟩:=g j Z0;rw[g]at f;refine LZ s.gl j w ?_;rw[ZhO d,Zhx];exact f;exact⟨λh=>(by rw[l]at h;cases h),λh=>Z0⟩
def Tiles.congr{ws d:Z8}{old:Bool}:∀ {a:Nat} {l:Zi},Tiles ws old a l->I d=I ws->(∀o∈l,Stands d old o)->Tiles d old a l
 |a,[],h,f,_=>by show I d<=a;rw[f];exact h
 |a,o::l,h,f,g=>⟨h.1,g o<|.head _,Tiles.congr h.2.2 f λx j=>g x<|.tail _ j⟩
section
variable {h g:Hp}{p:Pts}
def Es(a:Zv g=Zv h){w i j:Int}:Gos g p w i j↔Gos h p w i j:=by
 unfold Gos;rw[a]
def Tiles.place{ws:Z8}{old:Bool}:∀ {a:Nat} {l:Zi},Tiles ws old a l->∀ {i:Nat} {o:Ob},l[i]?=J o->o.aa=((a+VH (l.take i):Nat):Int)
 |_,[],_,i,o,d=>by simp at d
 |a,x::l,f,0,o,d=>by simp at d;subst d;rw[f.1];simp[VH]
 |a,x::l,f,i+1,o,d=>by
  have:=f.2.2.place (i:=i) (o:=o) Zge;rw[this];simp[VH];omega
def ZaI{l:Zi}{i:Nat}{o:Ob}(a:l[i]?=J o):VH (l.take<|i+1)=VH (l.take i)+(1+o.size.toNat):=by
 unfold VH;rw[ZhX,a,Zig,Zl5];simp
end
end
section
def Z0t{ws a}:∀ {n j},j<n->a+n<=I ws->(zr ws a n)[a+j]?=J 0
 |0,_,h,_=>Z0
 |n+1,j,h,d=>by
  rw[zr];by_cases e:j=n;subst e;rw[Ziq (by rw[jN];omega)];rw[Zi6 Z0];exact Z0t Z0 Z0
def Stands.app{ws r old o}(s:Stands ws old o):Stands (ws++r) old o:=by
 have k:=YD.1 s.shape;have g:=s.aw;have h:=s.iz;have f:(ws++r)[o.aa.toNat]?=ws[o.aa.toNat]? :=ZfZ;refine⟨s.iz,s.shape,Zg1,RG λj w d=> ?_,by rw[f];exact s.word⟩;have a:j<o.size.toNat:=by
  have:=(ZgZ.1 d).1;simp at this;omega
 rw[ZhO a,Zhx,Zhz Z0]at d;refine LZ s.gl j w ?_;simp_all
def Tiles.append{ws r old}:∀ {a} {l d:Zi},Tiles ws old a l->a<=I ws->Tiles (ws++r) old (I ws) d->Tiles (ws++r) old a (l++d)
 |a,[],d,h,g,f=>by
  have:I ws<=a:=h;have:a=I ws:=Z0;subst this;exact f
 |a,o::l,d,h,g,f=>by
  have k:=YD.1 h.2.1.shape;have j:=h.2.1.aw;have e:=h.1;exact⟨h.1,h.2.1.app,Tiles.append h.2.2 Z0 f⟩
theorem Tiles.map{ws d old f}(g:∀o,(f o).aa=o.aa/\(f o).size=o.size)(j:I d=I ws):∀ {a} {l:Zi},Tiles ws old a l->(∀o∈l,Stands d old<|f o)->Tiles d old a (l.map f)
 |a,[],h,_=>by show I d<=a;rw[j];exact h
 |a,o::l,h,k=>⟨by rw[(g o).1];exact h.1,k o<|.head _,by rw[(g o).2];exact Tiles.map g j h.2.2 λx n=>k x<|.tail _ n⟩
def V6(a t:Int)(q:Ob):Ob:=if q.aa=a then {q with gone:=xk,target:=t}else q
theorem Jp a t q:(V6 a t q).aa=q.aa/\(V6 a t q).size=q.size/\(V6 a t q).M=q.M:=by
 unfold V6;grind
theorem TJ{a t q}(h:q.aa≠a):V6 a t q=q:=Zh9 h
theorem T6{a t q}(h:q.aa=a):V6 a t q= {q with gone:=xk,target:=t}:=Zhc h
def Pts.mv(p:Pts)(k:Int)(o:Ob)(L:Nat)(t:Int):Pts:=⟨p.H++[⟨L,o.size,o.M,xw,0⟩],p.ab,if k=3 then p.ah.map (V6 o.aa t)else p.ah,if k=3 then p.ak else p.ak.map<|V6 o.aa t⟩
section
variable {h:Hp}{p:Pts}
def L7{k}(a:3<=k/\k<=4)o L t:(p.mv k o L t).at 1=p.H++[⟨L,o.size,o.M,xw,0⟩]/\(p.mv k o L t).at 2=p.ab/\(p.mv k o L t).at k=(p.at k).map (V6 o.aa t)/\(p.mv k o L t).at (7-k)=p.at (7-k):=by
 have:k=3\/k=4:=Z0;obtain rfl|rfl:=this<;>exact⟨rfl,rfl,rfl,rfl⟩
def Z6A{k}(d:3<=k/\k<=4){o L t j}(u:1<=j/\j<=4){q}(w:q∈p.at j):∃a∈(p.mv k o L t).at j,a.aa=q.aa/\a.size=q.size/\a.M=q.M/\(a.gone=xw->a=q)/\(j<3->a=q):=by
 let⟨h,l,n,r⟩:=L7 (p:=p) d o L t;by_cases f:j=1;subst f;exact⟨q,Zg0,rfl,rfl,rfl,Z1,Z1⟩;by_cases g:j=2;subst g;exact⟨q,Zg0,rfl,rfl,rfl,Z1,Z1⟩;grind [V6,List.mem_map_of_mem,Jp,T6,TJ]
def Z6z{g k}(f:3<=k/\k<=4){o L t}(r:∀j b,Y0 (Zv g) j b=Y0 (Zv h) j b){w i j}(x:1<=i/\i<=4)(y:1<=j/\j<=4)(d:Gos h p w i j):Gos g (p.mv k o L t) w i j:=by
 obtain rfl|⟨m,q,l,n,rfl⟩:=d;exact .inl rfl;let⟨u,a,e,_⟩:=Z6A (p:=p) f (o:=o) (L:=L) (t:=t) (j:=m) Z0 n;exact .inr ⟨m,u,l,a,by rw[r,e]⟩
def Z0n{l o t}(d:l.Pairwise λx y=>x.aa<y.aa)(a:o∈l)(h:o.gone=xw):Yu (l.map<|V6 o.aa t)+(1+o.size.toNat)=Yu l:=by
 induction l with
 |nil=>simp at a
 |cons x l g=>
  rw[ZkA]at d;simp only[Yu,ZhA]at g⊢;obtain rfl|a:=Zho.1 a
  .have:l.map (V6 o.aa t)=l:=by
    conv=>rhs;rw[<-List.map_id l]
    refine ZiH λy f=>TJ ?_;have:=d.1 y f;omega
   rw[T6 rfl];grind [V2]
  grind [TJ]
def Body.move(r:Body h p)(b6:h.Z<=I h.H){k}(G:3<=k/\k<=4){o}(P:o∈p.at k)(hg:o.gone=xw){a n:Nat}(ea:o.aa=a)(N:o.size=n):
  Body (Yv h k a<|n+1) (p.mv k o (I h.H)<|fstL (Zv h) 1+I h.H):=by
 obtain⟨B,D,m,a7,a9,em,K,b3,b2⟩:=r.toTld.ob (k:=k) Z0 P;have:B=a:=Z0;subst this;have:D=n:=Z0;subst this;obtain⟨_,hm⟩:=r.gx G P hg ea N;obtain⟨m1,m2,m3,m4,m5,m6,m7,m8,m9,b8⟩:=BT h G B<|D+1;have Z:=BR G (g:=h) K;have mr:=Z6t r.bb G K hm;have hr:=Z8T G K;have hw:∀ {j:Int} {b:Nat},3<=j/\j<=4->(j≠k\/b<B\/B+(D+1)<=b)->(Zx (Yv h k B<|D+1) j)[b]?=(Zx h j)[b]? :=λC hb=>BU G Z0 C hb;have O:∀ {j:Int},3<=j/\j<=4->I (Zx (Yv h k B<|D+1) j)=I (Zx h j):=λC=>BS G C;have R:fstL (Zv<|Yv h k B<|D+1) 1=fstL (Zv h) 1:=by rw[Z];rfl
 have X:∀i,i<D+1->(((Zx h k).take<|B+(D+1)).drop B)[i]?=(Zx h k)[B+i]? :=Zg0;have a4:I (((Zx h k).take<|B+(D+1)).drop B)=D+1:=Zg1;obtain⟨e1,e2,e3,e4⟩:=L7 (p:=p) G o (I h.H)<|fstL (Zv h) 1+I h.H;have H:=((r.an k Z0).bc o P).1;obtain⟨u,hu,hc⟩:=H.word;rw[Zh9 (by simp[hg])]at hc;rw[ea,Zhh]at hu;generalize b1:Yv h k B (D+1)=g at*;generalize a6:((Zx h k).take<|B+(D+1)).drop B=ws at*;have a1:∀q∈p.at k,q.aa≠o.aa->∀i:Nat,(i:Int)<=q.size->q.aa.toNat+i<B\/B+(D+1)<=q.aa.toNat+i:=by
  intro q d S i A;obtain⟨b,l,_,eb,el,_⟩:=r.toTld.ob (k:=k) Z0 d;rcases(r.an k Z0).apart q d o P with e|e|e;simp_all;left;omega;omega
 have F:∀q∈p.at k,q.aa≠o.aa->∀i:Nat,(i:Int)<=q.size->(Zx g k)[q.aa.toNat+i]?=(Zx h k)[q.aa.toNat+i]? :=λq d S i A=>hw G<|.inr<|a1 q d S i A;have a0:∀b,(Zx g<|7-k)[b]?=(Zx h<|7-k)[b]? :=λb=>hw Z0 Z0;have T:Stands (h.H++ws) xw ⟨I h.H,o.size,o.M,xw,0⟩:=by
  refine⟨Z1,H.shape,Zg1,RG λj w C=>⟨Z1,λW=> ?_⟩,u,?_,?_⟩;have L:j<D:=by
   have:=(ZgZ.1 C).1;simp[N]at this;omega
  simp only[N,Zhh]at C;rw[ZhO L,Zhx,Zhp Z0,show I h.H+1+j-I h.H=1+j by omega,X _ Z0]at C;refine(LZ H.gl j w ?_).2 W;rw[ea,N,Zhh,Zhh,ZhO L,Zhx,<-C,Zib];simp only[Zhh];grind;grind
 have a5:=V5 r.bb 1;refine⟨⟨mr,λj C=> ?_⟩,λj C q d z=> ?_,λj C q d z i A w f=> ?_,?_⟩;by_cases j1:j=1;subst j1;rw[e1];simp only[Vl,m1];exact(r.an 1 Z0).append Z0 ⟨rfl,T,by show I (h.H++ws)<=_;simp[N,a4];omega⟩;by_cases j2:j=2;subst j2;rw[e2];simp only[qI,m2];exact r.an 2 Z0;by_cases Y:j=k;subst Y;rw[e3];refine(r.an j Z0).map (λq=>⟨(Jp _ _ q).1,(Jp _ _ q).2.1⟩) (O G) λq d=> ?_;by_cases e:q.aa=o.aa;have:q=o:=r.toTld.dc Z0 P d e;subst this;rw[T6 rfl];refine⟨H.iz,H.shape,ZfZ,RG λi w A=> ?_,Y0 (Zv h) 1<|I h.H,?_,?_⟩;have L:i<D:=by
  have:=(ZgZ.1 A).1;simp[N]at this;omega
 simp only[ea,N,Zhh]at A;rw[ZhO L,Zhx,m3,Zi6 Z0,Zib,Z0t Z0 K]at A;cases A;exact⟨Z0,λ_=>rfl⟩;grind [Int.toNat_natCast,List.getElem?_set_self,jN];simp only[ZhY];rw[Ur r.bb Z0];grind;rw[TJ e];refine((r.an j Z0).bc q d).1.congr (O G) (by simpa using F q d e 0 (by have:=YD.1 ((r.an j Z0).bc q d).1.shape;omega)) λi A=>.inl ?_;rw[Zib];exact F q d e (1+i) Z0;have:j=7-k:=Z0;subst this;rw[e4,m4];exact r.an (7-k) Z0;by_cases Y:j=k;subst Y;rw[e3,Zhl]at d;obtain⟨x,Q,rfl⟩:=d;by_cases e:x.aa=o.aa;have:x=o:=r.toTld.dc Z0 P Q e;subst this;rw[T6 rfl];exact⟨_,Zjy _<|.head _,by rw[R],rfl,rfl⟩;rw[TJ e]at z⊢;obtain⟨y,hy,y1,y2,y3⟩:=r.gone j C x Q z;exact⟨y,Zip _ hy,Z0,y2,y3⟩;have:j=7-k:=Z0;subst this;rw[e4]at d;obtain⟨y,hy,y1,y2,y3⟩:=r.gone _ C q d z;exact⟨y,Zip _ hy,Z0,y2,y3⟩;have b0:∀ {w i j:Int},1<=i/\i<=4->1<=j/\j<=4->Gos h p w i j->Gos g (p.mv k o (I h.H)<|fstL (Zv h) 1+I h.H) w i j:=λA C=>Z6z G hr A C;have M:∀ {j:Int} {i:Nat} {w:Int},Wf h p j i w->Wf g (p.mv k o (I h.H)<|fstL (Zv h) 1+I h.H) j i w:=λ{j i w} W=>by
  unfold Wf at W⊢;rw[m6];by_cases c1:2<j;grind;rw[Zh9 c1]at W⊢;by_cases c2:j=1/\h.Z<=i;grind;rw[Zh9 c2]at W⊢;grind
 by_cases j1:j=1;subst j1;rw[e1]at d;obtain d|d:=Zht.1 d;obtain⟨b,l,l',eb,el,a8,a2,_⟩:=r.toTld.ob (k:=1) Z0 d;simp only[Vl]at a2 f;rw[m1,Zhz Z0]at f;exact M<|r.ptr 1 Z0 q d z i A w f;simp at d;subst d;simp only at A f⊢;simp only[Zhh,Vl,m1]at f⊢;rw[Zhp Z0,show I h.H+1+i-I h.H=1+i by omega,X _ Z0]at f;have:=r.ptr k Z0 o P hg i A w (by grind [Int.toNat_natCast,Nat.add_assoc]);unfold Wf at this⊢;rw[Zhc Z0]at this;rw[Zh9 Z0,Zhc ⟨rfl,Z0⟩];grind;by_cases j2:j=2;subst j2;rw[e2]at d;simp only[qI,m2]at f;exact M<|r.ptr 2 Z0 q d z i A w f;by_cases Y:j=k;subst Y;rw[e3,Zhl]at d;obtain⟨x,Q,rfl⟩:=d;by_cases e:x.aa=o.aa;grind [T6];rw[TJ e]at z A f⊢;have b4:=(YD.1 ((r.an j Z0).bc x Q).1.shape).2.2.2;rw[Zib,F x Q e (1+i) Z0,<-Zib]at f;exact M<|r.ptr j C x Q z i A w f;have:j=7-k:=Z0;subst this;rw[e4]at d;rw[m4]at f;exact M<|r.ptr _ C q d z i A w f;have b5:=r.room;have b7:YF (p.mv k o (I h.H)<|fstL (Zv h) 1+I h.H)+(1+D)=YF p:=by
  have h1:=(r.an k Z0).eh;have:=Z0n (t:=fstL (Zv h) 1+I h.H) h1 P hg;rw[N,Zhh]at this;unfold YF;have a3:k=3\/k=4:=Z0;obtain rfl|rfl:=a3;simp only[Pts.nu]at this;simp only[Pts.mv,ZhY];omega;simp only[Pts.nw]at this;simp only[Pts.mv,show ¬(4:Int)=3 by omega,Zi0];omega
 grind
end
end
section
def S9(h:Hp)(p:Pts):Prop:=∀o∈p.H,Tp p (fstL (Zv h) 1+o.aa)=1
section
variable {h g:Hp}{p q:Pts}
def ZaL{l o t b}(d:l.Pairwise λx y=>x.aa<y.aa)(a:o∈l)(g:o.gone=xw):XF (l.map<|V6 o.aa t) b=XF l b+if t=b then 1 else 0:=by
 induction l with
 |nil=>simp at a
 |cons x l h=>
  rw[ZkA]at d;have e:∀y r,XF (y::r) b=(if y.gone=xk/\y.target=b then 1 else 0)+XF r b:=λy r=>by
   unfold XF;grind
  rw[ZhA,e];obtain rfl|a:=Zho.1 a
  .have:l.map (V6 o.aa t)=l:=by
    conv=>rhs;rw[<-List.map_id l]
    refine ZiH λy f=>TJ ?_;have:=d.1 y f;omega
   rw[T6 rfl];grind
  grind [TJ]
def ZaM(r:Body h p){b:Int}(n:I h.H<=b):Tp p (fstL (Zv h) 1+b)=0:=by
 have key:∀k,3<=k/\k<=4->XF (p.at k) (fstL (Zv h) 1+b)=0:=λk d=>by
  unfold XF;rw[ZiR,Zk3];intro o f a;simp[Zhy]at a;let⟨y,g,e,_⟩:=r.gone k d o f a.1;have:=r.toTld.kz g;omega
 have j:=key 3 Z0;have l:=key 4 Z0;simp_all[Pts.nu,Pts.nw,Tp]
def ZaK(r:Body h p){k}(j:3<=k/\k<=4){o}(g:o∈p.at k)(f:o.gone=xw){L t b}:Tp (p.mv k o L t) b=Tp p b+if t=b then 1 else 0:=by
 have d:=ZaL (t:=t) (b:=b) (r.an k Z0).eh g f;unfold Tp;have a:k=3\/k=4:=Z0;obtain rfl|rfl:=a;simp[Pts.nu]at d;simp[Pts.mv];omega;simp[Pts.nw]at d;simp[Pts.mv,Zi0];omega
structure Ext (h:Hp) (p:Pts) (g:Hp) (q:Pts):Prop where
 H:∃ws,g.H=h.H++ws
 ab:g.ab=h.ab
 base:g.base=h.base
 cap:g.cap=h.cap
 ry:g.to=h.to
 Y:g.Y=h.Y
 Z:g.Z=h.Z
 E:g.E=h.E
 sk:I g.ah=I h.ah
 om:I g.ak=I h.ak
 ig:∃r,q.H=p.H++r
 ie:q.ab=p.ab
 lw:∀k:Int,3<=k/\k<=4->(q.at k).map (λo=>(o.aa,o.size,o.M))=(p.at k).map (λo=>(o.aa,o.size,o.M))
 gone:∀k:Int,3<=k/\k<=4->∀(i:Nat) (o o':Ob),(p.at k)[i]?=J o->(q.at k)[i]?=J o'->(o.gone=xk->o'=o)/\(o'.gone=xw->o'=o/\∀j:Nat,(j:Int)<=o.size->(Zx g k)[o.aa.toNat+j]?=(Zx h k)[o.aa.toNat+j]?)
 room:(I g.H:Int)+YF q=I h.H+YF p
def Ext.refl h p:Ext h p h p:=
 ⟨⟨[],Z1⟩,rfl,rfl,rfl,rfl,rfl,rfl,rfl,rfl,rfl,⟨[],Z1⟩,rfl,Z1,Zg0,rfl⟩
theorem Ext.trans{f s}(a:Ext h p g q)(b:Ext g q f s):Ext h p f s:=by
 let⟨w1,y⟩:=a.H;let⟨w2,z⟩:=b.H;let⟨H,A⟩:=a.ig;let⟨K,B⟩:=b.ig;refine⟨Zg0,b.ab.trans a.ab,b.base.trans a.base,b.cap.trans a.cap,b.ry.trans a.ry,b.Y.trans a.Y,b.Z.trans a.Z,b.E.trans a.E,b.sk.trans a.sk,b.om.trans a.om,Zg0,b.ie.trans a.ie,λk d=>(b.lw k d).trans<|a.lw k d,λk d i o n r w=> ?_,b.room.trans a.room⟩;have D:I (q.at k)=I (p.at k):=by have:=Zi8 List.length<|a.lw k d;simpa using this
 have C:=(ZgZ.1 r).1;have l:(q.at k)[i]?=J ((q.at k)[i]'Z0):=Z1;generalize (q.at k)[i]'Z0=t at l;let⟨u,c2⟩:=a.gone k d i o t r l;let⟨d1,d2⟩:=b.gone k d i t n l w;refine⟨λj=> ?_,λj=> ?_⟩;have:=u j;subst this;exact d1 j;let⟨k1,F⟩:=d2 j;subst k1;let⟨x,G⟩:=c2 j;subst x;exact⟨rfl,Zg0⟩
def Ext.fst(e:Ext h p g q)k a(d:k=1\/k=3\/k=4\/k=2):Y0 (Zv g) k a=Y0 (Zv h) k a:=by
 unfold Y0 fstL Zv;simp[e.base,e.cap,e.ry,e.ab,e.om]
def Ext.mem(e:Ext h p g q){j}(l:1<=j/\j<=4){o}(f:o∈p.at j):∃a∈q.at j,a.aa=o.aa/\a.size=o.size/\a.M=o.M:=by
 have d:j=1\/j=2\/j=3\/j=4:=Z0;obtain rfl|rfl|k:=d;let⟨r,n⟩:=e.ig;exact⟨o,Zg0,rfl,rfl,rfl⟩;exact⟨o,by show o∈q.ab;rw[e.ie];exact f,rfl,rfl,rfl⟩;have:=e.lw j Z0;grind [List.mem_map_of_mem]
def Ext.ln(e:Ext h p g q){w i j}(t:1<=i/\i<=4)(u:1<=j/\j<=4)(l:Gos h p w i j):Gos g q w i j:=by
 obtain rfl|⟨m,o,f,n,rfl⟩:=l;exact .inl rfl;have a:1<=m/\m<=4:=by obtain rfl|rfl:=f<;>assumption
 let⟨r,d,k,_⟩:=e.mem a n;exact .inr ⟨m,r,f,d,by rw[e.fst _ _ Z0,k]⟩
theorem Body.ext(r:Body h p)(S:h.Z<=I h.H){k}(f:3<=k/\k<=4){o}(q:o∈p.at k)(P:o.gone=xw){a n:Nat}(ea:o.aa=a)(en:o.size=n):
  Ext h p (Yv h k a<|n+1) (p.mv k o (I h.H)<|fstL (Zv h) 1+I h.H):=by
 let⟨u,B,m,N,O,em,y,R,Q⟩:=r.toTld.ob (k:=k) Z0 q;have:u=a:=Z0;subst this;have:B=n:=Z0;subst this;let⟨W,X,m3,m4,Y,Z,m7,m8,m9,A⟩:=BT h f u<|B+1;let⟨K,L,M,e4⟩:=L7 (p:=p) f o (I h.H)<|fstL (Zv h) 1+I h.H;have T:(Yv h k u<|B+1).ak.length=I h.ak:=BS (j:=4) f Z0;refine⟨⟨_,W⟩,X,m9,m8,A,m7,Z,Y,BS (j:=3) f Z0,T,⟨_,K⟩,L,λj D=> ?_,λj D i x x' g w=> ?_,?_⟩;by_cases H:j=k;simp_all[Zjx,ZiH,Jp,fstL,Zv,Function.comp];have:j=7-k:=Z0;simp_all;by_cases H:j=k;subst H;rw[M,Zhq,g]at w;simp at w;subst w;have d:=Zha g;by_cases e:x.aa=o.aa;have:=r.toTld.dc Z0 q d e;subst this;rw[T6 rfl];exact⟨Zg0,Z1⟩;rw[TJ e];refine⟨Z1,λ_=>⟨rfl,λi hi=>BU f Z0 D<|.inr ?_⟩⟩;let⟨b,l,_,eb,el,_⟩:=r.toTld.ob (k:=j) Z0 d;rcases(r.an j Z0).apart x d o q with C|C|C;simp_all;left;omega;omega;have:j=7-k:=Z0;simp_all;have g:=(r.an k Z0).eh;have G:=Z0n (t:=fstL (Zv h) 1+I h.H) g q P;have F:=Z6s f y;unfold YF;have z:k=3\/k=4:=Z0;obtain rfl|rfl:=z;simp[Pts.nu]at G;simp[Pts.mv,ZhY];omega;simp[Pts.nw]at G;simp[Pts.mv,show ¬(4:Int)=3 by omega,Zi0];omega
def Mu(r:Body h p)(f:S9 h p)(g:h.Z<=I h.H){k}(l:3<=k/\k<=4){o}(q:o∈p.at k)(j:o.gone=xw){a n:Nat}(t:o.aa=a)(u:o.size=n):
  S9 (Yv h k a<|n+1) (p.mv k o (I h.H)<|fstL (Zv h) 1+I h.H):=by
 have w:fstL (Zv<|Yv h k a<|n+1) 1=fstL (Zv h) 1:=by
  have:=(r.ext g l q j t u).fst 1 0 Z0;unfold Y0 at this;omega
 intro x d;rw[ZaK r l q j,w];obtain d|d:=Zht.1 d;have:=r.toTld.kz d;rw[f x d,Zh9 Z0];simp_all[ZaM,Int.le_refl]
def Res(g:Hp)(q:Pts)(w v:Int):Prop:=(w=0/\v=0)\/∃k o,(k=3\/k=4)/\o∈q.at k/\w=Y0 (Zv g) k o.aa/\o.gone=xk/\v=2*o.target+1
theorem Res.ext{w v}(r:Res h p w v)(e:Ext h p g q):Res g q w v:=by
 obtain r|⟨k,o,t,u,f,a,j⟩:=r;exact .inl r;let⟨i,d⟩:=Zhr u;have x:I (q.at k)=I (p.at k):=by have:=Zi8 List.length<|e.lw k Z0;simpa using this
 have n:=(ZgZ.1 d).1;have l:(q.at k)[i]?=J ((q.at k)[i]'Z0):=Z1;have:=(e.gone k Z0 i o _ d l).1 a;exact .inr ⟨k,o,t,ZfZ,by rw[e.fst _ _ Z0];exact f,a,j⟩
structure FwdTo (h:Hp) (p:Pts) (w v:Int) (g:Hp) (q:Pts):Prop where
 fwd:fwd h w=(v,g,0)
 body:Body g q
 fp:S9 h p->S9 g q
 ext:Ext h p g q
 ve:Gos g q v 1 2
 zero:v=0↔w=0
 cz:(Gos h p w 1 2/\v=w/\g=h/\q=p)\/Res g q w v
 vj:(g=h/\q=p)\/∃(k:Int) (o:Ob) (a n:Nat),(3<=k/\k<=4)/\o∈p.at k/\o.gone=xw/\o.aa=a/\o.size=n/\g=Yv h k a (n+1)/\q=p.mv k o (I h.H) (fstL (Zv h) 1+I h.H)/\v=Y0 (Zv h) 1 (I h.H)
def Body.gp(r:Body h p)(l:h.Z<=I h.H){w}(L:Gos h p w 1 2\/Gos h p w 3 4):∃v g q,FwdTo h p w v g q:=by
 by_cases C:w=0;subst C;exact⟨0,h,p,Hd r.bb,r,id,.refl h p,.inl rfl,Z1,.inr<|.inl ⟨rfl,rfl⟩,Z1⟩;have B:∃k o,1<=k/\k<=4/\o∈p.at k/\w=Y0 (Zv h) k o.aa:=by
  obtain(F|⟨k,o,f,d,e⟩)|(F|⟨k,o,f,d,e⟩):=L;omega;grind;omega;grind
 obtain⟨k,o,k1,N,d,rfl⟩:=B;by_cases G:k<=2;exact⟨_,h,p,r.kj ⟨k1,G⟩ d,r,id,.refl h p,.inr ⟨k,o,Z0,d,rfl⟩,ZiQ,.inl ⟨.inr ⟨k,o,Z0,d,rfl⟩,rfl,rfl,rfl⟩,Z1⟩;have f:3<=k/\k<=4:=Z0;cases j:o.gone;let⟨a,n,m,t,u,em,H,_⟩:=r.toTld.ob ⟨k1,N⟩ d;let⟨D,_⟩:=r.gx f d j t u;have e:=r.ext l f d j t u;have b:=r.move l f d j t u;have x:(⟨I h.H,o.size,o.M,xw,0⟩:Ob)∈(p.mv k o (I h.H)<|fstL (Zv h) 1+I h.H).H:=Zjy _<|.head _;have A:Y0 _ 1 (I h.H)=Y0 _ 1 (I h.H):=(e.fst 1 _ Z0).symm;exact⟨_,_,_,D,b,λz=>Mu r z l f d j t u,e,.inr ⟨1,_,.inl rfl,x,A⟩,iff_of_false (D7 r.bb Z0) C,.inr<|.inr ⟨k,_,Z0,by rw[(L7 f o _ _).2.2.1];exact ZiI d,by rw[e.fst _ _ Z0,(Jp _ _ _).1],by rw[T6 rfl],by rw[T6 rfl];rfl⟩,.inr ⟨k,o,a,n,f,d,j,t,u,rfl,rfl,rfl⟩⟩;let⟨y,M,e,_⟩:=r.gone k f o d j;have K:2*o.target+1=Y0 (Zv h) 1 y.aa:=by unfold Y0;omega
 refine⟨_,h,p,r.kh f d j,r,id,.refl h p,.inr ⟨1,y,.inl rfl,M,K⟩,?_,.inr<|.inr ⟨k,o,Z0,d,rfl,j,rfl⟩,Z1⟩;omega
end
end
section
def WB(h:Hp):Hp:=⟨h.base,h.cap,1-h.to,xw,0,[],[],h.H,h.ab,h.E⟩
def Qd(g:Hp)(i:Nat):Hp:= {(fwd g<|(g.E[i]?).getD 0).2.1 with E:=(fwd g<|(g.E[i]?).getD 0).2.1.E.set i (fwd g<|(g.E[i]?).getD 0).1}
def VR(g:Hp):Nat->Hp
 |0=>g
 |i+1=>Qd (VR g i) i
def TF(g:Hp):Hp:=if 0<(I g.H) then {g with Y:=xk}else {g with Y:=xw,ah:=[],ak:=[]}
def X1(h:Hp):Hp:=TF<|VR (WB h)<|I h.E
def Sg(h:Hp):Hp×Int:=if Yw h=xw then(Hp.zero,1)else if h.Y then(Hp.zero,10)else(X1 h,0)
def Stands.ah{ws:Z8}{o:Ob}(s:Stands ws xw o):Stands ws xk o:=by
 obtain⟨w,f,a⟩:=s.word;have d:o.gone=xw:=by
  cases d:o.gone;rfl;rw[Zhc d]at a;cases a.1
 refine⟨s.iz,s.shape,s.aw,s.gl,w,f,?_⟩;rw[Zh9 (by simp[d])]at a⊢;exact⟨λ_=>Fj (by rw[a.2.1]),a.2⟩
def Tiles.ah{ws:Z8}:∀ {a:Nat} {l:Zi},Tiles ws xw a l->Tiles ws xk a l
 |_,[],h=>h
 |_,_::_,h=>⟨h.1,h.2.1.ah,Tiles.ah h.2.2⟩
def Z0m{l:Zi}(h:∀o∈l,o.gone=xw):Yu l=VH l:=by
 have:=Zbs l;have:AS l=0:=ZaG λo a=>by rw[h o a];rfl
 omega
def KM(p:Pts):Pts:=⟨[],[],p.H,p.ab⟩
section
variable {h:Hp}{p:Pts}
def GW(h:Hp)(k a:Int)(d:k=1\/k=2):Y0 (Zv<|WB h) (k+2) a=Y0 (Zv h) k a:=by
 obtain rfl|rfl:=d;show 2*(h.base+(1- (1-h.to))*h.cap+a)+1=2*(h.base+h.to*h.cap+a)+1;rw[show 1- (1-h.to)=h.to by omega];show 2*(h.base+(1- (1-h.to))*h.cap+(h.cap-I h.ab)+a)+1=2*(h.base+h.to*h.cap+(h.cap-I h.ab)+a)+1;rw[show 1- (1-h.to)=h.to by omega]
def AJ{w:Int}(d:Gos h p w 1 2):Gos (WB h) (KM p) w 3 4:=by
 obtain rfl|⟨k,o,f,a,rfl⟩:=d;exact .inl rfl;obtain rfl|rfl:=f;exact .inr ⟨3,o,.inl rfl,a,(GW h 1 _<|.inl rfl).symm⟩;exact .inr ⟨4,o,.inr rfl,a,(GW h 2 _<|.inr rfl).symm⟩
def Z3Q(r:Rt h p)(hc:h.Y=xw):Body (WB h)<|KM p:=by
 have M:=XN.1 r.bb;have l:=r.an 1 Z0;have q:=r.an 2 Z0;simp only[Vl,qI,Pts.mg,Pts.tu]at l q;refine⟨⟨XN.2 ?_,λk x=> ?_⟩,λk x o d g=> ?_,λk x o d g j u w y=> ?_,?_⟩;have A:(Zv h).cap=h.cap:=rfl;have B:(Zv h).base=h.base:=rfl;have C:(Zv h).to=h.to:=rfl;have D:(Zv h).H=I h.H:=rfl;have F:(Zv h).ab=I h.ab:=rfl;simp only[Zv,WB,Zif];omega;have f:k=1\/k=2\/k=3\/k=4:=Z0;obtain rfl|rfl|rfl|rfl:=f;exact Zh3 0;exact Zh3 0;exact l.ah;exact q.ah;have f:k=3\/k=4:=Z0;obtain rfl|rfl:=f;have:=l.cw o d;rw[g]at this;cases this;have:=q.cw o d;rw[g]at this;cases this;have f:k=1\/k=2\/k=3\/k=4:=Z0;obtain rfl|rfl|rfl|rfl:=f;cases d;cases d;have:=r.ptr 1 Z0 o d g j u w y;obtain⟨a,n,m,G,H,em,t,_⟩:=r.toTld.ob (k:=1) Z0 d;simp only[Vl]at t;unfold Wf at this⊢;rw[Zh9 Z0,Zh9 (by rw[(r.rest hc).1];omega)]at this;rw[Zhc Z0];exact AJ this;have:=r.ptr 2 Z0 o d g j u w y;unfold Wf at this⊢;rw[Zh9 Z0,Zh9 Z0]at this;rw[Zhc Z0];exact AJ this;have K:=l.sum<|Zik _;have L:=q.sum<|Zik _;have w1:=Z0m l.cw;have w2:=Z0m q.cw;have z:=r.room;simp only[YF,KM,WB,Zif];omega
structure FlipI (h:Hp) (p:Pts) (i:Nat) (g:Hp) (q:Pts):Prop where
 body:Body g q
 fp:S9 g q
 ext:Ext (WB h) (KM p) {g with E:=h.E} q
 len:I g.E=I h.E
 rest:∀j,i<=j->g.E[j]?=h.E[j]?
 ut:∀j:Nat,j<i->∀w v,h.E[j]?=J w->g.E[j]?=J v->Gos g q v 1 2/\Res g q w v
def Body.E(r:Body h p)(l:Z8):Body {h with E:=l} p:=⟨⟨r.bb,r.an⟩,r.gone,r.ptr,r.room⟩
def GV(r:Rt h p){i:Nat}(a:i<xq h.E){g:Hp}{q:Pts}(I:FlipI h p i g q):Gos g q h.E[i] 3 4:=I.ext.ln (i:=3) (j:=4) Z0 Z0<|AJ<|r.E _<|Zhm a
def Z3T(r:Rt h p){i:Nat}(y:i<xq h.E){g:Hp}{q:Pts}(I:FlipI h p i g q){v:Int}{g':Hp}{t:Pts}(f:FwdTo g q (h.E[i]) v g' t):FlipI h p (i+1) (Qd g i) t:=by
 have B:g.E[i]?=J h.E[i]:=by rw[I.rest i<|Zh3 _];exact ZgY y
 have O:=GV r y I;have e:Qd g i= {g' with E:=g'.E.set i v}:=by
  unfold Qd;rw[B,Zhw,f.fwd]
 have x:g'.E=g.E:=f.ext.E;have l:Res g' t h.E[i] v:=by
  obtain⟨K,C,P,Q⟩|B:=f.cz;obtain d|⟨k,o,S,N,D⟩:=O;exact .inl ⟨d,C.trans d⟩;obtain d|⟨T,W,M,A,F⟩:=K;exact .inl ⟨d,C.trans d⟩;obtain⟨R,_⟩:=I.body.toTld.inj Z0 Z0 N A<|D.symm.trans F;omega;exact B
 rw[e];refine⟨f.body.E _,f.fp I.fp,I.ext.trans ⟨f.ext.H,f.ext.ab,f.ext.base,f.ext.cap,f.ext.ry,f.ext.Y,f.ext.Z,rfl,f.ext.sk,f.ext.om,f.ext.ig,f.ext.ie,f.ext.lw,f.ext.gone,f.ext.room⟩,?_,λj L=> ?_,λj L w u a n=> ?_⟩;simp only[ZiY,x];exact I.len;simp only;rw[Zi6 Z0,x];exact I.rest j Z0;simp only at n;by_cases z:j=i;subst z;rw[Ziq (by rw[x,I.len];exact y)]at n;cases n;rw[ZgY y]at a;cases a;exact⟨f.ve,l⟩;rw[Zi6 Z0,x]at n;obtain⟨G,H⟩:=I.ut j Z0 w u a n;exact⟨(show Gos g' t u 1 2 from f.ext.ln Z0 Z0 G),(show Res g' t w u from H.ext f.ext)⟩
def GY(r:Rt h p){i:Nat}(j:i<xq h.E){g:Hp}{q:Pts}(I:FlipI h p i g q):(∃v d a,FwdTo g q (h.E[i]) v d a)/\∃a,FlipI h p (i+1) (Qd g i) a/\(fwd g<|(g.E[i]?).getD 0).2.2=0:=by
 have l:g.E[i]?=J h.E[i]:=by rw[I.rest i<|Zh3 _];exact ZgY j
 have k:g.Z<=xq g.H:=by
  have:g.Z=0:=I.ext.Z;omega
 obtain⟨v,d,a,f⟩:=I.body.gp k<|.inr<|GV r j I;exact⟨⟨v,d,a,f⟩,a,Z3T r j I f,by rw[l,Zhw,f.fwd]⟩
def ym(r:Rt h p)(hc:h.Y=xw):∀i,i<=xq h.E->∃q,FlipI h p i (VR (WB h) i) q
 |0,_=>⟨KM p,Z3Q r hc,λo d=>(by cases d),.refl _ _,rfl,λ_ _=>rfl,λj k=>Z0⟩
 |i+1,g=>by
  obtain⟨q,I⟩:=ym r hc i Z0;obtain⟨_,f,a,_⟩:=GY r Z0 I;exact⟨f,a⟩
def Z3S(r:Rt h p)(hc:h.Y=xw){g:Hp}{q:Pts}(I:FlipI h p (xq h.E) g q):Rt (TF g) (if 0<(xq g.H) then q else⟨[],[],[],[]⟩)/\(¬0<xq g.H->g.H=[]/\q.H=[]/\q.ab=[]/\∀w∈g.E,w=0):=by
 have t:g.Z=0:=I.ext.Z;have f:g.ab=[]:=I.ext.ab;have y:q.ab=[]:=I.ext.ie;have d:∀w∈g.E,Gos g q w 1 2:=λw A=>by
  obtain⟨j,D⟩:=Zhr A;have u:=(ZgZ.1 D).1;rw[I.len]at u;exact(I.ut j u _ w (ZgY u) D).1
 have F:xq g.E<=16:=by rw[I.len];exact r.fu
 by_cases x:0<xq g.H;refine⟨?_,λh=>absurd x h⟩;rw[Zhc x];unfold TF;rw[Zhc x];have b:=I.body;exact⟨⟨⟨b.bb,b.an⟩,b.gone,b.ptr,b.room⟩,F,by show 0<=g.Z;omega,by show g.Z<=xq g.H;omega,λ_=>(by show g.Z<xq g.H;omega),λh=>Zgf,λ_=>I.fp,d⟩;have a:g.H=[]:=ZiR.1 Z0;have z:q.H=[]:=by
  have:=I.body.an 1 Z0;simp only[Vl,Pts.mg,a]at this;exact this.nil
 have G:∀w∈g.E,w=0:=λw A=>by
  obtain h|⟨k,o,B,l,_⟩:=d w A;exact h;obtain rfl|rfl:=B;simp only[Pts.mg,z]at l;cases l;simp only[Pts.tu,y]at l;cases l
 refine⟨?_,λ_=>⟨a,z,y,G⟩⟩;rw[Zh9 x];unfold TF;rw[Zh9 x];have u:=XN.1 I.body.bb;have n:∀k,(⟨[],[],[],[]⟩:Pts).at k=[]:=λk=>by unfold Pts.at;split<;>(try split)<;>(try split)<;>rfl
 have C:∀k,Zx {g with Y:=xw,ah:=[],ak:=[]} k=[]:=λk=>by unfold Zx;simp only[a,f];split<;>(try split)<;>(try split)<;>rfl
 refine⟨⟨⟨XN.2 ?_,λk B=> ?_⟩,λk B o l=> ?_,λk B o l=> ?_,?_⟩,F,by show 0<=g.Z;omega,by show g.Z<=xq g.H;omega,λh=>Zgf,λ_=>⟨by show g.Z=xq g.H;rw[a,t];rfl,rfl,rfl⟩,λh=>Zgf,λw A=>.inl<|G w A⟩;simp only[Zv,Zif]at u⊢;omega;rw[n,C];exact Zh3 _;rw[n]at l;cases l;rw[n]at l;cases l;show(xq g.H:Int)+xq g.ab+YF ⟨[],[],[],[]⟩<=g.cap;rw[a,f];simp only[Zv]at u;simp[YF,Yu];omega
def Z3R(r:Rt h p)(hc:h.Y=xw):∃g q,FlipI h p (xq h.E) g q/\X1 h=TF g/\Rt (TF g) (if 0<(xq g.H) then q else⟨[],[],[],[]⟩)/\(¬0<xq g.H->g.H=[]/\q.H=[]/\q.ab=[]/\∀w∈g.E,w=0):=by
 obtain⟨q,I⟩:=ym r hc (xq h.E)<|Zh3 _;exact⟨_,q,I,rfl,Z3S r hc I⟩
end
end
end Vm
end
