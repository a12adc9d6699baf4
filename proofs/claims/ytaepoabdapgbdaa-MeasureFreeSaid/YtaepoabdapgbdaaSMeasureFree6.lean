import Derived.RangeFuncNested
import Derived.RangeFuncBound
import Derived.LoopNIn
import Derived.LoopIn
import Derived.Shelf.RegionOpen
import Derived.RecoverIn
import Derived.Maps.OwnIn
import Derived.Test.YtaepoabdapgbdaaSMeasureFree5
set_option linter.unusedSimpArgs false
set_option linter.unusedVariables false
set_option linter.defProp false
open Option renaming some→J,none→U
open Bool renaming true→xk,false→xw
open List renaming length→I
open Array renaming size→xz
open Go.World renaming heap→xj
open List renaming length→xq
open Array renaming size→xz
open Go.World renaming heap→xj
set_option maxHeartbeats 1000000
set_option maxRecDepth 100000
theorem ZeE{p:Prop}(h:p:=by simp[XO];omega):p:=h
theorem Zes{p:Prop}(h:p:=by rw[cell_of_row _ _ _ _ _ _ d.out.2.1];rfl):p:=h
theorem Zen{p:Prop}(h:p:=by have:=d.out.size;simp at this;omega):p:=h
theorem ZdT{p:Prop}(h:p:=by have:=heap_alloc_new (w.alloc<|.cells #[.int .i64 0,.int .i64 0,.int .i64 0,.bool xw,.int .u64 0] 120)<|.cells #[.int .i64 a,.int .i64 0,.int .i64 0,.bool xw,.int .u64 0] 120;simp_all):p:=h
theorem Zee{p:Prop}(h:p:=by rw[cell_of_row _ _ _ _ _ _ n];rfl):p:=h
theorem Zed{p:Prop}(h:p:=by rw[cell_of_row _ _ _ _ _ _ h];rfl):p:=h
theorem Zef{p:Prop}(h:p:=by rw[cell_of_row _ _ _ _ _ _ u];rfl):p:=h
theorem Ze0{p:Prop}(h:p:=by rw[Zy _ (by omega) (by omega)];omega):p:=h
theorem Zec{p:Prop}(h:p:=by rw[cell_of_row _ _ _ _ _ _ F];rfl):p:=h
def Zig:=@List.findIdx?_cons
def ZfH:=@List.findIdx?_eq_some_iff_getElem
def Zi8:=@List.take_succ_cons
def ZgV:=@List.getElem?_eq_none_iff
def Zih:=@List.pairwise_cons
def ZhY:=@Bool.false_or
def ZiE:=@Bool.eq_iff_iff
def ZhD:=@Go.grownBy_putObj'
def ZfX:=@Go.World.alloc_heap_new
def ZgN:=@Go.World.size_alloc
def Zh9:=@Go.World.putObj_heap_same
def Zfq:=@Go.World.putObj_heap_other
def Zhm:=@eq_false
def Zgz:=@Array.replicate_succ
def ZgA:=@Array.replicate_zero
def Zh1:=@List.push_toArray
def ZgG:=@List.append_toArray
def Zhi:=@eq_true
def ZgQ:=@Go.callsIn_wide
def Zh7:=@Go.grownBy_setCell'
def ZhX:=@Go.run_takeDeferred
def ZhN:=@List.filter_eq_nil_iff
def ZiY:=@decide_true
def Zii:=@decide_false
def Zi0:=@List.sum_cons
def Zh5:=@List.flatMap_append
def Zix:=@List.drop_append
def Zhb:=@List.set_cons_zero
def ZhI:=@Nat.add_sub_cancel_left
def Zir:=@List.flatMap_cons
def ZfL:=@List.getElem?_take_of_lt
def ZiL:=@List.mem_append_right
section
namespace Vm
open Go Go.Proofs
def XU{α:Type}(l:List<|Int×α)(k:Int)(v:α):List<|Int×α:=match l.findIdx? (·.1==k)with
 |some i=>l.set i (k,v)
 |none=>l++[(k,v)]
def Yb{α:Type}(l:List<|Int×α)(k:Int):Option α:=(l.find? (·.1==k)).map (·.2)
def Yh{α:Type}(f:α->V)(l:List<|Int×α):V:=.mp 0 (l.map λx=>vu x.1) (l.map λx=>f x.2)
def A9{α:Type}{k}:∀ {l:List (Int×α)},Ty (vu k) (l.map λx=>vu x.1)=J (l.findIdx? (·.1==k))
 | []=>rfl
 |y::l=>by
  simp only[Zfi,Ty,KH,Zig];by_cases h:k=y.1;simp[h];have a:(k==y.1)=xw:=ZeH;have d:(y.1==k)=xw:=by simpa using Zgu h
  simp[a,d,A9]
def Ki{α:Type}{p}:∀ {l:List α},l.find? p=(l.findIdx? p).bind λi=>l[i]?
 | []=>rfl
 |x::l=>by
  rw[List.find?_cons,Zig];cases h:p x;simp;rw[Ki (l:=l)];cases l.findIdx? p<;>simp;simp
theorem Q9{α f}{l:List (Int×α)}{k z ok}:UB (.i .u64) (Yh f l) (vu k) z ok=match Yb l k with
  |some x=>J (if ok then .am [f x,.bool xk]else f x)
  |none=>J (if ok then .am [z,.bool xw]else z):=by
 unfold UB Yh Yb;simp[Vf,A9,Ki];grind [List.findIdx?_eq_some_iff_getElem]
def KN{α f l k}{x:α}:T8 (.i .u64) (Yh f l) (vu k) (f x)=J (Yh f<|XU l k x):=by
 unfold T8 Yh XU;simp[Vf,A9];cases h:l.findIdx? (·.1==k)with
 |none=>simp
 |some i=>
  let⟨d,g,_⟩:=ZfH.1 h;have a:(l[i]).1=k:=by simpa using g
  simp only[ZeK,V.mp.injEq,true_and];constructor;rw[Zhw];apply Zh0;intro j;rw[List.getElem?_set];split;rename_i e;subst e;simp[d,a];rfl;rw[Zhw]
@[simp]theorem Zcj{α}f(l:List<|Int×α):YP (Yh f l)=J (Yh f l):=rfl
@[simp]theorem Zan{α}f(l:List<|Int×α):(Yh f l).cells=[Yh f l]:=rfl
@[simp]theorem Zcu{α}f(l:List<|Int×α):(Yh f l).one=xk:=rfl
@[simp]theorem Zc9{α}f(l:List<|Int×α):R3 (Yh f l)=J (vi<|I l):=by simp[Yh]
def J6{α l k j}{x:α}:Yb (XU l k x) j=if k=j then J x else Yb l j:=by
 unfold Yb XU;cases h:l.findIdx? (·.1==k)with
 |none=>
  grind
 |some i=>
  let⟨d,o,a⟩:=ZfH.1 h;by_cases e:k=j;subst e;rw[if_pos rfl,Ki];grind [List.findIdx?_eq_some_iff_getElem,List.getElem_set_ne];rw[if_neg e,Ki,Ki];have:(l.set i (k,x)).findIdx? (·.1==j)=l.findIdx? (·.1==j):=by
   apply Option.ext;intro q;rw[ZfH,ZfH];constructor;grind;grind
  rw[this];cases f:l.findIdx? (·.1==j)with
  |none=>rfl
  |some q=>
   let⟨g,n,_⟩:=ZfH.1 f;grind
structure Ck where
 h:Hp
 o1:List Ob
 o2:List Ob
 o3:List Ob
 o4:List Ob
 pm:List<|Int×Int
 lm:List<|Int×(Int×Int)
def Ck.dq(s:Ck)(k:Int):List Ob:=if k=1 then s.o1 else if k=2 then s.o2 else if k=3 then s.o3 else s.o4
def ZX(s:Ck):List V:=[vu s.h.base,vi s.h.cap,vi s.h.to,.bool s.h.Y,vi s.h.Z,.sl<|s.h.H.map vu,.sl<|s.h.ab.map vu,.sl<|s.h.ah.map vu,.sl<|s.h.ak.map vu,.sl<|s.h.E.map vu,
 vu s.h.base,vi s.h.cap,vi s.h.to,vi<|I s.h.H,vi<|I s.h.ab,vi<|I s.h.ah,vi<|I s.h.ak,
 .sl (s.o1.map ZO),.sl<|s.o2.map ZO,.sl<|s.o3.map ZO,.sl<|s.o4.map ZO,Yh vi s.pm,Yh Wa s.lm]
def X6(s:Ck):V:=.ptr<|ZX s
def Rs:IntKind.i64.wrap 0=0:=Ze4
def Tl:IntKind.i64.wrap 1=1:=Ze4
def U5:IntKind.i64.wrap 2=2:=Ze4
def Uo:IntKind.i64.wrap 3=3:=Ze4
def P8{s:Ck}{k:Int}(a:1<=k/\k<=4):VC Sol.prog 85 xw [X6 s,vi k]<|.sl<|(Zx s.h k).map vu:=by
 refine ZS Sol.func85 follows Z2 c85 rfl ?_;have:k=1\/k=2\/k=3\/k=4:=Z0;obtain rfl|rfl|rfl|rfl:=this<;>simp[Mo,X6,ZX,Zx,Y8,Rs,Tl,U5,Uo]
def YN(s:Ck)(w first last:Int):Bool:=decide (w=0)||(decide ((adr w).2=0)&&match Yb s.pm (adr w).1 with
 |some k=>decide (first<=k)&&decide (k<=last)
 |none=>xw)
def Lb{s:Ck}{w first last:Int}(f:ZC w):VC Sol.prog 89 xw [X6 s,vu w,vi first,vi last]<|.bool<|YN s w first last:=by
 refine ZS Sol.func89 follows Z2 c89 rfl ?_;unfold YN;by_cases a:w=0;simp[BR,a];simp[BR,a,X6,ZX];refine Zz (JZ f) Z1 ?_;by_cases d:(adr w).2=0;case neg=>simp[d]
 simp[d,Q9];cases g:Yb s.pm (adr w).1 with
 |none=>simp
 |some k=>
  simp_all
def WA(h:Hp)(k:Int):List (Int×Int)->List Ob->List (Int×Int)
 |m,[]=>m
 |m,o::l=>WA h k (XU m (Y2 (Zv h) k o.aa).1 k) l
def Xx(h:Hp)(k:Int):List (Int×(Int×Int))->List Ob->List (Int×(Int×Int))
 |m,[]=>m
 |m,o::l=>Xx h k (if k=1 then XU m (Y2 (Zv h) k o.aa).1 (o.size,o.M)else m) l
def Ck.put(s:Ck)(k:Int)(l:List Ob):Ck:=if k=1 then {s with o1:=l}else if k=2 then {s with o2:=l}else if k=3 then {s with o3:=l}else {s with o4:=l}
def XR(s:Ck)(k:Int)(l:List Ob):Ck:= {s.put k l with pm:=WA s.h k s.pm l,lm:=Xx s.h k s.lm l}
def KV{h k}:∀ {l:List Ob} {i:Nat} {o:Ob} {m:List (Int×Int)},l[i]?=J o->WA h k m (l.take<|i+1)=XU (WA h k m<|l.take i) (Y2 (Zv h) k o.aa).1 k
 | [],_,_,_,h=>Zer
 |x::l,0,o,m,h=>by simp_all[WA]
 |x::l,i+1,o,m,h=>by
  simp_all[Zi8,WA,KV]
def KT{h k}:∀ {l:List Ob} {i:Nat} {o:Ob} {m:List (Int×(Int×Int))},l[i]?=J o->Xx h k m (l.take<|i+1)=if k=1 then XU (Xx h k m<|l.take i) (Y2 (Zv h) k o.aa).1 (o.size,o.M)else Xx h k m (l.take i)
 | [],_,_,_,h=>Zer
 |x::l,0,o,m,h=>by simp_all[Xx]
 |x::l,i+1,o,m,h=>by
  simp_all[Zi8,Xx,KT]
abbrev zp:List CK:=[.fz,.fz,.fz,.fz,.fz,.fz,.fz,.fz,.fz,.fz,.fz,.fz,.fz,.fz,.fz,.fz,.fz,.fz,.fz,.fz,.fz,.own 108,.own 109]
@[simp]theorem Z6i(s:Ck)k l:(s.put k l).h=s.h:=by
 unfold Ck.put;split;rfl;split;rfl;split<;>rfl
def yE{l k x}:T8 (.i .u64) (Yh vi l) (vu k) (vi x)=J (Yh vi<|XU l k x):=KN
def yF{l k a b}:T8 (.i .u64) (Yh Wa l) (vu k) (.agg [vi a,vi b])=J (Yh Wa<|XU l k (a,b)):=KN (f:=Wa) (x:=(a,b))
def yK{s:Ck}(r:s.h.ok){k:Int}(w:1<=k/\k<=4){l:List Ob}(x:I l<=1000000):Vr Sol.prog 88 [.mem zp,.fz,.fz] [.agg<|ZX s,vi k,.sl<|l.map ZO]<|.am [.am [],.agg<|ZX<|XR s k l]:=by
 refine JN Sol.func88 follows Z2 c88 Z2 ?_;have t:k=1\/k=2\/k=3\/k=4:=Z0;have q:I l<=Y3:=by unfold Y3;omega
 have u:∀k,({s.put k l with pm:=s.pm,lm:=s.lm}:Ck)=s.put k l:=by
  intro k;unfold Ck.put;split;rfl;split;rfl;split<;>rfl
 have o:=λ(k at_:Int)=>Ed r.bb (part:=k) (at_:=at_);unfold Zv X2 at o;obtain rfl|rfl|rfl|rfl:=t
 .simp[L5,ZX,Y8,UR,Rs,Tl,U5,Uo,setCells];refine VI 3 (I l) (λi=>[(0,.m<|ZX {s.put 1 l with pm:=WA s.h 1 s.pm<|l.take i,lm:=Xx s.h 1 s.lm (l.take i)}),(3,.v<|vi i)]) (λ_=>True) (by simp[ZX,Ck.put,WA,Xx]) Z1 trivial ?_;intro i p _;have d:=Zy ((i:Int)+1) Z0 Z0;by_cases a:i<I l
  .have f:l[i]?=J l[i]:=ZeL a;have g:=KV (h:=s.h) (k:=1) (m:=s.pm) f;have j:=KT (h:=s.h) (k:=1) (m:=s.lm) f;have n:=o 1 (l[i]).aa;simp[a,f,d,ZX,X7];refine Zz n Z1 ?_;simp[yE,yF,g,j,d,a];first|done|rfl|exact⟨rfl,rfl⟩
  have:i=I l:=Z0;subst this;simp[ZX,XR,Zg9]
 .simp[L5,ZX,Y8,UR,Rs,Tl,U5,Uo,setCells];refine VI 3 (I l) (λi=>[(0,.m<|ZX {s.put 2 l with pm:=WA s.h 2 s.pm<|l.take i,lm:=Xx s.h 2 s.lm (l.take i)}),(3,.v<|vi i)]) (λ_=>True) (by simp[ZX,Ck.put,WA,Xx]) Z1 trivial ?_;intro i p _;have d:=Zy ((i:Int)+1) Z0 Z0;by_cases a:i<I l
  .have f:l[i]?=J l[i]:=ZeL a;have g:=KV (h:=s.h) (k:=2) (m:=s.pm) f;have j:=KT (h:=s.h) (k:=2) (m:=s.lm) f;have n:=o 2 (l[i]).aa;simp[a,f,d,ZX,X7];refine Zz n Z1 ?_;simp[yE,yF,g,j,d,a];first|done|rfl|exact⟨rfl,rfl⟩
  have:i=I l:=Z0;subst this;simp[ZX,XR,Zg9]
 .simp[L5,ZX,Y8,UR,Rs,Tl,U5,Uo,setCells];refine VI 3 (I l) (λi=>[(0,.m<|ZX {s.put 3 l with pm:=WA s.h 3 s.pm<|l.take i,lm:=Xx s.h 3 s.lm (l.take i)}),(3,.v<|vi i)]) (λ_=>True) (by simp[ZX,Ck.put,WA,Xx]) Z1 trivial ?_;intro i p _;have d:=Zy ((i:Int)+1) Z0 Z0;by_cases a:i<I l
  .have f:l[i]?=J l[i]:=ZeL a;have g:=KV (h:=s.h) (k:=3) (m:=s.pm) f;have j:=KT (h:=s.h) (k:=3) (m:=s.lm) f;have n:=o 3 (l[i]).aa;simp[a,f,d,ZX,X7];refine Zz n Z1 ?_;simp[yE,yF,g,j,d,a];first|done|rfl|exact⟨rfl,rfl⟩
  have:i=I l:=Z0;subst this;simp[ZX,XR,Zg9]
 .simp[L5,ZX,Y8,UR,Rs,Tl,U5,Uo,setCells];refine VI 3 (I l) (λi=>[(0,.m<|ZX {s.put 4 l with pm:=WA s.h 4 s.pm<|l.take i,lm:=Xx s.h 4 s.lm (l.take i)}),(3,.v<|vi i)]) (λ_=>True) (by simp[ZX,Ck.put,WA,Xx]) Z1 trivial ?_;intro i p _;have d:=Zy ((i:Int)+1) Z0 Z0;by_cases a:i<I l
  .have f:l[i]?=J l[i]:=ZeL a;have g:=KV (h:=s.h) (k:=4) (m:=s.pm) f;have j:=KT (h:=s.h) (k:=4) (m:=s.lm) f;have n:=o 4 (l[i]).aa;simp[a,f,d,ZX,X7];refine Zz n Z1 ?_;simp[yE,yF,g,j,d,a];first|done|rfl|exact⟨rfl,rfl⟩
  have:i=I l:=Z0;subst this;simp[ZX,XR,Zg9]
end Vm
namespace Vm
open Go Go.Proofs
def Va(s:Ck):V:=.ptr [X6 s]
def Z7O{s:Ck}{a w:Int}(d:ZC w):VC Sol.prog 91 xw [vi a,vu w,Va s]<|.bool<|YN s w 1 2:=by
 refine ZS Sol.func91 follows Z2 c91 rfl ?_;have k:=Lb (s:=s) (first:=1) (last:=2) d;unfold Va X6 at*;simp[Mr,YP,V.one];refine Zz k Z1 ?_;simp
def Z7P{s:Ck}{a w:Int}(d:ZC w):VC Sol.prog 92 xw [vi a,vu w,Va s]<|.bool<|decide (s.h.Z<=a)||YN s w 1 2:=by
 refine ZS Sol.func92 follows Z2 c92 rfl ?_;have k:=Lb (s:=s) (first:=1) (last:=2) d;unfold Va X6 at*;by_cases h:s.h.Z<=a;simp[BS,YP,V.one,ZX,h];simp[BS,YP,V.one,ZX,h];refine Zz k (by simp[ZX]) ?_;simp[h]
def Z8K{s:Ck}{a w:Int}(d:ZC w):VC Sol.prog 93 xw [vi a,vu w,Va s]<|.bool<|decide (a<s.h.Z)||YN s w 1 4:=by
 refine ZS Sol.func93 follows Z2 c93 rfl ?_;have k:=Lb (s:=s) (first:=1) (last:=4) d;unfold Va X6 at*;by_cases h:a<s.h.Z;simp[BT,YP,V.one,ZX,h];simp[BT,YP,V.one,ZX,h];refine Zz k (by simp[ZX]) ?_;simp[h]
def H8{s:Ck}{a w:Int}(d:ZC w):VC Sol.prog 94 xw [vi a,vu w,Va s]<|.bool<|YN s w 3 4:=by
 refine ZS Sol.func94 follows Z2 c94 rfl ?_;have k:=Lb (s:=s) (first:=3) (last:=4) d;unfold Va X6 at*;simp[Ms,YP,V.one];refine Zz k Z1 ?_;simp
structure Ck.ok (s:Ck):Prop where
 h:s.h.ok
 ob:∀k,∀o∈s.dq k,QH (I<|Zx s.h k) o/\ZC o.target
 len:∀k,I (s.dq k)<=1000000
def U6(ws:List Int)(k:Nat):Int:=(ws[k]?).getD 0
def obQ(s:Ck)(k:Int)(q:Int->Int->Bool)(o:Ob):Bool:=o.gone||(List.range o.M.toNat).all λj=>q ((o.aa.toNat+1+j:Nat):Int)<|U6 (Zx s.h k)<|o.aa.toNat+1+j
def WT(s:Ck)(k:Int)(q:Int->Int->Bool):Bool:=(s.dq k).all<|obQ s k q
def La{s:Ck}(u:s.ok){k:Int}(W:1<=k/\k<=4){f:FuncId}{cs:List V}{q:Int->Int->Bool}(hq:∀a w,ZC w->VC Sol.prog f xw ([vi a,vu w]++cs) (.bool<|q a w)):
  VC Sol.prog 90 xw [X6 s,vi k,.cp f cs] (.bool<|WT s k q):=by
 refine ZS Sol.func90 follows Z2 c90 rfl ?_;simp[-List.all_eq_true,-List.all_eq_false,Mq];refine Zz (P8 W) Z1 ?_;have Z:Y0 (.agg [.sl<|s.o1.map ZO,.sl<|s.o2.map ZO,.sl<|s.o3.map ZO,.sl<|s.o4.map ZO]) 0=J (.sl<|s.o1.map ZO):=rfl;have Q:=u.len k;have D:=u.ob k;have hw:=(XJ u.h k).1;have Y:=(XJ u.h k).2;have x:Y8 (.agg [.sl<|s.o1.map ZO,.sl<|s.o2.map ZO,.sl<|s.o3.map ZO,.sl<|s.o4.map ZO]) (.int .i64<|IntKind.i64.wrap<|k-1) 4 1 xk=J (.agg [.sl<|(s.dq k).map ZO]):=by
  have:k=1\/k=2\/k=3\/k=4:=Z0;obtain rfl|rfl|rfl|rfl:=this<;>simp[Y8,Ck.dq,Rs,Tl,U5,Uo]
 unfold WT;generalize hL:s.dq k=L at*;generalize S:Zx s.h k=r at*;simp[-List.all_eq_true,-List.all_eq_false,X6,ZX,x];refine jm 5 (I L) (λi=>(L.take i).all (obQ s k q)=xk) Z1 Z1 Z1 ?_;intro i hi O;have a0:=Zy ((i:Int)+1) Z0 Z0;by_cases l:i<I L;have M:L[i]?=J L[i]:=ZeL l;obtain⟨⟨⟨a,N,P⟩,F⟩,_⟩:=D _<|Zf7 l;generalize L[i]=o at*;obtain⟨s1,s2,s3,s4⟩:=YB.1 F;obtain⟨m,R⟩:=Zf0 s3;have G:=Zy ((a:Int)+1) Z0 Z0;have C:obQ s k q o=xk->(L.take<|i+1).all (obQ s k q)=xk:=λh=>by simp_all[Ei]
 have y:obQ s k q o=xw->L.all (obQ s k q)=xw:=λg=>Eh M g;cases z:o.gone;have t:obQ s k q o=(List.range m).all λj=>q ((a+1+j:Nat):Int)<|U6 r<|a+1+j:=by
  unfold obQ;rw[R,N,S,z];rfl
 simp[-List.all_eq_true,-List.all_eq_false,l,M,Yl M,X7,z,N,R];refine jm 11 m (λj=>((List.range j).all λj=>q ((a+1+j:Nat):Int)<|U6 r<|a+1+j)=xk) Z1 Z1 Z1 ?_;intro j hj T;have a1:=Zy ((j:Int)+1) Z0 Z0;by_cases A:j<m;obtain⟨w,d,hu⟩:∃w,r[a+1+j]?=J w/\ZC w:=⟨_,ZeL Z0,hw _<|Zf7 _⟩;have K:U6 r (a+1+j)=w:=by unfold U6;rw[d];rfl
 have p:((List.range<|j+1).all λj=>q ((a+1+j:Nat):Int)<|U6 r<|a+1+j)=(((List.range j).all λj=>q ((a+1+j:Nat):Int)<|U6 r<|a+1+j)&&q ((a+1+j:Nat):Int) w):=by
  rw[Zh2,List.all_append];simp[K]
 have g:q ((a+1+j:Nat):Int) w=xw->L.all (obQ s k q)=xw:=λg=>y (by
  grind)
 obtain⟨n,X⟩:∃n,a+1+j=n:=⟨_,rfl⟩;have B:(a:Int)+1+(j:Int)=(n:Int):=Z0;have H:=Zy (n:Int) Z0 Z0;rw[X]at d p g;have kq:=hq (n:Int) w hu;simp[-List.all_eq_true,-List.all_eq_false,A,G,B,H,d,Yl d,X7];refine Zz kq Z1 ?_;simp_all;have:j=m:=Z0;simp_all;have t:obQ s k q o=xk:=by unfold obQ;rw[z];rfl
 simp_all;have:i=I L:=Z0;simp_all
@[simp]theorem ZcC l:(V.ptr l).one=xk:=rfl
@[simp]theorem Zcr l:YP (.ptr l)=J (.ptr l):=rfl
@[simp]theorem Zcy f l:(V.cp f l).one=xk:=rfl
@[simp]theorem Zcn f l:YP (.cp f l)=J (.cp f l):=rfl
@[simp]theorem Zcm s:YP (X6 s)=J (X6 s):=rfl
@[simp]theorem Zcx s:(X6 s).one=xk:=rfl
@[simp]theorem Zd8 s:Tj (X6 s)=J (.agg<|ZX s):=rfl
@[simp]theorem ZaE s:(ZX s)[4]?=J (vi s.h.Z):=rfl
@[simp]theorem Zax s:(ZX s)[3]?=J (.bool s.h.Y):=rfl
@[simp]theorem ZaD s:(ZX s)[9]?=J (.sl<|s.h.E.map vu):=rfl
@[simp]theorem ZaB s:(ZX s)[5]?=J (.sl<|s.h.H.map vu):=rfl
@[simp]theorem Zaz s:(ZX s)[6]?=J (.sl<|s.h.ab.map vu):=rfl
@[simp]theorem ZaC s:(ZX s)[7]?=J (.sl<|s.h.ah.map vu):=rfl
@[simp]theorem Zay s:(ZX s)[8]?=J (.sl<|s.h.ak.map vu):=rfl
@[simp]theorem Zaw s:(ZX s)[1]?=J (vi s.h.cap):=rfl
def Qw(s:Ck):Bool:=s.h.E.all (λw=>YN s w 1 2)&&(WT s 2 (λ_ w=>YN s w 1 2)&&WT s 1 (λa w=>decide (s.h.Z<=a)||YN s w 1 2))
def Z7Q{s:Ck}(n:s.ok):VC Sol.prog 77 xw [X6 s]<|.bool<|Qw s:=by
 refine ZS Sol.func77 follows Z2 c77 rfl ?_;have k1:=La n (k:=2) Z0 (f:=91) (cs:=[Va s]) (q:=λ_ w=>YN s w 1 2) (λa w l=>Z7O l);have y:=La n (k:=1) Z0 (f:=92) (cs:=[Va s]) (q:=λa w=>decide (s.h.Z<=a)||YN s w 1 2) (λa w l=>Z7P l);have C:=λw (l:ZC w)=>Lb (s:=s) (first:=1) (last:=2) l;have A:=n.h.E;have t:=n.h.di;unfold Qw;unfold Va at k1 y;generalize WT s 2 (λ_ w=>YN s w 1 2)=z at*;generalize WT s 1 (λa w=>decide (s.h.Z<=a)||YN s w 1 2)=D at*;simp[-List.all_eq_true,-List.all_eq_false,Mh];refine jm 3 (I s.h.E) (λi=>(s.h.E.take i).all (λw=>YN s w 1 2)=xk) Z1 Z1 Z1 ?_;intro i F g;have u:=Zy ((i:Int)+1) Z0 Z0;by_cases j:i<I s.h.E;have o:s.h.E[i]?=J s.h.E[i]:=ZeL j;have B:=t _<|Zf7 j;generalize s.h.E[i]=w at*;have p:YN s w 1 2=xw->s.h.E.all (λw=>YN s w 1 2)=xw:=λr=>Eh o r;have d:=Ei (q:=λw=>YN s w 1 2) o;rw[g]at d;simp[-List.all_eq_true,-List.all_eq_false,j,o,Yl o,X7];refine Zz (C w B) Z1 ?_;cases x:YN s w 1 2;simp[-List.all_eq_true,-List.all_eq_false,p x];rw[x]at d;simp[-List.all_eq_true,-List.all_eq_false,u,j,d];have:i=I s.h.E:=Z0;subst this;rw[Zgy]at g;simp[-List.all_eq_true,-List.all_eq_false,g];refine Zz k1 (by simp[Wy,V.bi]) ?_;cases z;simp;simp;refine Zz y (by simp[Wy,V.bi]) ?_;simp
def Qz(s:Ck):Bool:=WT s 1 (λa w=>decide (a<s.h.Z)||YN s w 1 4)
def Z8L{s:Ck}(d:s.ok):VC Sol.prog 78 xw [X6 s]<|.bool<|Qz s:=by
 refine ZS Sol.func78 follows Z2 c78 rfl ?_;have k1:=La d (k:=1) Z0 (f:=93) (cs:=[Va s]) (q:=λa w=>decide (a<s.h.Z)||YN s w 1 4) (λa w g=>Z8K g);unfold Qz;unfold Va at k1;simp[Mi];refine Zz k1 (by simp[Wy,V.bi]) ?_;simp
def Q7(s:Ck):Bool:=WT s 3 (λ_ w=>YN s w 3 4)&&WT s 4 (λ_ w=>YN s w 3 4)
def Z3H{s:Ck}(g:s.ok):VC Sol.prog 79 xw [X6 s]<|.bool<|Q7 s:=by
 refine ZS Sol.func79 follows Z2 c79 rfl ?_;have k1:=La g (k:=3) Z0 (f:=94) (cs:=[Va s]) (q:=λ_ w=>YN s w 3 4) (λa w d=>H8 d);have h:=La g (k:=4) Z0 (f:=94) (cs:=[Va s]) (q:=λ_ w=>YN s w 3 4) (λa w d=>H8 d);unfold Q7;unfold Va at k1 h;generalize WT s 3 (λ_ w=>YN s w 3 4)=j at*;generalize WT s 4 (λ_ w=>YN s w 3 4)=l at*;simp[Mj];refine Zz k1 (by simp[Wy,V.bi]) ?_;cases j;simp;simp;refine Zz h (by simp[Wy,V.bi]) ?_;simp
end Vm
namespace Vm
open Go Go.Proofs
def SP(s:Ck):Bool:=ZJ (Zv s.h)&&(decide (I s.h.E<=16)&&(decide (0<=s.h.Z)&&decide (s.h.Z<=I s.h.H)))
def Z0K{s:Ck}(f:s.h.ok):VC Sol.prog 73 xw [X6 s]<|.bool<|SP s:=by
 refine ZS Sol.func73 follows Z2 c73 rfl ?_;have k:=Lq f.bb;unfold SP;unfold Zv X2 at k;simp[Mf];simp[ZX];refine Zz k Z1 ?_;have e:ZJ {base:=s.h.base,cap:=s.h.cap,to:=s.h.to,H:=(I s.h.H:Int),ab:=(I s.h.ab:Int),ah:=(I s.h.ah:Int),ak:=(I s.h.ak:Int)}=ZJ (Zv s.h):=rfl;rw[e];cases ZJ (Zv s.h);simp;by_cases d:I s.h.E<=16;have a:(I s.h.E:Int)<=16:=Z0;simp_all;have a:¬(I s.h.E:Int)<=16:=Z0;simp[d,a]
def Qq(s:Ck):Bool:=if s.h.Y then decide (s.h.Z<I s.h.H)else decide (I s.h.ah=0)&&(decide (I s.h.ak=0)&&decide (s.h.Z=I s.h.H))
def Z72{s:Ck}:VC Sol.prog 74 xw [X6 s]<|.bool<|Qq s:=by
 refine ZS Sol.func74 follows Z2 c74 rfl ?_;unfold Qq;cases f:s.h.Y;by_cases g:I s.h.ah=0;have a:s.h.ah=[]:=ZgC.1 g;by_cases j:I s.h.ak=0;have d:s.h.ak=[]:=ZgC.1 j;simp[L4,f,a,d];have d:¬s.h.ak=[]:=λe=>j (by simp[e]);simp[L4,f,a,j,d];have a:¬s.h.ah=[]:=λe=>g (by simp[e]);simp[L4,f,g,a];simp[L4,f]
def SD(s:Ck):Nat:=Y1 s.o3+Y1 s.o4
@[simp]theorem Zcd s:((ZX s).drop 17).take 4=[.sl<|s.o1.map ZO,.sl<|s.o2.map ZO,.sl<|s.o3.map ZO,.sl<|s.o4.map ZO]:=rfl
@[simp]theorem ZaA s:I (ZX s)=23:=rfl
def OU{s:Ck}(t:s.ok):VC Sol.prog 37 xw [X6 s]<|vi<|SD s:=by
 refine ZS Sol.func37 follows Z2 c37 rfl ?_;have p:∀k,∀o∈s.dq k,YA o.size o.M=xk:=λk o n=>(t.ob k o n).1.2;have K:I s.o3<=1000000:=t.len 3;have L:I s.o4<=1000000:=t.len 4;have a:∀o∈s.o3,YA o.size o.M=xk:=p 3;have d:∀o∈s.o4,YA o.size o.M=xk:=p 4;have F:=RC a;have G:=RC d;have A:Y8 (.agg [.sl<|s.o1.map ZO,.sl<|s.o2.map ZO,.sl<|s.o3.map ZO,.sl<|s.o4.map ZO]) (.int .i64 2) 4 1 xk=J (.agg [.sl<|s.o3.map ZO]):=by simp[Y8]
 have B:Y8 (.agg [.sl<|s.o1.map ZO,.sl<|s.o2.map ZO,.sl<|s.o3.map ZO,.sl<|s.o4.map ZO]) (.int .i64 3) 4 1 xk=J (.agg [.sl<|s.o4.map ZO]):=by simp[Y8]
 simp[IY];refine Rz (λ(i:Nat)=>[(2,.v<|vi ((if 0<i then Y1 s.o3 else 0)+(if 1<i then Y1 s.o4 else 0):Nat)),(3,.v<|vi ((i+3:Nat):Int))]) (λi=>i<=2) (XO 3 5) 0 Z1 Z1 ?_;rintro i M;have q:i=0\/i=1\/i=2:=Z0;obtain rfl|rfl|rfl:=q;simp[U5,A];refine VI 5 (I s.o3) (λj=>[(2,.v<|vi<|Y1<|s.o3.take j),(5,.v<|vi j)]) (λ_=>True) (by simp[Y1]) (λi=>Z1) trivial ?_;rintro j H-;have w:=Zy ((j:Int)+1) Z0 Z0;by_cases h:j<I s.o3;have x:s.o3[j]?=J s.o3[j]:=ZeL h;have f:=a _<|Zf7 h;have u:=Pi x;generalize s.o3[j]=o at*;have r:Y1 (s.o3.take j)<=256*I s.o3:=by
  refine Zff (RC λo n=>a o<|ZfN n) ?_;simp;omega
 obtain⟨g1,g2,C,D⟩:=YB.1 f;obtain⟨z,y⟩:=Zf0 g1;have w1:=Zy (1+(z:Int)) Z0 Z0;have w2:=Zy ((Y1 (s.o3.take j):Int)+(1+z)) Z0 Z0;cases l:o.gone;have g:Wc o=1+z:=by simp[Wc,l,y]
 simp_all;have g:Wc o=0:=by simp[Wc,l]
 simp_all;have:j=I s.o3:=Z0;subst this;rw[Zgy];simp[X7,Zy];exact⟨1,Z0,Z1,by simp[XO]⟩;simp[Uo,B];refine VI 5 (I s.o4) (λj=>[(2,.v<|vi (Y1 s.o3+Y1 (s.o4.take j):Nat)),(5,.v<|vi j)]) (λ_=>True) (by simp[Y1]) (λi=>Z1) trivial ?_;rintro j H-;have w:=Zy ((j:Int)+1) Z0 Z0;by_cases h:j<I s.o4;have x:s.o4[j]?=J s.o4[j]:=ZeL h;have f:=d _<|Zf7 h;have u:=Pi x;generalize s.o4[j]=o at*;have r:Y1 (s.o4.take j)<=256*I s.o4:=by
  refine Zff (RC λo n=>d o<|ZfN n) ?_;simp;omega
 obtain⟨g1,g2,C,D⟩:=YB.1 f;obtain⟨z,y⟩:=Zf0 g1;have w1:=Zy (1+(z:Int)) Z0 Z0;have w2:=Zy ((Y1 s.o3:Int)+Y1 (s.o4.take j)+(1+z)) Z0 Z0;cases l:o.gone;have g:Wc o=1+z:=by simp[Wc,l,y]
 simp_all;omega;have g:Wc o=0:=by simp[Wc,l]
 simp_all;have:j=I s.o4:=Z0;subst this;rw[Zgy];simp[X7,Zy];exact⟨2,Z0,Z1,by simp[XO]⟩;simp[SD]
def Qs(s:Ck):Bool:=decide ((I s.h.H:Int)+I s.h.ab+SD s<=s.h.cap)
def Z8T{s}(a:s.ok):SD s<=512*1000000:=by
 have f:=RC (l:=s.o3) λo d=>(a.ob 3 o d).1.2;have g:=RC (l:=s.o4) λo d=>(a.ob 4 o d).1.2;have h:I s.o3<=1000000:=a.len 3;have j:I s.o4<=1000000:=a.len 4;grind [SD]
def Z77{s:Ck}(a:s.ok):VC Sol.prog 80 xw [X6 s]<|.bool<|Qs s:=by
 refine ZS Sol.func80 follows Z2 c80 rfl ?_;have d:=Z8T a;have f:=a.h.H;have g:=a.h.ab;have w1:=Zy ((I s.h.H:Int)+I s.h.ab) Z0 Z0;have w2:=Zy ((I s.h.H:Int)+I s.h.ab+SD s) Z0 Z0;simp[Mk];refine Zz (OU a) Z1 ?_;simp[w1,w2,Qs]
end Vm
namespace Vm
open Go Go.Proofs
def WK(lm:List<|Int×(Int×Int))(ws:List Int):Nat->Nat->List (Int×Int)->List (Int×Int)
 |0,_,a=>a
 |f+1,i,a=>
  match ws[i]? with
  |none=>a
  |some w=>if(adr w).2=0 then(match Yb lm (adr w).1 with|none=>a|some sh=>WK lm ws f (i+1+sh.1.toNat)<|a++[sh])
   else if(ZT w).2.2=0 then WK lm ws f (i+1+(ZT w).1.toNat) a else a
def U4(lm:List<|Int×(Int×Int))(ws:List Int):List<|Int×Int:=WK lm ws (I ws+1) 0 []
def G8{α l k}{x:α}(h:Yb l k=J x):(k,x)∈l:=by
 obtain⟨y,a,rfl⟩:=ZeN.1 h;grind
def Z7R{s:Ck}(D:∀x∈s.lm,YA x.2.1 x.2.2=xk){ws:List Int}(M:I ws<=1000000)(L:∀w∈ws,ZC w):
  VC Sol.prog 87 xw [X6 s,.sl<|ws.map vu] (.sl<|(U4 s.lm ws).map Wa):=by
 refine ZS Sol.func87 follows Z2 c87 rfl ?_;have C:∀k,UB (.i .u64) (Yh Wa s.lm) (vu k) (.agg [vi 0,vi 0]) xk=match Yb s.lm k with
  |some x=>J<|.am [Wa x,.bool xk]
  |none=>J<|.am [.agg [vi 0,vi 0],.bool xw]:=λk=>by grind [Q9,Yb]
 have B:(ZX s)[22]?=J (Yh Wa s.lm):=rfl;simp[Mp]
 refine Rz (λ(p:Nat×List (Int×Int))=>[(3,.v<|.sl<|p.2.map Wa),(4,.v<|vi p.1)])
  (λp=>p.1<=I ws+256/\I p.2<=p.1/\∃f,I ws<f+p.1/\0<f/\U4 s.lm ws=WK s.lm ws f p.1 p.2) (XO 4<|I ws) (0,[]) Z1 ⟨Z1,Z1,I ws+1,Z1,Z0,rfl⟩ ?_
 rintro⟨i,g⟩ ⟨K,r,f,G,H,a⟩;simp only at K r G a;cases f with
 |zero=>omega
 |succ f=>
 by_cases d:i<I ws;have y:ws[i]?=J ws[i]:=ZeL d;have F:=L _<|Zf7 d;generalize ws[i]=w at*;simp only[WK,y]at a;have u:I g+1<=Y3:=Zeh;simp[d,y,Yl y,X7];refine Zz (JZ F) Z1 ?_;by_cases A:(adr w).2=0;rw[if_pos A]at a;simp[A,B,C];cases t:Yb s.lm (adr w).1 with
 |none=>
  simp_all
 |some q=>
  rw[t]at a;simp only at a;have h:0<=q.1/\q.1<=255/\0<=q.2/\q.2<=q.1:=YB.1<|D _<|G8 t;obtain⟨z,o⟩:=Zf0 h.1;have l:=Zy (1+(z:Int)) Z0 Z0;have n:=Zy ((i:Int)+(1+z)) Z0 Z0;rw[o,Zf2]at a;simp[u,o,l,n];refine⟨i+1+z,g++[q],⟨Z0,ZdP,f,Z0,?_,a⟩,⟨by simp[Wa,o],Z0⟩,ZeE⟩;omega
 rw[if_neg A]at a;simp[A,y,Yl y,d,X7];refine Zz (OH F) Z1 ?_;by_cases j:(ZT w).2.2=0;rw[if_pos j]at a;have h:=YB.1<|Dj j;obtain⟨z,o⟩:=Zf0 h.1;have l:=Zy (1+(z:Int)) Z0 Z0;have n:=Zy ((i:Int)+(1+z)) Z0 Z0;rw[o,Zf2]at a;simp[j,o,l,n];refine⟨i+1+z,g,⟨Z0,Z0,f,Z0,?_,a⟩,⟨rfl,Z0⟩,ZeE⟩;omega;simp_all;simp_all[ZfP,WK]
end Vm
namespace Vm
open Go Go.Proofs
def Ww(pm:List<|Int×Int):List Ob->List (Int×Bool)->Option (List<|Int×Bool)
 | [],m=>J m
 |o::l,m=>if o.gone=xk then(if(Yb pm o.target).getD 0=1/\(Yb m o.target).getD xw=xw then Ww pm l (XU m o.target xk)else U)else Ww pm l m
def RO(s:Ck):Bool:= !s.h.Y||match(Ww s.pm s.o3 []).bind (Ww s.pm s.o4)with
 |none=>xw
 |some m=>decide (I m=I s.o1)
def I3{l k x}:T8 (.i .u64) (Yh .bool l) (vu k) (.bool x)=J (Yh .bool<|XU l k x):=KN
def Jg{l k}:UB (.i .u64) (Yh .bool l) (vu k) (.bool xw) xw=J (.bool<|(Yb l k).getD xw):=by
 grind [Q9]
def Jh{l k}:UB (.i .u64) (Yh vi l) (vu k) (vi 0) xw=J (vi<|(Yb l k).getD 0):=by
 grind [Q9]
def Z4p{α}(f:α->V):Yh f []=.mp 0 [] []:=rfl
def Z1f{s:Ck}(t:s.ok):VC Sol.prog 76 xw [X6 s]<|.bool<|RO s:=by
 refine ZS Sol.func76 follows Z2 c76 rfl ?_;have K:I s.o3<=1000000:=t.len 3;have L:I s.o4<=1000000:=t.len 4;have A:∀o∈s.o3,ZC o.target:=λo z=>(t.ob 3 o z).2;have B:∀o∈s.o4,ZC o.target:=λo z=>(t.ob 4 o z).2;have G:Y8 (.agg [.sl<|s.o1.map ZO,.sl<|s.o2.map ZO,.sl<|s.o3.map ZO,.sl<|s.o4.map ZO]) (.int .i64 2) 4 1 xk=J (.agg [.sl<|s.o3.map ZO]):=by simp[Y8]
 have H:Y8 (.agg [.sl<|s.o1.map ZO,.sl<|s.o2.map ZO,.sl<|s.o3.map ZO,.sl<|s.o4.map ZO]) (.int .i64 3) 4 1 xk=J (.agg [.sl<|s.o4.map ZO]):=by simp[Y8]
 have F:Y8 (.agg [.sl<|s.o1.map ZO,.sl<|s.o2.map ZO,.sl<|s.o3.map ZO,.sl<|s.o4.map ZO]) (.int .i64 0) 4 1 xk=J (.agg [.sl<|s.o1.map ZO]):=by simp[Y8]
 have k:(ZX s)[21]?=J (Yh vi s.pm):=rfl;have y:=(Z4p V.bool).symm;unfold RO;cases D:s.h.Y;simp[BQ,D];simp[BQ,D,y]
 refine Rz (λ(p:Nat×List (Int×Bool))=>[(3,.v<|Yh .bool p.2),(4,.v<|vi ((p.1+3:Nat):Int))])
  (λp=>(p.1=0/\p.2=[])\/(p.1=1/\Ww s.pm s.o3 []=J p.2)\/(p.1=2/\(Ww s.pm s.o3 []).bind (Ww s.pm s.o4)=J p.2)) (XO 4 5) (0,[]) Z1 Z1 ?_
 rintro⟨i,m⟩ (⟨rfl,rfl⟩|⟨rfl,x⟩|⟨rfl,x⟩);simp[U5,G];refine Rz (λ(p:Nat×List (Int×Bool))=>[(3,.v<|Yh .bool p.2),(6,.v<|vi p.1)]) (λp=>p.1<=I s.o3/\Ww s.pm s.o3 []=Ww s.pm (s.o3.drop p.1) p.2) (XO 6<|I s.o3) (0,[]) Z1 Z1 ?_;rintro⟨j,r⟩ ⟨w,a⟩;simp only at w a;have d:=Zy ((j:Int)+1) Z0 Z0;by_cases g:j<I s.o3;have f:s.o3[j]?=J s.o3[j]:=ZeL g;have u:=ZfG g;have C:=A _<|Zf7 g;generalize s.o3[j]=o at*;rw[u,Ww]at a;cases l:o.gone;rw[l]at a;rw[if_neg Z1]at a;simp[X7,g,f,Yl f,l,d];exact⟨j+1,r,⟨Z0,a⟩,⟨rfl,Z0⟩,ZeE⟩;rw[l]at a;rw[if_pos rfl]at a;by_cases n:(Yb s.pm o.target).getD 0=1;cases q:(Yb r o.target).getD xw;rw[if_pos ⟨n,q⟩]at a;simp[X7,g,f,Yl f,l,d,k,Jh,Jg,Wy,V.bi,n,q,I3];exact⟨j+1,XU r o.target xk,⟨Z0,a⟩,⟨rfl,Z0⟩,ZeE⟩;rw[if_neg (by simp[q])]at a;simp[X7,g,f,Yl f,l,d,k,Jh,Jg,Wy,V.bi,n,q,a];rw[if_neg (by simp[n])]at a;simp[X7,g,f,Yl f,l,d,k,Jh,Jg,Wy,V.bi,n,a];have:j=I s.o3:=Z0;subst this;rw[List.drop_length,Ww]at a;simp[Zy];exact⟨1,r,by simp[a],Z1,by simp[XO]⟩;simp[Uo,H];refine Rz (λ(p:Nat×List (Int×Bool))=>[(3,.v<|Yh .bool p.2),(6,.v<|vi p.1)]) (λp=>p.1<=I s.o4/\Ww s.pm s.o4 m=Ww s.pm (s.o4.drop p.1) p.2) (XO 6<|I s.o4) (0,m) Z1 Z1 ?_;rintro⟨j,r⟩ ⟨w,a⟩;simp only at w a;have d:=Zy ((j:Int)+1) Z0 Z0;by_cases g:j<I s.o4;have f:s.o4[j]?=J s.o4[j]:=ZeL g;have u:=ZfG g;have C:=B _<|Zf7 g;generalize s.o4[j]=o at*;rw[u,Ww]at a;cases l:o.gone;rw[l]at a;rw[if_neg Z1]at a;simp[X7,g,f,Yl f,l,d];exact⟨j+1,r,⟨Z0,a⟩,⟨rfl,Z0⟩,ZeE⟩;rw[l]at a;rw[if_pos rfl]at a;by_cases n:(Yb s.pm o.target).getD 0=1;cases q:(Yb r o.target).getD xw;rw[if_pos ⟨n,q⟩]at a;simp[X7,g,f,Yl f,l,d,k,Jh,Jg,Wy,V.bi,n,q,I3];exact⟨j+1,XU r o.target xk,⟨Z0,a⟩,⟨rfl,Z0⟩,ZeE⟩;rw[if_neg (by simp[q])]at a;simp[X7,g,f,Yl f,l,d,k,Jh,Jg,Wy,V.bi,n,q,x,a];rw[if_neg (by simp[n])]at a;simp[X7,g,f,Yl f,l,d,k,Jh,Jg,Wy,V.bi,n,x,a];have:j=I s.o4:=Z0;subst this;rw[List.drop_length,Ww]at a;simp[Zy];exact⟨2,r,ZdN,Z1,by simp[XO]⟩;simp[Rs,U5,F];grind
end Vm
namespace Vm
open Go Go.Proofs
def RF:Prop:=∀a:List Int,I a<=1000000->(∀w∈a,ZC w)->VC Sol.prog 84 xk [.sl<|a.map vu] (.am [.sl<|(ZP a [] xw).1.map ZO,vi (ZP a [] xw).2])
def RG:Prop:=∀(d:List Int) (a:List<|Int×Int),I d<=1000000->I a<=1000000->(∀w∈d,ZC w)->(∀x∈a,YA x.1 x.2=xk)->
 VC Sol.prog 86 xk [.sl<|d.map vu,.sl<|a.map Wa] (.am [.sl<|(ZP d a xk).1.map ZO,vi (ZP d a xk).2])
def Xm(s:Ck)(k:Int):List Ob×Int:=if k<=2 then ZP (Zx s.h k) [] xw else ZP (Zx s.h k) (U4 s.lm<|Zx s.h k) xk
def V0:List Int->Ck->Bool×Ck
 | [],s=>(xk,s)
 |k::l,s=>if(Xm s k).2=0 then V0 l (XR s k (Xm s k).1)else(xw,s)
def Wb(s:Ck):Bool×Ck:=V0 [1,2,3,4] s
def Qf s k l:(XR s k l).h=s.h:=Z6i s k l
def Z6f{α l k x}{y:Int×α}(h:y∈XU l k x):y=(k,x)\/y∈l:=by
 grind [XU]
def Jm{h k}:∀ {l} {m:List (Int×(Int×Int))},(∀o∈l,YA o.size o.M=xk)->(∀x∈m,YA x.2.1 x.2.2=xk)->∀x∈Xx h k m l,YA x.2.1 x.2.2=xk
 | [],m,_,a=>a
 |o::l,m,f,a=>by
  rw[Xx];refine Jm ZdO ?_;split;intro x d;obtain rfl|d:=Z6f d;simp_all;grind;exact a
def LO{s}(a:s.h.ok){k}:(∀o∈(Xm s k).1,QH (I<|Zx s.h k) o/\ZC o.target)/\(Xm s k).1.length<=I (Zx s.h k):=by
 unfold Xm;split;exact⟨JQ (XJ a k).1,JR⟩;exact⟨JQ (XJ a k).1,JR⟩
def CR{lm ws}:∀ {f i} {a:List (Int×Int)},I a<=i->I a<=I ws->I (WK lm ws f i a)<=I ws
 |0,i,a,_,h=>h
 |f+1,i,a,j,h=>by
  rw[WK];cases g:ws[i]? with
  |none=>exact h
  |some w=>
   have d:=(ZeM.1 g).1;simp only;split;split;exact h;exact CR ZdP ZdP;split;exact CR Z0 h;exact h
def O0{lm ws}:I (U4 lm ws)<=I ws:=CR Z1 Z1
def qU{lm ws}(d:∀x∈lm,YA x.2.1 x.2.2=xk):∀ {f i} {a:List (Int×Int)},(∀x∈a,YA x.1 x.2=xk)->∀x∈WK lm ws f i a,YA x.1 x.2=xk
 |0,i,a,h=>h
 |f+1,i,a,h=>by
  rw[WK];cases g:ws[i]? with
  |none=>exact h
  |some w=>
   simp only;split;split;exact h;rename_i k j;refine qU d ?_;intro x g;obtain g|g:=Zfg.1 g;grind;simp at g;subst g;exact d _<|G8 j;split;exact qU d h;exact h
def ji:IntKind.i64.wrap 4=4:=Ze4
def Z90(F:RF)(B:RG){s:Ck}(G:s.h.ok)(D:∀x∈s.lm,YA x.2.1 x.2.2=xk):Vr Sol.prog 75 [.mem zp] [.agg<|ZX s]<|.am [.bool (Wb s).1,.agg<|ZX (Wb s).2]:=by
 refine JN Sol.func75 follows Z2 c75 Z2 ?_;simp[Mg];refine Rz (λ(p:Nat×Ck)=>[(0,.m<|ZX p.2),(3,.v<|vi p.1)]) (λp=>p.1<=4/\p.2.h=s.h/\(∀x∈p.2.lm,YA x.2.1 x.2.2=xk)/\Wb s=V0 ([1,2,3,4].drop p.1) p.2) (XO 3 4) (0,s) Z1 ⟨Z1,rfl,D,rfl⟩ ?_;rintro⟨i,q⟩ ⟨H,A,n,f⟩;simp only at H A n f;have d:q.h.ok:=A▸G;have C:i=0\/i=1\/i=2\/i=3\/i=4:=Z0;have j:=λk K=>P8 (s:=q) (k:=k) K;have w:=λk=>Z7R (s:=q) n (XJ d k).2 (XJ d k).1;obtain rfl|rfl|rfl|rfl|rfl:=C;replace j:=j 1 Z0;have st:=LO d (k:=1);have t:=yK (s:=q) d (k:=1) Z0 (l:=(Xm q 1).1)<|Zff st.2 (XJ d 1).2;have k1:=F _ (XJ d 1).2 (XJ d 1).1;have g:=Jm (h:=q.h) (k:=1) (l:=(Xm q 1).1) (m:=q.lm) (λo y=>(st.1 o y).1.2) n;replace f:Wb s=V0 (1:: [2,3,4]) q:=f;rw[V0]at f;have r:Xm q 1=ZP (Zx q.h 1) [] xw:=rfl;rw[<-r]at k1;generalize Xm q 1=z at*;obtain⟨l,e⟩:=z;simp only at k1 t f g st;unfold X6 ZX at j;unfold ZX at t;simp[ZX,Tl,U5,Uo,ji];refine Zz j Z1 ?_;simp;refine Zz k1 Z1 ?_;simp;by_cases u:e=0;rw[if_pos u]at f;simp[u];refine U9 t ?_;simp[Zy];exact⟨1,XR q 1 l,⟨Z0,by rw[Qf,A],λa b c h=>g (a,b,c) h,f⟩,⟨Z1,rfl⟩,by simp[XO]⟩;simp_all;replace j:=j 2 Z0;have st:=LO d (k:=2);have t:=yK (s:=q) d (k:=2) Z0 (l:=(Xm q 2).1)<|Zff st.2 (XJ d 2).2;have k1:=F _ (XJ d 2).2 (XJ d 2).1;have g:=Jm (h:=q.h) (k:=2) (l:=(Xm q 2).1) (m:=q.lm) (λo y=>(st.1 o y).1.2) n;replace f:Wb s=V0 (2:: [3,4]) q:=f;rw[V0]at f;have r:Xm q 2=ZP (Zx q.h 2) [] xw:=rfl;rw[<-r]at k1;generalize Xm q 2=z at*;obtain⟨l,e⟩:=z;simp only at k1 t f g st;unfold X6 ZX at j;unfold ZX at t;simp[ZX,Tl,U5,Uo,ji];refine Zz j Z1 ?_;simp;refine Zz k1 Z1 ?_;simp;by_cases u:e=0;rw[if_pos u]at f;simp[u];refine U9 t ?_;simp[Zy];exact⟨2,XR q 2 l,⟨Z0,by rw[Qf,A],λa b c h=>g (a,b,c) h,f⟩,⟨Z1,rfl⟩,by simp[XO]⟩;simp_all;replace j:=j 3 Z0;have st:=LO d (k:=3);have t:=yK (s:=q) d (k:=3) Z0 (l:=(Xm q 3).1)<|Zff st.2 (XJ d 3).2;have k1:=B _ (U4 q.lm<|Zx q.h 3) (XJ d 3).2 (Zff O0 (XJ d 3).2) (XJ d 3).1<|qU n Z1;replace w:=w 3;have g:=Jm (h:=q.h) (k:=3) (l:=(Xm q 3).1) (m:=q.lm) (λo y=>(st.1 o y).1.2) n;replace f:Wb s=V0 (3:: [4]) q:=f;rw[V0]at f;have r:Xm q 3=ZP (Zx q.h 3) (U4 q.lm<|Zx q.h 3) xk:=rfl;rw[<-r]at k1;generalize Xm q 3=z at*;obtain⟨l,e⟩:=z;simp only at k1 t f g st;unfold X6 ZX at j w;unfold ZX at t;simp[ZX,Tl,U5,Uo,ji];refine Zz j Z1 ?_;simp;refine Zz j Z1 ?_;simp;refine Zz w Z1 ?_;simp;refine Zz k1 Z1 ?_;simp;by_cases u:e=0;rw[if_pos u]at f;simp[u];refine U9 t ?_;simp[Zy];exact⟨3,XR q 3 l,⟨Z0,by rw[Qf,A],λa b c h=>g (a,b,c) h,f⟩,⟨Z1,rfl⟩,by simp[XO]⟩;simp_all;replace j:=j 4 Z0;have st:=LO d (k:=4);have t:=yK (s:=q) d (k:=4) Z0 (l:=(Xm q 4).1)<|Zff st.2 (XJ d 4).2;have k1:=B _ (U4 q.lm<|Zx q.h 4) (XJ d 4).2 (Zff O0 (XJ d 4).2) (XJ d 4).1<|qU n Z1;replace w:=w 4;have g:=Jm (h:=q.h) (k:=4) (l:=(Xm q 4).1) (m:=q.lm) (λo y=>(st.1 o y).1.2) n;replace f:Wb s=V0 (4:: []) q:=f;rw[V0]at f;have r:Xm q 4=ZP (Zx q.h 4) (U4 q.lm<|Zx q.h 4) xk:=rfl;rw[<-r]at k1;generalize Xm q 4=z at*;obtain⟨l,e⟩:=z;simp only at k1 t f g st;unfold X6 ZX at j w;unfold ZX at t;simp[ZX,Tl,U5,Uo,ji];refine Zz j Z1 ?_;simp;refine Zz j Z1 ?_;simp;refine Zz w Z1 ?_;simp;refine Zz k1 Z1 ?_;simp;by_cases u:e=0;rw[if_pos u]at f;simp[u];refine U9 t ?_;simp[Zy];exact⟨4,XR q 4 l,⟨Z0,by rw[Qf,A],λa b c h=>g (a,b,c) h,f⟩,⟨Z1,rfl⟩,by simp[XO]⟩;simp_all;replace f:Wb s=(xk,q):=f;simp[f,ZX]
end Vm
namespace Vm
open Go Go.Proofs
def Z8R{P f ks cs r}(hv:VC P f xw [.ptr cs] r)(G:r.bi=xk)(l:I cs=I ks)(u:cs.all V.one=xk)(D:ks.all (λk=> !(k==.fk))=xk):
  Vr P f [.mem ks] [.agg cs] (.am [r,.agg cs]):=by
 let⟨Q,R⟩:=hv;refine⟨Q,λB w h vs a S=> ?_⟩;let⟨a3,a2,C⟩:=S;let⟨tk,j,z⟩:=C 0 _ _ rfl rfl;simp only[Wp]at j;rw[if_pos l]at j;simp at j;subst j;let⟨b,O,T,q,M,hh,o⟩:=z;have n:∀(ks:List CK) cs,I cs=I ks->YE [] (((ks.zip cs).map λy=>(y.1,E.c y.2)).map (·.2))=J cs:=by
  intro ks;induction ks with
  |nil=>simp
  |cons k ks ih=>
   intro cs hl;obtain _|⟨c,cs⟩:=cs;simp at hl;simp_all
 have hz:eval [] (.pt U (((ks.zip cs).map λy=>(y.1,E.c y.2)).map (·.2)))=J (.ptr cs):=by
  simp only[eval,n ks cs l,ZeX,Lc,u,ZfF]
 have Y:Wu ((ks.zip cs).map λy=>(y.1,E.c y.2))=xw:=by
  rw[Wu,ZhP];intro x N;obtain⟨y,A,rfl⟩:=Zf8.1 N;have:=ZeY.1 D y.1 (List.of_mem_zip A).1;simpa using this
 have a1:=KK (G':=λb=>h.F b\/∃t i,h.bl t i=J b) q hh o Y hz (λb d=>.inl d) λi b d=>.inr ⟨0,i,d⟩;refine Zhj (R w (λb=>h.F b\/∃t i,h.bl t i=J b) vs (λb d=> ?_) Z0 λi x N=> ?_) λe w' Z=> ?_;obtain d|⟨t,i,d⟩:=d;exact a.bo b d;exact(a.aq t i b d).2.1;grind;obtain⟨v,rfl,g,L⟩:=Z;have p:=g.size;have X:=λb d=>g.block b<|a.bo b d;have W:=λt i b d=>g.block b (a.aq t i b d).2.1;have K:O.size=I cs:=by
  have:=o.1;simp at this;omega
 refine⟨v,r,[.agg cs],h,rfl,g.mono a.base,λb d=>g.block b<|a.co b d,⟨Zff a.base p,λb d=>ZeV (a.bo b d) p,a.cq,a.fa,λt i b d=> ?_,a.inj,λb d=>ZeV (a.co b d) p,a.cj,a.fb⟩,rfl,L.ga G,⟨rfl,λi k y H a0 A=> ?_⟩,rfl⟩;let⟨q1,q2,q3⟩:=a.aq t i b d;grind;cases i with
 |zero=>
  simp at H A;subst H;subst A;refine⟨.mem _,by rw[Wp,if_pos l],b,O,T,q,M,?_,o.keep X Z1 Z1 λi b d=>W 0 _ b d⟩;grind
 |succ i=>simp at H
end Vm
namespace Vm
open Go Go.Proofs
def Tg:List FuncId:=[73,74,75,76,77,78,79,80]
def Ag(f:FuncId):V:=.agg [.fn f]
def Z7d:VC Sol.prog 55 xw []<|.sl<|Tg.map Ag:=by
 refine ZS Sol.func55 follows Z2 c55 rfl ?_;simp[M7,Tg,Ag]
def Sx(f:FuncId)(s:Ck):Bool×Ck:=
 if f=73 then(SP s,s)else if f=74 then(Qq s,s)else if f=75 then Wb s
 else if f=76 then(RO s,s)else if f=77 then(Qw s,s)else if f=78 then(Qz s,s)else if f=79 then(Q7 s,s)else(Qs s,s)
structure Ck.okk (s:Ck):Prop where
 ok:s.ok
 lm:∀x∈s.lm,YA x.2.1 x.2.2=xk
def Ck.lr(s:Ck)k l(a:1<=k/\k<=4)j:(s.put k l).dq j=if j=k\/(k=4/\¬(j=1\/j=2\/j=3))then l else s.dq j:=by
 have:k=1\/k=2\/k=3\/k=4:=Z0;obtain rfl|rfl|rfl|rfl:=this<;>simp[Ck.put,Ck.dq]<;>(split<;>simp_all)<;>(grind)<;>(grind)
def Z4H{s}(d:s.okk){k}(g:1<=k/\k<=4):(XR s k (Xm s k).1).okk:=by
 have st:=LO d.ok.h (k:=k);have l:=(XJ d.ok.h k).2;have a:∀j,(XR s k (Xm s k).1).dq j=((s.put k (Xm s k).1).dq j):=λj=>rfl;refine⟨⟨by rw[Qf];exact d.ok.h,λj o f=> ?_,λj=> ?_⟩,Jm (λo f=>(st.1 o f).1.2) d.lm⟩;rw[Qf];rw[a,Ck.lr _ _ _ g]at f;split at f;rename_i h;have:Zx s.h j=Zx s.h k:=by
  obtain rfl|⟨rfl,h⟩:=h;rfl;simp_all[not_or,Zx]
 simp_all;exact d.ok.ob j o f;rw[a,Ck.lr _ _ _ g];split;omega;exact d.ok.len j
def P1:∀ {l} {s:Ck},(∀k∈l,1<=k/\k<=4)->s.okk->(V0 l s).2.okk/\(V0 l s).2.h=s.h
 | [],s,_,a=>⟨a,rfl⟩
 |k::l,s,d,a=>by
  rw[V0];split;simp_all[P1,Z4H,Qf];simp_all
def Z8Y{s}(a:s.okk):(Wb s).2.okk/\(Wb s).2.h=s.h:=P1 Z1 a
def NA{s}(a:s.okk){f}:(Sx f s).2.okk/\(Sx f s).2.h=s.h:=by
 unfold Sx;repeat' split
 all_goals first|exact⟨a,rfl⟩|exact Z8Y a
def Z7c(j:RF)(d:RG){s}(a:s.okk){f}(g:f∈Tg):Vr Sol.prog f [.mem zp] [.agg<|ZX s]<|.am [.bool (Sx f s).1,.agg<|ZX (Sx f s).2]:=by
 have go:∀ {f b},VC Sol.prog f xw [X6 s] _->Vr Sol.prog f [.mem zp] [.agg _] (.am [.bool b,.agg _]):=λh=>Z8R h rfl rfl rfl rfl;simp[Tg,Zhu]at g;obtain rfl|rfl|rfl|rfl|rfl|rfl|rfl|rfl:=g;exact go<|Z0K a.ok.h;exact go Z72;exact Z90 j d a.ok.h a.lm;exact go<|Z1f a.ok;exact go<|Z7Q a.ok;exact go<|Z8L a.ok;exact go<|Z3H a.ok;exact go<|Z77 a.ok
def Qa:List FuncId->Ck->Option Ck
 | [],s=>J s
 |f::l,s=>if(Sx f s).1=xk then Qa l (Sx f s).2 else U
def Xw(h:Hp):Ck:= {h:=h,o1:=[],o2:=[],o3:=[],o4:=[],pm:=[],lm:=[]}
def VA(h:Hp):Option Ck:=Qa Tg<|Xw h
def GS{h}(a:h.ok):(Xw h).okk:=by
 have f:∀k,(Xw h).dq k=[]:=λk=>by simp[Xw,Ck.dq]
 refine⟨⟨a,λk o g=> ?_,λk=> ?_⟩,λx d=>(by simp[Xw]at d)⟩;simp_all;simp_all
def B8(w:RF)(k:RG){h:Hp}(y:h.ok):VC Sol.prog 36 xw [ZE h]<|.am [match VA h with|some s=>X6 s|none=>.ln 0,.bool (VA h).isSome]:=by
 refine ZS Sol.func36 follows Z2 c36 rfl ?_;have k1:=DP (h:=h);have B:=Z7d;have a:I Tg=8:=rfl;unfold ZE at k1;simp[IX];refine Zz k1 Z1 ?_;simp[X2,Zv];refine Zz B Z1 ?_;simp;refine Rz (λ(p:Nat×Ck)=>[(5,.m<|ZX p.2),(6,.v<|vi p.1)]) (λp=>p.1<=8/\p.2.okk/\VA h=Qa (Tg.drop p.1) p.2) (XO 6 8) (0,Xw h) ZeF ⟨Z1,GS y,rfl⟩ ?_;rintro⟨i,q⟩ ⟨z,n,g⟩;simp only at z n g;have o:=Zy ((i:Int)+1) Z0 Z0;by_cases d:i<I Tg;have t:Tg[i]?=J Tg[i]:=ZeL d;have x:=ZfG d;have A:=Zf7 d;generalize Tg[i]=f at*;rw[x,Qa]at g;have u:=Z7c w k n A;have l:=(NA n (f:=f)).1;rw[a]at d;have j:(i:Int)<8:=Z0;simp[X7,d,j,t,Yl t,a,Ag,ZX];unfold ZX at u;refine U9 u ?_;cases r:(Sx f q).1;rw[if_neg (by simp[r])]at g;simp[g];rw[if_pos r]at g;simp[o];exact⟨i+1,(Sx f q).2,⟨Z0,l,g⟩,⟨Z1,Z0⟩,ZeE⟩;have:i=8:=Z0;subst this;replace g:VA h=J q:=g;simp[a,g,ZX,X6]
def Hh:∀ {l} {s q:Ck},s.okk->Qa l s=J q->q.okk/\q.h=s.h
 | [],s,q,a,h=>by simp[Qa]at h;subst h;exact⟨a,rfl⟩
 |f::l,s,q,a,h=>by
  rw[Qa]at h;split at h;have d:=NA a (f:=f);have g:=Hh d.1 h;exact⟨g.1,ZdO⟩;cases h
def Z3O{h}(a:h.ok){q}(d:VA h=J q):q.okk/\q.h=h:=Hh (GS a) d
def Py(d:RF)(a:RG){h:Hp}(f:h.ok):VC Sol.prog 17 xw [ZE h]<|.bool (VA h).isSome:=by
 refine ZS Sol.func17 follows Z2 c17 rfl ?_;simp[IN];refine Zz (B8 d a f) Z1 ?_;simp
def KY(h:Hp)(k:Int):List Ob×Int:=match VA h with
 |some s=>if 1<=k/\k<=4 then(s.dq k,0)else([],1)
 |none=>([],1)
def Pv(l:RF)(f:RG){h:Hp}(n:h.ok){k:Int}:VC Sol.prog 81 xw [ZE h,vi k]<|.am [.sl<|(KY h k).1.map ZO,vi (KY h k).2]:=by
 refine ZS Sol.func81 follows Z2 c81 rfl ?_;simp[Ml];refine Zz (B8 l f n) Z1 ?_;unfold KY;cases o:VA h with
 |none=>simp
 |some s=>
  by_cases g:1<=k;by_cases j:k<=4;have:k=1\/k=2\/k=3\/k=4:=Z0;obtain rfl|rfl|rfl|rfl:=this<;>simp[Y8,Rs,Tl,U5,Uo,Ck.dq];have a:¬k<1:=Z0;have d:4<k:=Z0;simp[g,j,a,d];have a:k<1:=Z0;simp[g,a]
def jj(h:Hp):Nat:=match VA h with
 |some s=>SD s
 |none=>0
def PA(f:RF)(a:RG){h:Hp}(d:h.ok):VC Sol.prog 18 xw [ZE h]<|vi<|jj h:=by
 refine ZS Sol.func18 follows Z2 c18 rfl ?_;simp[IO];refine Zz (B8 f a d) Z1 ?_;unfold jj;cases g:VA h with
 |none=>simp
 |some s=>
  simp;refine Zz (OU (Z3O d g).1.ok) Z1 ?_;simp
end Vm
end
section
namespace Vm
open Go Go.Proofs
structure Stands (ws:List Int) (old:Bool) (o:Ob):Prop where
 iu:0<=o.aa
 shape:YA o.size o.M=xk
 aw:o.aa+1+o.size<=I ws
 fw:XM ((ws.drop<|o.aa.toNat+1).take o.size.toNat) o.gone o.M 0=xk
 word:∃w,ws[o.aa.toNat]?=J w/\(if o.gone then old=xk/\(adr w).2=0/\o.target=(adr w).1 else(old=xk->¬(adr w).2=0)/\ZT w=(o.size,o.M,0)/\o.target=0)
def Tiles(ws:List Int)(old:Bool):Nat->List Ob->Prop
 |a,[]=>I ws<=a
 |a,o::l=>o.aa=a/\Stands ws old o/\Tiles ws old (a+1+o.size.toNat) l
def Z4K{ws shs old a g t w o}(k:ws[a]?=J w)(f:Wi shs old a g w=J (o,t))(h:¬(I ws:Int)<a+1+o.size)
  (j:¬XM ((ws.drop<|a+1).take o.size.toNat) o.gone o.M 0=xw):o.aa=a/\Stands ws old o:=by
 have d:=yM f;refine⟨d.2,?_,d.1,?_,?_,w,?_,?_⟩;omega;omega;simp_all;simp_all;unfold Wi at f;grind
def OZ{ws shs old}:∀f a j d l,Xl ws shs old f a j d=(l,0)->∃r,l=d++r/\Tiles ws old a r
 |0,_,_,_,_,h=>by simp[Xl]at h
 |f+1,a,j,d,l,h=>by
  unfold Xl at h;split at h;rename_i p;split at h;grind;simp[and_true]at h;subst h;exact⟨[],Z1,ZgV.1 p⟩;rename_i w x;split at h;grind;rename_i o t q;split at h;grind;rename_i k;split at h;grind;rename_i n;obtain⟨r,rfl,u⟩:=OZ f _ _ _ _ h;have g:=Z4K x q k n;exact⟨o::r,Z1,g.1,g.2,u⟩
def SE{ws shs old l}(h:ZP ws shs old=(l,0)):Tiles ws old 0 l:=by
 let⟨r,a,d⟩:=OZ _ _ _ _ _ h;simp_all
def Tiles.bc{ws old}:∀ {a} {l:List Ob},Tiles ws old a l->∀o∈l,Stands ws old o/\a<=o.aa
 |_,[],_,_,h=>Zer
 |a,o::l,h,x,d=>by
  obtain rfl|d:=Zfb.1 d;exact⟨h.2.1,by rw[h.1];omega⟩;have:=Tiles.bc h.2.2 x d;grind
def Tiles.apart{ws old}:∀ {a} {l:List Ob},Tiles ws old a l->∀o∈l,∀q∈l,o=q\/o.aa+1+o.size<=q.aa\/q.aa+1+q.size<=o.aa
 |_,[],_,_,h,_,_=>Zer
 |a,x::l,h,o,f,q,d=>by
  have e:=h.1;obtain rfl|f:=Zfb.1 f;obtain rfl|d:=Zfb.1 d;simp;have:=(Tiles.bc h.2.2 q d).2;omega;obtain d|d:=Zfb.1 d;have:=(Tiles.bc h.2.2 o f).2;grind;exact Tiles.apart h.2.2 o f q d
structure RightH (h:Hp) (p:Pts):Prop where
 ei:Xi h=J p
 num:TG h=xk
 ok:Sw h p=xk
 H:Tiles h.H xw 0 p.H
 ab:Tiles h.ab xw 0 p.ab
 ah:Tiles h.ah xk 0 p.ah
 ak:Tiles h.ak xk 0 p.ak
def Z73{h}(k:Yt h=xk):∃p,RightH h p:=by
 let⟨p,a,g,j⟩:=Z74 k;refine⟨p,a,j,g,?_,?_,?_,?_⟩;all_goals
  unfold Xi at a;dsimp only at a;split at a;cases a;split at a;cases a;rename_i c2;cases a;have c3:(ZP h.H [] xw).2=0/\(ZP h.ab [] xw).2=0:=by
   refine⟨Z0,Z0⟩
  have c4:∀x:Int,¬x≠0->x=0:=Z0;have f:=c4 _ (λd=>c2<|.inr<|.inr<|.inr d);first|exact SE (Zhl rfl c3.1)|exact SE (Zhl rfl c3.2)|exact SE (Zhl rfl<|c4 _<|λd=>c2<|.inr<|.inr<|.inl d)|exact SE<|Zhl rfl f
def RightH.an{h p}(r:RightH h p){k}(a:1<=k/\k<=4):Tiles (Zx h k) (decide (2<k)) 0<|p.at k:=by
 have:k=1\/k=2\/k=3\/k=4:=Z0;obtain rfl|rfl|rfl|rfl:=this;exact r.H;exact r.ab;exact r.ah;exact r.ak
def RightH.bb{h p}(r:RightH h p):ZJ (Zv h)=xk:=by
 have:=r.num;simp_all[TG,ZeO]
def Y6(l:Ly)(k a:Int):Int:=2*(ZD l k+a)+1
theorem Tq{l}(d:ZJ l=xk){k a}(f:0<=a):adr (Y6 l k a)=(ZD l k+a,0):=by
 have:=V4 d k;unfold adr Y6;grind
theorem SK{l}(g:ZJ l=xk){k a}(f:1<=k/\k<=4)(d:0<=a/\a<YO l k):Y2 l k a=(ZD l k+a,0):=by
 simp_all[Y2,if_neg]
theorem QY{l}(g:ZJ l=xk){k a}(j:1<=k/\k<=4)(d:0<=a/\a<YO l k):Yf l (ZD l k+a)=(k,a,0):=by
 have h:=XK.1 g;have n:=jg g;unfold Yf X1;have f:k=1\/k=2\/k=3\/k=4:=Z0;obtain rfl|rfl|rfl|rfl:=f;grind;simp[ZD,YO]at d⊢;grind;simp[ZD,YO]at d⊢;grind;simp[ZD,YO]at d⊢;grind
end Vm
namespace Vm
open Go Go.Proofs
def G5{g}(a:ZJ (Zv g)=xk):fwd g 0=(0,g,0):=by simp[fwd,a]
def Cz{l}(f:ZJ l=xk){k a}(d:0<=a):¬Y6 l k a=0:=by
 grind [Y6]
def fwd_here{g}(h:ZJ (Zv g)=xk){k a:Int}(f:1<=k/\k<=2)(d:0<=a/\a< I (Zx g k)):fwd g (Y6 (Zv g) k a)=(Y6 (Zv g) k a,g,0):=by
 grind [Tq,QY,Ti,fwd]
def fwd_gone{g}(d:ZJ (Zv g)=xk){k}{a:Nat}(p:3<=k/\k<=4){u}(o:(Zx g k)[a]?=J u)(f:(adr u).2=0):fwd g (Y6 (Zv g) k a)=(u,g,0):=by
 have q:a< I (Zx g k):=ZdN;have h:=Cz d (k:=k) (a:=a) Z0;have j:=Tq d (k:=k) (a:=a) Z0;have l:=QY d (k:=k) (a:=a) Z0 (by rw[Ti Z0];omega);have n:(Zx g k).getD a 0=u:=by simp[o]
 unfold fwd;simp[-List.getD_eq_getElem?_getD,d,h,j,l,show ¬k<3 by omega,n,f]
def YS(g:Hp)(k:Int)(a n:Nat):Hp:=Xg (Xn g k a n) k<|(zr (Zx g k) a n).set a<|Y6 (Zv g) 1<|I g.H
def Jk{g k a n}(d:a+n<=I (Zx g k)):Zv (Xn g k a n)= {Zv g with H:=(I g.H+n:Nat)}:=by
 simp_all[Zv,Xn,Ly.mk.injEq,true_and,and_true]
theorem I1{g}(f:ZJ (Zv g)=xk){k a n}(d:a+n<=I (Zx g k))(j:n<=Xq (Zv g)):ZJ (Zv<|Xn g k a n)=xk:=by
 rw[Jk d];have e:Xq (Zv g)=(Zv g).cap- (Zv g).H- (Zv g).ab:=by unfold Xq;rw[f];rfl
 have h:(Zv g).H=I g.H:=rfl;grind [XK]
def Bo{g k}(f:3<=k/\k<=4){a n}(d:a+n<=I (Zx g k)):Zv (YS g k a n)= {Zv g with H:=(I g.H+n:Nat)}:=by
 rw[<-Jk d];apply Dv;rw[ZgH,jp];have:k=3\/k=4:=Z0;obtain rfl|rfl:=this<;>rfl
def Z4n{g}(j:ZJ (Zv g)=xk){k}(f:3<=k/\k<=4){a n}(d:a+n<=I (Zx g k))(h:n<=Xq (Zv g)):ZJ (Zv<|YS g k a n)=xk:=by
 rw[Bo f d,<-Jk d];grind [I1]
def Z6N{g k}(d:3<=k/\k<=4){a n}(f:a+n<=I (Zx g k))j b:Y6 (Zv<|YS g k a n) j b=Y6 (Zv g) j b:=by
 rw[Bo d f];rfl
def fwd_wait{g}(h:ZJ (Zv g)=xk){k a}(C:3<=k/\k<=4){u}(B:(Zx g k)[a]?=J u)(q:¬(adr u).2=0){n:Nat}{pt}(p:ZT u=((n:Int),pt,0))
  (j:a+(n+1)<=I (Zx g k)) (A:((n+1:Nat):Int)<=Xq (Zv g)):fwd g (Y6 (Zv g) k a)=(Y6 (Zv g) 1<|I g.H,YS g k a<|n+1,0):=by
 have r:=Cz h (k:=k) (a:=a) Z0;have t:=Tq h (k:=k) (a:=a) Z0;have w:=QY h (k:=k) (a:=a) Z0 (by grind [Ti]);have x:(Zx g k).getD a 0=u:=by simp[List.getD,B]
 have f:=I1 h j A;have y:Y2 (Zv<|Xn g k a<|n+1) 1 (I g.H)=(ZD (Zv g) 1+I g.H,0):=by
  have:=SK f (k:=1) (a:=(I g.H:Int)) Z0 (by rw[Jk j];simp[YO,ZfF];omega);rw[this,Jk j];rfl
 have d:=V4 f 1;rw[Jk j]at d;simp only[YO,ZfF]at d;have l:ZD {Zv g with H:=(I g.H+(n+1):Nat)} 1=ZD (Zv g) 1:=rfl;rw[l]at d;have z:Xj (ZD (Zv g) 1+I g.H)=(Y6 (Zv g) 1<|I g.H,0):=by
  unfold Xj Y6;rw[if_neg Z0]
 unfold fwd;have o:¬k<3:=Z0;simp only[h,r,t,w,if_neg o,ZhB,ZfI,ne_eq,Zit,Zf2,x,q,p];unfold S7;rw[if_neg Z0,if_neg Z0];simp[y,z];rfl
theorem DE{ws a}:∀n j,j<a\/a+n<=j->(zr ws a n)[j]?=ws[j]?
 |0,_,_=>rfl
 |n+1,j,h=>by
  unfold zr;rw[ZfR Z0];exact DE n j Z0
def HZ{g k}(o:3<=k/\k<=4){a n}(p:0<n){j}(l:3<=j/\j<=4){b}(h:j≠k\/b<a\/a+n<=b):(Zx (YS g k a n) j)[b]?=(Zx g j)[b]? :=by
 have f:k=3\/k=4:=Z0;have d:j=3\/j=4:=Z0;obtain rfl|rfl:=f<;>obtain rfl|rfl:=d<;>simp[YS,Xn,qh]
 grind [DE];grind [DE]
def Bp{g k}(l:3<=k/\k<=4){a n j}(h:3<=j/\j<=4):I (Zx (YS g k a n) j)=I (Zx g j):=by
 have f:k=3\/k=4:=Z0;have d:j=3\/j=4:=Z0;obtain rfl|rfl:=f<;>obtain rfl|rfl:=d<;>simp[YS,Xn]
def Z4m{g k}(h:3<=k/\k<=4){a n}(f:a+n<=I (Zx g k)):(YS g k a n).H.length=I g.H+n/\(YS g k a n).ab=g.ab:=by
 have d:k=3\/k=4:=Z0;obtain rfl|rfl:=d<;>simp[qh]at f<;>simp[YS,Xn]<;>omega
end Vm
namespace Vm
open Go Go.Proofs
def CT{h ws low}:∀f i d l,V7 h ws low f i d=J l->∃r,l=d++r
 |0,_,_,_,a=>by simp[V7]at a
 |f+1,i,d,l,a=>by
  unfold V7 at a;split at a;cases a;exact⟨[],Z1⟩;split at a;split at a;cases a;let⟨r,g⟩:=CT f _ _ _ a;exact⟨_,by rw[g,Zfw]⟩;split at a;exact CT f _ _ _ a;cases a
def qW{h ws low}:∀f i d k,V7 h ws low f i d=J k->∀p g l,Xl ws k xk p i (I d) g=(l,0)->
  ∃r,l=g++r/\∀o∈r,o.gone=xk->∃q,YD h 1 low o.target=J q/\q.size=o.size/\q.M=o.M
 |0,_,_,_,j=>by simp[V7]at j
 |f+1,i,d,k,j=>by
  intro p g l a;cases p with
  |zero=>simp[Xl]at a
  |succ p=>
   unfold V7 at j;unfold Xl at a;cases x:ws[i]? with
   |none=>
    simp_all
   |some w=>
    simp[x]at j a;by_cases t:(adr w).2=0;simp[t,ZfF]at j;cases B:YD h 1 low (adr w).1 with
    |none=>simp_all
    |some q=>
     simp[B]at j;let⟨r,C⟩:=CT _ _ _ _ j;have D:k[I d]?=J (q.size,q.M):=by rw[C];simp
     unfold Wi at a;rw[if_pos ⟨rfl,t⟩]at a;simp[D]at a;by_cases u:YA q.size q.M=xk;rw[if_pos u]at a;simp only at a;split at a;simp at a;split at a;simp at a;have n:I d+1=I (d++[(q.size,q.M)]):=Z1;rw[n]at a;let⟨F,z,A⟩:=qW f _ _ _ j _ _ _ a;grind;simp_all
    simp[t,ZfI]at j;by_cases y:(ZT w).2.2=0;simp[y,ZfF]at j;unfold Wi at a;rw[if_neg Z0,if_pos y]at a;simp only at a;split at a;simp at a;split at a;simp at a;let⟨F,z,A⟩:=qW f _ _ _ j _ _ _ a;simp_all;simp_all
def RightH.nh{h p}(r:RightH h p){k}(D:3<=k/\k<=4){o}(d:o∈p.at k)(A:o.gone=xk):∃q∈p.H,YV h 1 q.aa=o.target/\q.size=o.size/\q.M=o.M:=by
 have a:=r.ei;unfold Xi at a;dsimp only at a;split at a;cases a;split at a;cases a
 have f:∀g x,x=VF h g (ZP h.H [] xw).1->¬x=U->(ZP g (x.getD []) xk).2=0->o∈(ZP g (x.getD []) xk).1->
   ∃q∈(ZP h.H [] xw).1,YV h 1 q.aa=o.target/\q.size=o.size/\q.M=o.M:=by
  intro g x C F n d;obtain _|j:=x;simp_all;simp[Zfl]at n d;let⟨H,l,t⟩:=qW _ _ _ _ C.symm _ [] (ZP g j xk).1<|Zhl rfl n;simp[ZfE]at l;rw[l]at d;let⟨q,B,G⟩:=t o d A;have:=Zi6 B;grind [ED]
 have u:¬VF h h.ah (ZP h.H [] xw).1=U:=ZdO;have w:¬VF h h.ak (ZP h.H [] xw).1=U:=ZdO;have y:(ZP h.ah ((VF h h.ah (ZP h.H [] xw).1).getD []) xk).2=0:=Z0;have z:(ZP h.ak ((VF h h.ak (ZP h.H [] xw).1).getD []) xk).2=0:=Z0;cases a;have:k=3\/k=4:=Z0;obtain rfl|rfl:=this;exact f _ _ rfl u y Ze3;exact f _ _ rfl w z Ze3
def Pg{l o}(h:o∈l):Wc o<=Y1 l:=by
 unfold Y1;induction l with
 |nil=>simp at h
 |cons x l a=>
  grind
def Z8V{p k}(a:3<=k/\k<=4){o}(h:o∈p.at k):Wc o<=Yu p:=by
 have:k=3\/k=4:=Z0;unfold Yu;obtain rfl|rfl:=this;have:=Pg (l:=p.ah) h;omega;have:=Pg (l:=p.ak) h;omega
def Z6M{l}(d:ZJ l=xk){k j a b}(o:1<=k/\k<=4)(n:1<=j/\j<=4)(f:0<=a/\a<YO l k)(g:0<=b/\b<YO l j)(h:Y6 l k a=Y6 l j b):k=j/\a=b:=by
 have p:=QY d o f;have q:=QY d n g;have:ZD l k+a=ZD l j+b:=by unfold Y6 at h;omega
 simp_all
def P6{u a}(d:(adr u).2=0)(h:(adr u).1=a):u=2*a+1:=by
 unfold adr at d h;grind
def Ee{u}(h:(ZT u).2.2=0):¬(adr u).2=0:=by
 unfold ZT at h;split at h;rename_i a;unfold adr;grind;grind
end Vm
namespace Vm
open Go Go.Proofs
end Vm
end
section
namespace Vm
open Go Go.Proofs
def Tiles.order{ws old}:∀ {a} {l:List Ob},Tiles ws old a l->l.Pairwise λx y=>x.aa<y.aa
 |_,[],_=>.nil
 |a,o::l,h=>by
  refine .cons (λx d=> ?_)<|Tiles.order h.2.2;have:=(Tiles.bc h.2.2 x d).2;have:=h.1;omega
def D4{h}(f:ZJ (Zv h)=xk){k}(d:1<=k/\k<=4){old o}(a:Stands (Zx h k) old o):YV h k o.aa=ZD (Zv h) k+o.aa:=by
 have:=YB.1 a.shape;have:=a.aw;have:=a.iu;grind [YV,SK,Ti]
def Z8l{h}(f:ZJ (Zv h)=xk){k}(d:1<=k/\k<=4){old o}(a:Stands (Zx h k) old o):Yf (Zv h) (YV h k o.aa)=(k,o.aa,0):=by
 have:=YB.1 a.shape;have:=a.aw;have:=a.iu;rw[D4 f d a];grind [QY,Ti]
def Tiles.mz{h}(f:ZJ (Zv h)=xk){k}(d:1<=k/\k<=4){old l}(a:Tiles (Zx h k) old 0 l):l.Pairwise λx y=>YV h k x.aa≠YV h k y.aa:=by
 refine List.Pairwise.imp_of_mem ?_ a.order;intro x y j n g;rw[D4 f d (a.bc x j).1,D4 f d (a.bc y n).1];omega
def Ic{h a}:∀ {l} {m:List (Int×(Int×Int))},(l.Pairwise λx y=>YV h 1 x.aa≠YV h 1 y.aa)->Yb (Xx h 1 m l) a=match YD h 1 l a with
  |some o=>J (o.size,o.M)
  |none=>Yb m a
 | [],m,_=>rfl
 |o::l,m,f=>by
  let⟨g,d⟩:=Zih.1 f;rw[Xx,Ic d];unfold YD;cases j:l.find? (λo=>YV h 1 o.aa==a)with
  |some q=>
   grind
  |none=>
   simp[J6];grind [YV,Zv]
def By{h k}(a:¬k=1):∀ {l} {m:List (Int×(Int×Int))},Xx h k m l=m
 | [],m=>rfl
 |o::l,m=>by simp_all[Xx,By]
def KU{h k a}:∀ {l} {m:List (Int×Int)},Yb (WA h k m l) a=if(YD h k l a).isSome=xk then J k else Yb m a
 | [],m=>rfl
 |o::l,m=>by
  rw[WA,KU];unfold YD;rw[J6];by_cases f:YV h k o.aa=a;have d:(Y2 _ k o.aa).1=a:=f;have:(YV h k o.aa==a)=xk:=Ze6;simp[this,d];have d:¬(Y2 _ k o.aa).1=a:=f;have:(YV h k o.aa==a)=xw:=Ze6;simp[this,d]
def CS{lm ws}:∀f i a,∃r,WK lm ws f i a=a++r
 |0,_,a=>⟨[],by simp[WK]⟩
 |f+1,i,a=>by
  rw[WK];cases ws[i]? with
  |none=>simp
  |some w=>
   simp only;split;split;simp;obtain⟨r,d⟩:=CS (lm:=lm) (ws:=ws) f _ _;exact⟨_,by rw[d,Zfw]⟩;split;exact CS f _ _;simp
def qS{lm h low}(j:∀a,Yb lm a=(YD h 1 low a).map λo=>(o.size,o.M)){ws}:∀f i g k,V7 h ws low f i g=J k->WK lm ws f i g=k
 |0,_,_,_,d=>by simp[V7]at d
 |f+1,i,g,k,d=>by
  rw[V7]at d;rw[WK];cases q:ws[i]? with
  |none=>rw[q]at d;simpa using d
  |some w=>
   rw[q]at d;simp only at d⊢;by_cases l:(adr w).2=0;rw[if_pos l]at d⊢;rw[j];cases n:YD h 1 low (adr w).1 with
   |none=>rw[n]at d;cases d
   |some o=>rw[n]at d;exact qS j _ _ _ _ d
   rw[if_neg l]at d⊢;by_cases p:(ZT w).2.2=0;rw[if_pos p]at d⊢;exact qS j _ _ _ _ d;rw[if_neg p]at d;cases d
def qT{lm h low}(k:∀a,Yb lm a=(YD h 1 low a).map λo=>(o.size,o.M)){ws}:∀f i d,0<f->I ws<f+i->V7 h ws low f i d=U->
  ∀l j,(Xl ws (WK lm ws f i d) xk l i (I d) j).2≠0
 |0,_,_,u,_,_=>Z0
 |f+1,i,d,u,D,g=>by
  intro l j;cases l with
  |zero=>simp[Xl]
  |succ l=>
   rw[V7]at g;rw[WK,Xl];cases t:ws[i]? with
   |none=>simp_all
   |some w=>
    have x:=(ZeM.1 t).1;rw[t]at g;simp only at g⊢;by_cases p:(adr w).2=0;rw[if_pos p]at g⊢;rw[k];cases y:YD h 1 low (adr w).1 with
    |none=>
     simp[ZiQ];have:Wi d xk i (I d) w=U:=by
      unfold Wi;rw[if_pos ⟨rfl,p⟩];simp
     rw[this];simp
    |some o=>
     rw[y]at g;simp[Zfe]at g⊢;let⟨r,z⟩:=CS (lm:=lm) (ws:=ws) f (i+1+o.size.toNat)<|d++[(o.size,o.M)];have C:=qT k f _ _ Z0 Z0 g l;generalize WK lm ws f _ _=n at*;have A:n[I d]?=J (o.size,o.M):=by rw[z];simp
     unfold Wi;rw[if_pos ⟨rfl,p⟩,A];simp only;by_cases q:YA o.size o.M=xk;rw[if_pos q];simp only;split;simp;split;simp;simp_all;simp_all
    rw[if_neg p]at g⊢;by_cases B:(ZT w).2.2=0;rw[if_pos B]at g⊢;have C:=qT k f _ d Z0 Z0 g l;generalize WK lm ws f _ d=n at*;unfold Wi;grind;simp_all[Wi]
structure Found (h:Hp) (s:Ck) (p:Pts):Prop where
 hp:s.h=h
 o1:s.o1=p.H
 o2:s.o2=p.ab
 o3:s.o3=p.ah
 o4:s.o4=p.ak
 pm:s.pm=WA h 4 (WA h 3 (WA h 2 (WA h 1 [] p.H) p.ab) p.ah) p.ak
def Z8Z{h}(C:ZJ (Zv h)=xk):match Xi h with
  |some p=>(Wb<|Xw h).1=xk/\Found h (Wb<|Xw h).2 p
  |none=>(Wb<|Xw h).1=xw:=by
 unfold Wb Xi;dsimp only;have D:Xm (Xw h) 1=ZP h.H [] xw:=rfl;rw[V0,D];by_cases z:(ZP h.H [] xw).2=0;case neg=>simp_all
 rw[if_pos z];have B:Tiles h.H xw 0 (ZP h.H [] xw).1:=SE (ws:=h.H) (shs:=[]) ZdN;generalize (ZP h.H [] xw).1=d at*;have F:Xm (XR (Xw h) 1 d) 2=ZP h.ab [] xw:=rfl;rw[V0,F];by_cases A:(ZP h.ab [] xw).2=0;case neg=>simp_all
 rw[if_pos A,if_neg Z0];generalize (ZP h.ab [] xw).1=n at*;have f:∀a,Yb (Xx h 1 [] d) a=(YD h 1 d a).map λo=>(o.size,o.M):=by
  intro a;rw[Ic<|Tiles.mz C (k:=1) Z0<|by simpa using B];cases YD h 1 d a<;>rfl
 have g:(XR (XR (Xw h) 1 d) 2 n).lm=Xx h 1 [] d:=By Z0;have G:Xm (XR (XR (Xw h) 1 d) 2 n) 3=ZP h.ah (U4 (Xx h 1 [] d) h.ah) xk:=by
  rw[<-g];rfl
 rw[V0,G];cases w:VF h h.ah d with
 |none=>
  have:=qT f _ 0 [] Z0 Z0 w (I h.ah+1) [];have q:¬(ZP h.ah (U4 _ h.ah) xk).2=0:=this;rw[if_neg q,if_pos Z1]
 |some shs=>
 have t:U4 _ h.ah=shs:=qS f _ _ _ _ w;rw[t];simp[Zfl];by_cases q:(ZP h.ah shs xk).2=0;case neg=>simp_all
 rw[if_pos q];generalize (ZP h.ah shs xk).1=y at*;have l:(XR (XR (XR (Xw h) 1 d) 2 n) 3 y).lm=Xx h 1 [] d:=by
  rw[<-g];exact By Z0
 have H:Xm (XR (XR (XR (Xw h) 1 d) 2 n) 3 y) 4=ZP h.ak (U4 (Xx h 1 [] d) h.ak) xk:=by
  rw[<-l];rfl
 rw[V0,H];cases x:VF h h.ak d with
 |none=>
  have:=qT f _ 0 [] Z0 Z0 x (I h.ak+1) [];have r:¬(ZP h.ak (U4 _ h.ak) xk).2=0:=this;rw[if_neg r,if_pos Z1]
 |some j=>
 have u:U4 _ h.ak=j:=qS f _ _ _ _ x;rw[u];simp[Zfl];by_cases r:(ZP h.ak j xk).2=0;case neg=>simp_all
 rw[if_pos r,if_neg ZdN];exact⟨rfl,rfl,rfl,rfl,rfl,rfl,rfl⟩
end Vm
namespace Vm
open Go Go.Proofs
def BX{h p}(a:Xi h=J p){k}(g:1<=k/\k<=4):Tiles (Zx h k) (decide (2<k)) 0<|p.at k:=by
 have:k=1\/k=2\/k=3\/k=4:=Z0;unfold Xi at a;dsimp only at a;split at a;cases a;split at a;cases a;rename_i c2;cases a;have c3:(ZP h.H [] xw).2=0/\(ZP h.ab [] xw).2=0:=by
  refine⟨Z0,Z0⟩
 have c4:∀x:Int,¬x≠0->x=0:=Z0;have f:=c4 _ (λd=>c2<|.inr<|.inr<|.inr d);obtain rfl|rfl|rfl|rfl:=this;exact SE<|Zhl rfl c3.1;exact SE<|Zhl rfl c3.2;exact SE<|Zhl rfl<|c4 _<|λd=>c2<|.inr<|.inr<|.inl d;exact SE<|Zhl rfl f
def Z5u{h p}(a:Xi h=J p){k}(C:3<=k/\k<=4){o}(d:o∈p.at k)(z:o.gone=xk):∃q∈p.H,YV h 1 q.aa=o.target/\q.size=o.size/\q.M=o.M:=by
 unfold Xi at a;dsimp only at a;split at a;cases a;split at a;cases a
 have f:∀g x,x=VF h g (ZP h.H [] xw).1->¬x=U->(ZP g (x.getD []) xk).2=0->o∈(ZP g (x.getD []) xk).1->
   ∃q∈(ZP h.H [] xw).1,YV h 1 q.aa=o.target/\q.size=o.size/\q.M=o.M:=by
  intro g x B D n d;obtain _|j:=x;simp_all;simp[Zfl]at n d;let⟨G,l,r⟩:=qW _ _ _ _ B.symm _ [] (ZP g j xk).1<|Zhl rfl n;simp[ZfE]at l;rw[l]at d;let⟨q,A,F⟩:=r o d z;have:=Zi6 A;grind [ED]
 have t:¬VF h h.ah (ZP h.H [] xw).1=U:=ZdO;have u:¬VF h h.ak (ZP h.H [] xw).1=U:=ZdO;have w:(ZP h.ah ((VF h h.ah (ZP h.H [] xw).1).getD []) xk).2=0:=Z0;have y:(ZP h.ak ((VF h h.ak (ZP h.H [] xw).1).getD []) xk).2=0:=Z0;cases a;have:k=3\/k=4:=Z0;obtain rfl|rfl:=this;exact f _ _ rfl t w Ze3;exact f _ _ rfl u y Ze3
theorem Z0p{h}(n:ZJ (Zv h)=xk){p}(l:Xi h=J p){k}(d:1<=k/\k<=4){a}(j:(YD h k (p.at k) a).isSome=xk):∃b,Yf (Zv h) a=(k,b,0):=by
 let⟨o,f⟩:=ZfQ.1 j;have g:YV h k o.aa=a:=by have:=Zi6 f;simpa using this
 rw[<-g];exact⟨_,Z8l n d ((BX l d).bc o<|Zhp f).1⟩
def EG{h}(o:ZJ (Zv h)=xk){p}(n:Xi h=J p){k j}(g:1<=k/\k<=4)(f:1<=j/\j<=4)(l:k≠j){a}(d:(YD h k (p.at k) a).isSome=xk):(YD h j (p.at j) a).isSome=xw:=by
 grind [Z0p]
section
variable {h:Hp}{s:Ck}{p:Pts}
def Found.dq(a:Found h s p){k}:s.dq k=p.at k:=by
 unfold Ck.dq Pts.at;rw[a.o1,a.o2,a.o3,a.o4]
def Found.ov(d:Found h s p)a:Yb s.pm a=if(YD h 4 (p.at 4) a).isSome=xk then J 4 else if(YD h 3 (p.at 3) a).isSome=xk then J 3 else if(YD h 2 (p.at 2) a).isSome=xk then J 2 else if(YD h 1 (p.at 1) a).isSome=xk then J 1 else U:=by
 rw[d.pm,KU,KU,KU,KU];rfl
def Found.ru(q:Found h s p)(y:ZJ (Zv h)=xk)(x:Xi h=J p)w:YN s w 1 2=Xv h p w 1 2/\YN s w 3 4=Xv h p w 3 4/\YN s w 1 4=(Xv h p w 1 2||Xv h p w 3 4):=by
 unfold YN Xv;by_cases n:w=0;simp[n];by_cases D:(adr w).2=0;case neg=>grind
 rw[q.ov];generalize (adr w).1=a;have o:=λk j t r u=>EG (k:=k) (j:=j) y x t r u (a:=a);have C:=o 4 2 Z0 Z0 Z0;have B:=o 4 1 Z0 Z0 Z0;have A:=o 3 2 Z0 Z0 Z0;have z:=o 3 1 Z0 Z0 Z0;clear o;generalize (YD h 1 _ a).isSome=d at*;generalize (YD h 2 _ a).isSome=f at*;generalize (YD h 3 _ a).isSome=g at*;generalize (YD h 4 _ a).isSome=l at*;cases d<;>cases f<;>cases g<;>cases l<;>simp_all
end
end Vm
namespace Vm
open Go Go.Proofs
def XC(l:List Ob):List Int:=(l.filter (·.gone)).map (·.target)
def Z6g{α l k}{x:α}(h:Yb l k=U):I (XU l k x)=I l+1:=by
 grind [Yb,Option.map_eq_none_iff,XU]
def zt{pm}:∀ {l} {m:List (Int×Bool)} {K:List Int},K.Nodup->(∀a,Yb m a=if a∈K then J xk else U)->I m=I K->
  match Ww pm l m with
  |some q=>(∀t∈XC l,(Yb pm t).getD 0=1)/\(K++XC l).Nodup/\I q=I (K++XC l)/\∀a,Yb q a=if a∈K++XC l then J xk else U
  |none=>¬((∀t∈XC l,(Yb pm t).getD 0=1)/\(K++XC l).Nodup)
 | [],m,K,k,d,n=>by simp only[XC,List.filter_nil,Zgb,Zg1];exact⟨Z1,k,n,d⟩
 |o::l,m,K,k,d,n=>by
  rw[Ww];cases w:o.gone with
  |false=>
   have:XC (o::l)=XC l:=by simp[XC,w]
   rw[this];exact zt k d n
  |true=>
   rw[if_pos rfl];have h:XC (o::l)=o.target::XC l:=by simp[XC,w]
   rw[h];by_cases p:(Yb pm o.target).getD 0=1;by_cases j:o.target∈K;rw[if_neg (by rw[d,if_pos j];simp)];rintro⟨_,z⟩;exact(ZhQ.1 z).2.2 _ j _ Z1 rfl;have g:Yb m o.target=U:=by rw[d,if_neg j]
   rw[if_pos ⟨p,by rw[g];rfl⟩]
   have f:=zt (pm:=pm) (l:=l) (m:=XU m o.target xk) (K:=K++[o.target]) (by
     rw[ZhQ];refine⟨k,Z1,λa y b r=> ?_⟩;simp at r;subst r;intro e;subst e;exact j y) (λa=>by
     rw[J6,d];by_cases e:o.target=a;simp[e];have x:¬a=o.target:=Z0;simp[e,x]) (by rw[Z6g g,n];simp)
   rw[Zfw]at f;cases u:Ww pm l _ with
   |none=>
    rw[u]at f;rintro⟨A,B⟩;exact f ⟨ZdO,B⟩
   |some q=>
    rw[u]at f;refine⟨λt h=> ?_,f.2⟩;obtain rfl|h:=Zfb.1 h;exact p;exact f.1 t h
   rw[if_neg Z0];rintro⟨A,_⟩;exact p ZdO
def Ou{l a}:XB l a=(XC l).count a:=by
 unfold XB XC;induction l with
 |nil=>rfl
 |cons o l d=>
  grind
def Z4Z{T S:List Int}(j:S.Nodup)(f:T⊆S):(T.Nodup/\I T=I S)↔ ∀a∈S,T.count a=1:=by
 constructor;rintro⟨d,n⟩ a k;by_cases o:a∈T;grind;have g:T⊆S.erase a:=ZdN;have l:=d.length_le_of_subset g;grind;intro h;have d:T.Nodup:=ZdN;refine⟨d,Nat.le_antisymm (d.length_le_of_subset f)<|j.length_le_of_subset λa k=> ?_⟩;grind
section
variable {h:Hp}{s:Ck}{p:Pts}
def Found.rk(f:Found h s p)(C:ZJ (Zv h)=xk)(y:Xi h=J p):RO s=(!h.Y||p.H.all (Rq h p)):=by
 have G:=BX y (k:=1) Z0;have F:(p.H.map λo=>YV h 1 o.aa).Nodup:=by
  have:=Tiles.mz C (k:=1) Z0 G;rw[List.nodup_iff_pairwise_ne,List.pairwise_map];exact this
 have n:∀t∈XC s.o3++XC s.o4,t∈p.H.map λo=>YV h 1 o.aa:=by
  intro t d;have:∃k,(3<=k/\k<=4)/\t∈XC (p.at k):=by
   obtain d|d:=Zfg.1 d;exact⟨3,Z0,by rw[f.o3]at d;exact d⟩;exact⟨4,Z0,by rw[f.o4]at d;exact d⟩
  let⟨k,x,d⟩:=this;simp[XC,Zf8,ZhF]at d;obtain⟨o,⟨r,L⟩,rfl⟩:=d;let⟨q,z,B,_⟩:=Z5u y x r L;exact Zf8.2 ⟨q,z,B⟩
 have N:∀t∈XC s.o3++XC s.o4,(Yb s.pm t).getD 0=1:=by
  intro t d;let⟨q,z,B⟩:=Zf8.1<|n t d;have u:(YD h 1 (p.at 1) t).isSome=xk:=by
   unfold YD;rw[List.find?_isSome];exact⟨q,z,ZdN⟩
  have o:=λk x M=>EG (k:=1) (j:=k) C y Z0 x M u;rw[f.ov,o 4 Z0 Z0,o 3 Z0 Z0,o 2 Z0 Z0,u];rfl
 unfold RO;rw[f.hp];cases S:h.Y;rfl;simp[Zhz,ZhY];have key:=Z4Z F (T:=XC s.o3++XC s.o4) n;have g:p.H.all (Rq h p)=xk↔ ∀a∈(p.H.map λo=>YV h 1 o.aa),(XC s.o3++XC s.o4).count a=1:=by
  rw[ZeY];constructor;intro A a H;obtain⟨o,r,rfl⟩:=Zf8.1 H;have:=A o r;simp[Rq,Zfh,Tk,Ou]at this;rw[List.count_append,f.o3,f.o4];exact this;intro A o r;have:=A _<|Zf8.2 ⟨o,r,rfl⟩;rw[List.count_append,f.o3,f.o4]at this;simp_all[Rq,Tk,Ou]
 rw[Zfc]at key;have w:=zt (pm:=s.pm) (l:=s.o3) (m:=[]) (K:=[]) Z1 (by simp[Yb]) rfl;simp only[ZfE]at w;rw[ZiE,g,<-key];cases u:Ww s.pm s.o3 []with
 |none=>
  grind
 |some m=>
  rw[u]at w;let⟨X,O,P,Q⟩:=w;simp[ZeX];have c2:=zt (pm:=s.pm) (l:=s.o4) (m:=m) (K:=XC s.o3) O Q P;cases D:Ww s.pm s.o4 m with
  |none=>
   simp_all
  |some W=>
   rw[D]at c2;let⟨Y,Z,R,r4⟩:=c2;simp[Zfh,R,f.o1];simp_all
end
end Vm
namespace Vm
open Go Go.Proofs
def O7:∀ {l} {a:Int} {i:Nat},XM l xk a i=xk->∀w∈l,w=0
 | [],_,_,_,w,d=>by simp at d
 |x::l,a,i,h,w,d=>by
  simp[XM,Zfh]at h;obtain rfl|d:=Zfb.1 d;exact h.1.1;exact O7 h.2 w d
def Ld{s k q}:WT s k q=xk↔ ∀o∈s.dq k,o.gone=xw->∀j,j<o.M.toNat->q ((o.aa.toNat+1+j:Nat):Int) (U6 (Zx s.h k)<|o.aa.toNat+1+j)=xk:=by
 unfold WT obQ;grind
def Z6d{h p}(u:Xi h=J p){k}(r:1<=k/\k<=4):WC h p k=xk↔ ∀o∈p.at k,o.gone=xw->∀j,j<o.M.toNat->Ul h p k (o.aa.toNat+1+j)=xk:=by
 unfold WC yL;rw[ZeY];constructor;simp_all;intro x o t;rw[ZeY];intro j l;have l:=Zhq.1 l;cases q:o.gone;simp_all;have d:=((BX u r).bc o t).1;have w:=YB.1 d.shape;have f:=d.fw;rw[q]at f;have g:=d.aw;have n:=d.iu;have a:o.aa.toNat+1+j< I (Zx h k):=Z0;have y:(Zx h k)[o.aa.toNat+1+j]?=J 0:=by
  rw[ZeL a];refine ZfS J<|(O7 f) _ ?_;rw[ZhV];refine⟨j,?_⟩;rw[Zfo,if_pos Z0,Zfn,ZeL a]
 grind [Xv,Ul]
section
variable {h:Hp}{s:Ck}{p:Pts}
def Found.M(u:Found h s p)(K:ZJ (Zv h)=xk)(G:Xi h=J p):(Qw s&&(Qz s&&Q7 s))=(h.E.all (λw=>Xv h p w 1 2)&&WC h p 1&&WC h p 2&&WC h p 3&&WC h p 4):=by
 have g:=u.ru K G;have t:s.h.E.all (λw=>YN s w 1 2)=h.E.all (λw=>Xv h p w 1 2):=by
  rw[u.hp];congr 1;funext w;exact(g w).1
 have l:=λk=>u.dq (k:=k);have r:∀k (q:Nat->Int->Bool) (F:1<=k/\k<=4),(∀a,Ul h p k a=q a (U6 (Zx h k) a))->(WC h p k=xk↔ ∀o∈p.at k,o.gone=xw->∀j,j<o.M.toNat->q (o.aa.toNat+1+j) (U6 (Zx h k)<|o.aa.toNat+1+j)=xk):=by
  intro k q F H;rw[Z6d G F];simp[H]
 have p3:=r 3 (λ_ w=>Xv h p w 3 4) Z0 (λa=>by simp[Ul,U6]);have p4:=r 4 (λ_ w=>Xv h p w 3 4) Z0 (λa=>by simp[Ul,U6]);have L:=r 1 (λa w=>if h.Z<=a then Xv h p w 1 2||Xv h p w 3 4 else Xv h p w 1 2) Z0 (λa=>by simp[Ul,U6]);have N:WT s 2 (λ_ w=>YN s w 1 2)=xk↔WC h p 2=xk:=by
  rw[r 2 (λ_ w=>Xv h p w 1 2) Z0 (λa=>by simp[Ul,U6]),Ld,l,u.hp];simp[(g _).1]
 have O:WT s 3 (λ_ w=>YN s w 3 4)=xk↔WC h p 3=xk:=by
  rw[p3,Ld,l,u.hp];simp[(g _).2.1]
 have P:WT s 4 (λ_ w=>YN s w 3 4)=xk↔WC h p 4=xk:=by
  rw[p4,Ld,l,u.hp];simp[(g _).2.1]
 have M:(WT s 1 (λa w=>decide (s.h.Z<=a)||YN s w 1 2)=xk/\WT s 1 (λa w=>decide (a<s.h.Z)||YN s w 1 4)=xk)↔WC h p 1=xk:=by
  rw[L,Ld,Ld,l,u.hp];simp only[(g _).1,(g _).2.2];constructor;rintro⟨C,D⟩ o A y j z;have C:=C o A y j z;have D:=D o A y j z;generalize o.aa.toNat+1+j=n at*;by_cases x:h.Z<=n;have:¬n<h.Z:=Z0;simpa[x,this]using D;simpa[x]using C;intro B;refine⟨λo A y j z=> ?_,λo A y j z=> ?_⟩;have B:=B o A y j z;generalize o.aa.toNat+1+j=n at*;by_cases x:h.Z<=n;simp[x];simpa[x]using B;have B:=B o A y j z;generalize o.aa.toNat+1+j=n at*;by_cases x:h.Z<=n;have:¬n<h.Z:=Z0;simpa[x,this]using B;have:n<h.Z:=Z0;simp[this]
 unfold Qw Qz Q7;rw[t,ZiE];simp[ZeO];rw[N,O,P,<-M];constructor;rintro⟨⟨a,b,c⟩,d,e,f⟩;exact⟨⟨⟨⟨a,c,d⟩,b⟩,e⟩,f⟩;rintro⟨⟨⟨⟨a,c,d⟩,b⟩,e⟩,f⟩;exact⟨⟨a,b,c⟩,d,e,f⟩
def Found.tn(a:Found h s p):Qs s=decide ((I h.H:Int)+I h.ab+Yu p<=h.cap):=by
 unfold Qs SD Yu;rw[a.hp,a.o3,a.o4]
end
def Z4J h:TG h=(SP (Xw h)&&Qq (Xw h)):=by
 grind [TG,SP,Qq,Xw,Zv]
def B6 h:(VA h).isSome=Yt h/\∀s,VA h=J s->∃p,Xi h=J p/\Found h s p:=by
 have k:VA h=(if SP _=xk then if Qq (Xw h)=xk then if(Wb<|Xw h).1=xk then
   if RO (Wb<|Xw h).2=xk then if Qw (Wb<|Xw h).2=xk then if Qz (Wb<|Xw h).2=xk then if Q7 (Wb<|Xw h).2=xk then if Qs (Wb<|Xw h).2=xk then
    J (Wb<|Xw h).2 else U else U else U else U else U else U else U else U):=rfl
 unfold Yt;rw[Z4J h];cases a:SP _;simp_all;have g:ZJ (Zv h)=xk:=by
  unfold SP at a;simp[ZeO]at a;exact a.1
 cases j:Qq _;simp_all;have l:=Z8Z g;cases f:Xi h with
 |none=>
  simp_all
 |some p=>
  rw[f]at l;let⟨q,d⟩:=l;rw[a,j,q]at k;simp at k;generalize (Wb _).2=s at*;have n:=d.M g f;have o:=d.tn;have r:Sw h p=(RO s&&((Qw s&&(Qz s&&Q7 s))&&Qs s)):=by
   rw[d.rk g f,n,o];unfold Sw;simp[Bool.and_assoc]
  grind
def Z3R h k:KY h k=UF h k:=by
 let⟨d,g⟩:=B6 h;unfold KY UF;cases f:VA h with
 |none=>
  simp_all
 |some s=>
  rw[f]at d;have a:Yt h=xk:=d.symm;let⟨p,l,j⟩:=g s f;simp[a,l,j.dq]
def Z3V h:(jj h:Int)=Ru h:=by
 let⟨d,j⟩:=B6 h;unfold jj Ru;cases g:VA h with
 |none=>
  simp_all
 |some s=>
  rw[g]at d;have a:Yt h=xk:=d.symm;let⟨p,k,f⟩:=j s g;simp[a,k];unfold SD Yu;rw[f.o3,f.o4]
end Vm
end
section
namespace Vm
open Go Go.Proofs Go.RowKit
section
def E6{α:Type}(F:Fence)(n:Nat)(P:Z6)(g:Nat)(lb:Zd)(d:α->Array Value)(k:World->World->Prop)(S:List α->World->Prop)(o:List PanicEntry->List α->World->Prop)(N:Nat)(bt:Option Nat)(j:World->Prop)(w:Z3):Prop:=
 ∀(l:Nat) (p:List α->World->Prop) (W:Z3),Below (xz<|xj w) w W->(∀pre W,p pre W->j W)->(∀s A B row,p s A->A.grownBy B row->(∀r,row=J r->J r=bt)->p s B)->
  (∀pre x f,p pre f->I pre<N->YieldAt F (n-1) P l (d x) f λe a=>e=.returned (.bool xk)/\p (pre++[x]) a/\k f a)->
  p [] W->
  CallsIn F n P g (#[.func (.yield l) #[] #[]]++lb) W λe a=>(∃v h,e=.returned v/\S h a/\p h a)\/(∃chain pre,e=.panicked chain/\o chain pre a/\p pre a)
def Z66{α:Type}(B:Nat)(d:World->World->Prop)(I:List α->World->Prop)(xs:List α)(W:Z3):Exit->Act->World->Prop
 |.normal,_,a=>KeepsFrom B W a/\d W a/\I xs a
 |_,_,_=>False
def OwnP{β:Type}(bt:Option Nat)(B:Nat)(I:β->World->Prop):Prop:=
 ∀s X Y row,I s X->X.grownBy Y row->(∀r,row=J r->J r=bt\/(B<=r/\∃o:Obj,X.heap[r]?=J o/\o.isCells=xw))->I s Y
def OwnP.putObj{β:Type}{bt:Option Nat}{B:Nat}{I:β->World->Prop}(h:OwnP bt B I){s:β}{W:Z3}{l:Nat}{o:Obj}(a:Obj)(d:I s W)(f:B<=l)(g:W.heap[l]?=J o)(j:o.isCells=xw):I s<|W.putObj l a:=
 h s W _ (J l) d (ZhD W l a) (λr e=>ZdO)
def OwnP.alloc{β:Type}{bt:Option Nat}{B:Nat}{I:β->World->Prop}(h:OwnP bt B I){s:β}{W:Z3}(o:Obj)(a:I s W):I s<|W.alloc o:=
 h s W _ U a (Zg4 W o U) (λr e=>by cases e)
variable {F:Fence}{n:Nat}{P:Z6}
def Z97{α:Type}{g:Operand}{ps:Array Tmp}{assign body:Code}{Q:Zf}{a:Act}{w:Z3}
  (d8:F.round=U) (h1:1<=n) {gf:Nat} {lb:Zd} (hg:a.eval g=.func (.func gf) #[] lb) (d9:F.fn gf) (eg:∀args w,(callFunc gf args).run P w=.ok (.enter gf args) w)
  {f:α->Array Value} {O:World->World->Prop} {S:List α->World->Prop} {Pp:List PanicEntry->List α->World->Prop} {N:Nat} {bt:Option Nat} {Ex:World->Prop} {w0:Z3} (a8:E6 F (n-1) P gf lb f O S Pp N bt Ex w0)
  (b5:∀r,bt=J r->r<xz (xj w))
  (X:∀ {A B C:Z3},O A B->O B C->O A C) (a1:∀(W:Z3) (l:Nat) (o o':Obj),xz (xj w)<=l->W.heap[l]?=J o->o.isCells=xw->o.isWalk=xw->O W (W.putObj l o')) (a2:Below (xz<|xj w0) w0 w) (e0:∀x,(f x).size=ps.size)
  (I:List α->World->Prop) (hI:OwnP bt (xz<|xj w) I) (b0:∀pre W,I pre W->Ex W) (h0:I [] w) (hS:OwnP U (xz<|xj w) S) (Ax:α->Act->World->Prop) (a9:∀x G,OwnP U (xz<|xj w)<|λ(_:Unit) W=>Ax x G W)
  (q:∀(l:Nat) (pre:List α) (x:α) (W:Z3) (K:Zo),I pre W->(∀G W',KeepsFrom (xz<|xj w) W W'->O W W'->I pre W'->Ax x G W'->K G W')->
   assign.wpIn (F.inRound l) (n-1-1) P (Exit.then K<|λ_ _ _=>False) {tmps:=(ps.zip<|f x).foldl (λt (p,v)=>t.setIfInBounds p v) a.tmps,defers:=[]} W)
  (Y:∀(l:Nat) (pre:List α) (x:α) (G:Act) (W:Z3),I pre W->Ax x G W->xq pre<N->body.wpIn (F.inRound l) (n-1-1) P (Z66 (xz<|xj w) O I (pre++[x]) W) G W)
  (Z:∀(D:Nat) (xs:List α) (W:Z3),xz (xj w)<=D->S xs W->I xs W->W.heap[D]?=J (.deferred<|J [])->Q .normal {a with defers:= {target:=.collected D,args:=#[]}::a.defers} W)
  (M:∀(D:Nat) (chain:List PanicEntry) (pre:List α) (W:Z3),xz (xj w)<=D->Pp chain pre W->I pre W->W.heap[D]?=J (.deferred<|J [])->Q (.panic chain) {a with defers:= {target:=.collected D,args:=#[]}::a.defers} W):
  (Code.rangeFunc g ps assign body).wpIn F n P Q a w:=by
 refine wpIn_rangeFunc λfn b7=> ?_;rw[d8];obtain⟨d,z⟩:∃d:LoopState->Option Code->Loop,d=λst pe=> {state:=st,pending:=pe,fn,tmps:=a.tmps,params:=ps,assign,body,defers:=xz (xj w)}:=⟨_,rfl⟩;obtain⟨H,L⟩:∃H,(w.alloc<|.deferred<|J []).alloc (.loop<|d .ready U)=H:=⟨_,rfl⟩;have b2:H.heap[xz (xj w)+1]?=J (.loop<|d .ready U):=by
  have:=ZfX (w.alloc<|.deferred<|J [])<|.loop<|d .ready U;rw[ZgN]at this;rw[<-L];exact this
 have b1:H.heap[xz<|xj w]?=J (.deferred<|J []):=by
  rw[<-L];exact(ZeR _ _ _ Z1).trans (ZfX w _)
 have b4:Below (xz<|xj w0) w0 H:=by
  rw[<-L];exact a2.trans<|(((Zf3 _ w).alloc (ZeQ _) _).alloc Z1 _).mono a2.size
 refine⟨xz (xj w)+1,[{target:=.collected<|xz<|xj w,args:=#[]}],H,{target:=.fn (.func gf) lb,args:=#[.func (.yield<|xz (xj w)+1) #[] #[]]},H,gf,
  #[.func (.yield<|xz (xj w)+1) #[] #[]]++lb,H,?_,?_,?_,?_,λ_=>h1,?_⟩
 simp_all[run_enterLoop_outer]
 .simp only[resolve,hg];simp[go_sem]
 simp_all[Target.leads];simp_all[invoke];have T:∀ {A B:Z3} {row:Option Nat} {k:Nat} {o:Obj},A.grownBy B row->(∀r,row=J r->J r=bt)->xz (xj w)<=k->A.heap[k]?=J o->B.heap[k]?=J o:=by
  intro A B row k o u hr hk ho;refine(u.block k (ZeT.1 ho).1 λe=> ?_).trans ho;have:=b5 k (hr k e.symm).symm;omega
 refine(a8 (xz (xj w)+1) (λpre W=>I pre W/\W.heap[xz (xj w)+1]?=J (.loop<|d .ready U)/\W.heap[xz<|xj w]?=J (.deferred<|J [])) H b4 (λpre W h=>b0 pre W h.1)
  (λs A B row hs u hr=>⟨hI s A B row hs.1 u (λr e=>.inl<|hr r e),T u hr Z0 hs.2.1,T u hr (ZeQ _) hs.2.2⟩) ?_ ⟨by rw[<-L];exact hI.alloc _<|hI.alloc _ h0,b2,b1⟩).mono ?_
 rintro pre x W ⟨hi,hl,hk⟩ a7;have hy:=run_yield (P:=P) (args:=f x) hl ZdO;rw[z]at hy;refine⟨fn,_,assign,body,hy,roundIn_of_wpIn b7<|q _ pre x W _ hi ?_⟩;intro G V a5 d0 b9 b3;have y:=a5.same _ _ Z0 hl rfl;have c1:=a5.same _ _ (ZeQ _) hk rfl;have d6:xz (xj w)+1<xz (xj V):=(ZeT.1 y).1;refine⟨_,run_beginRound y (by rw[z]),?_⟩;have d5:(V.putObj (xz (xj w)+1)<|.loop {d .ready U with state:=.busy}).heap[xz (xj w)+1]?=J (.loop {d .ready U with state:=.busy}):=Zh9 d6;have c0:(V.putObj (xz (xj w)+1)<|.loop {d .ready U with state:=.busy}).heap[xz<|xj w]?=J (.deferred<|J []):=(Zfq Z0).trans c1;have d7:O V<|V.putObj (xz (xj w)+1)<|.loop {d .ready U with state:=.busy}:=a1 _ _ _ _ Z0 y rfl rfl;refine wpIn_mono (Y _ pre x G _ (hI.putObj _ b9 Z0 y rfl) ((a9 x G).putObj (s:=()) _ b3 Z0 y rfl) a7) ?_;rintro e a3 W3 R;cases e with
 |normal=>
  obtain⟨a4,a6,b8⟩:=R;have a0:=a4.same _ _ Z0 d5 rfl;have b6:=a4.same _ _ (ZeQ _) c0 rfl;have j:=run_endRound (P:=P) U a0;refine⟨_,_,j,rfl,⟨hI.putObj _ b8 Z0 a0 rfl,?_,(Zfq Z0).trans b6⟩,X d0<|X (X d7 a6)<|a1 _ _ _ _ Z0 a0 rfl rfl⟩;grind [World.putObj_heap_same,Array.getElem?_eq_some_iff]
 |ret=>exact R.elim
 |exit id=>exact R.elim
 |goto t=>exact R.elim
 |panic ch=>exact R.elim
 |outgrown=>exact R.elim
 rintro e W2 (⟨v,xs,rfl,hs,hi,hl,hk⟩|⟨chain,pre,rfl,R,hi,hl,hk⟩);have j:=run_endLoop (P:=P) hl ZdO;rw[z]at j;exact⟨U,_,j,Z _ xs _ (ZeQ _) (hS.putObj _ hs Z0 hl rfl) (hI.putObj _ hi Z0 hl rfl)<|(Zfq Z0).trans hk⟩;exact M _ chain pre _ (ZeQ _) R hi hk
end
end Vm
end
section
namespace Vm
open Go
open Go.Proofs
def IG:Fn:=⟨4,[0,2,3,4],pQ [pR [pV 1 pF],pC [pK 4 58 [.s 0]] [pV 2<|.ext (.s 4) 0,pV 3<|.ext (.s 4) 1],.ao ⟨[.lt 5 []<|pe (.s 0)<|pU 0],[([(5,xw)],pe (.s 3)<|pI 0)],[pV 1<|.ite (.s 5) pT<|pe (.s 3)<|pI 0]⟩] .ret,[(1,.v)]⟩
def Z0L:ZM Sol.prog fresh sig [.fz] [] Try.f105=J IG:=Z2
end Vm
end
section
namespace Vm
open Go Go.Proofs Go.RowKit
def Z65{x:Int}(hx:ZC x):VC Sol.prog 105 xw [vu x]<|.bool<|VV x:=by
 refine ZS Sol.func105 follows Z2 Z0L rfl ?_;simp[IG];refine Zz (JZ hx) Z1 ?_;simp_all[VV]
def MM{x:Int}(hx:ZC x)(w:World):Calls Sol.prog 105 #[.int .u64 x] w λe a=>e=.returned (.bool<|VV x)/\Below (xz<|xj w) w a:=
 Tt (Z65 hx) rfl rfl w
structure Words (w:World) (ws:List Int) (g o cap:Nat):Prop where
 aa:∀(i:Nat) (x:Int),ws[i]?=J x->w.cell? ⟨g,o+i,U⟩=J (.int .u64 x)
 le:I ws<=cap
 cap:cap<=maxLen
 len:I ws<=1000000
 u64:∀x∈ws,ZC x
def Vq(e:Int):List PanicEntry:=[{v:=.iface 167<|.agg #[.int .i64 e],recovered:=xw}]
def WI(o:Ob):Value:=.agg #[.int .i64 o.aa,.int .i64 o.size,.int .i64 o.M,.bool o.gone,.int .u64 o.target]
def zU(ws:List Int)(o:Ob):Ending:=
 if(I ws:Int)<o.aa+1+o.size then .panicked (Vq 2)else if XM ((ws.drop<|o.aa.toNat+1).take o.size.toNat) o.gone o.M 0=xw then .panicked (Vq 3)else .returned<|.tuple #[]
def Z2c(w:World)(ws:List Int)(g o cap:Nat)(C:Words w ws g o cap)(hg:g<xz (xj w))(t:Ob)(a:Nat)(N:t.aa=a)(A:a<I ws)(B:YA t.size t.M=xk):
  Calls Sol.prog 104 #[.slice (J ⟨g,o,U⟩) (I ws) cap,WI t] w λe w'=>e=zU ws t/\Below (xz<|xj w) w w':=by
 have hl:=C.len;have hc:=C.le;have hm:=C.cap;obtain⟨at_,size,ptrs,gone,target⟩:=t;simp only at N B;subst N;obtain⟨s1,s2,s3,s4⟩:=YB.1 B;obtain⟨m,rfl⟩:=Zf0 s1;have L:=ZeP C;have r:zU ws ⟨a,m,ptrs,gone,target⟩=if(I ws:Int)<a+1+m then .panicked (Vq 2)else if XM ((ws.drop<|a+1).take m) gone ptrs 0=xw then .panicked (Vq 3)else .returned<|.tuple #[]:=rfl
 generalize zU ws ⟨a,m,ptrs,gone,target⟩=E at*;unfold WI;dsimp only;by_cases l:(I ws:Int)<a+1+m
 .rw[if_pos l]at r;have u:=ZeP r;clear r;have S:((I ws- (a+1):Nat):Int)<m:=Z0;go_enter Sol.func104,Try.ntmps104;go_wp2;all_goals exact⟨rfl,u.out.symm,(Zf3 _ _).alloc (ZeQ _) _⟩
 .rw[if_neg l]at r;have u:=ZeP r;clear r;have P:(m:Int)<=((I ws- (a+1):Nat):Int):=Z0;have Q:m<=I ws- (a+1):=Z0;have T:(I ws- (a+1)<m)=False:=Zhm Z0;have Z:m<=cap- (a+1):=Z0;have a0:m<=255:=Z0;clear C l;by_cases z:cap=a+1
  .have K:m=0:=Z0;subst K;subst z;go_enter Sol.func104,Try.ntmps104;go_wp2;go_loopw [26] (λi wr=>i=.int .i64 0/\Hid (Below (xz<|xj w) w wr)) (λi _=>0)
   case atStart=>exact⟨rfl,ZeP<|(Zf3 _ _).alloc (ZeQ _) _⟩
   case round=>
    obtain⟨rfl,X⟩:=hrel;go_wp2;go_end0
    exact⟨u.out.symm,X.out⟩
  .go_enter Sol.func104,Try.ntmps104;go_wp2
   go_loopw [26] (λi wr=>∃k:Nat,i=.int .i64 k/\k<=m/\Hid (Below (xz<|xj w) w wr/\wr.heap[xz<|xj w]?=J (.cells #[.int .i64 a,.int .i64 m,.int .i64 ptrs,.bool gone,.int .u64 target] 120 (0,0))/\
     XM ((ws.drop<|a+1).take m) gone ptrs 0=XM (((ws.drop<|a+1).take m).drop k) gone ptrs k)) (λi _=>m- (intOf i).toNat)
   case atStart=>exact⟨0,rfl,Z0,ZeP ⟨(Zf3 _ _).alloc (ZeQ _) _,Zf5 w _,rfl⟩⟩
   case round=>
    obtain⟨k,rfl,hk,d⟩:=hrel;by_cases A:k<m
    .obtain⟨x,D⟩:∃x,ws[a+1+k]?=J x:=⟨_,ZeL Z0⟩;have W:ZC x:=L.out.u64 x<|ZeW D;have M:((ws.drop<|a+1).take m)[k]?=J x:=by
      rw[Zfo,if_pos A,Zfn];exact D
     have c0:wr.cell? ⟨g,o+(a+1)+k,U⟩=J (.int .u64 x):=by
      rw[Zg5];exact(d.out.1.cell (p:=⟨g,o+(a+1+k),U⟩) hg).trans (L.out.aa _ _ D)
     have c1:wr.cell? ⟨xz<|xj w,1,U⟩=J (.int .i64 m):=Zes;have c2:wr.cell? ⟨xz<|xj w,2,U⟩=J (.int .i64 ptrs):=Zes;have c3:wr.cell? ⟨xz<|xj w,3,U⟩=J (.bool gone):=Zes;have q:=Z8a (gone:=gone) (ptrs:=ptrs) M;have R:(k:Int)<m:=Z0;have G:=Y9 d.out.2.1;clear D M;have stop:XM (((ws.drop<|a+1).take m).drop k) gone ptrs k=xw->E=.panicked (Vq 3):=λh=>by
      rw[u.out,d.out.2.2,h,if_pos rfl]
     cases gone
     .by_cases hp:(k:Int)<ptrs
      .cases H:VV x
       .have f:=ZeP<|stop ZdO;clear stop q;go_wp2_with (go_at_call 105;refine(MM W _).mono ?_;rintro e w1 ⟨rfl,j⟩;have n:=ZeP j;clear j)
        exact⟨rfl,f.out.symm,d.out.1.trans<|n.out.mono d.out.1.size⟩
       .have y:=ZeP<|q.trans (by simp[H]:_=XM (((ws.drop<|a+1).take m).drop<|k+1) xw ptrs (k+1));clear stop q;go_wp2_with (go_at_call 105;refine(MM W _).mono ?_;rintro e w1 ⟨rfl,j⟩;have n:=ZeP j;clear j)
        go_wp2;go_roundw
        case rel=>
         exact⟨k+1,by go_num,Z0,ZeP ⟨d.out.1.trans<|n.out.mono d.out.1.size,(n.out.block _ G).trans d.out.2.1,d.out.2.2.trans y.out⟩⟩
        case measure=>grind [intOf]
      .have y:=ZeP<|q.trans (by simp[hp]:_=XM (((ws.drop<|a+1).take m).drop<|k+1) xw ptrs (k+1));clear stop q;go_wp2;go_roundw
       case rel=>exact⟨k+1,by go_num,Z0,ZeP ⟨d.out.1,d.out.2.1,d.out.2.2.trans y.out⟩⟩
       case measure=>grind [intOf]
     .by_cases Y:x=0
      .subst Y;have y:=ZeP<|q.trans (by simp[VV]:_=XM (((ws.drop<|a+1).take m).drop<|k+1) xk ptrs (k+1));clear stop q;go_wp2;go_roundw
       case rel=>exact⟨k+1,by go_num,Z0,ZeP ⟨d.out.1,d.out.2.1,d.out.2.2.trans y.out⟩⟩
       case measure=>grind [intOf]
      .have f:=ZeP<|stop ZdO;clear stop q;go_wp2;exact⟨rfl,f.out.symm,d.out.1⟩
    .have:k=m:=Z0;subst this;have F:=d.out.2.2;have O:((ws.drop<|a+1).take k).drop k=[]:=Zgq ZdO;rw[O]at F;have f:=ZeP<|u.out.trans (by rw[F];rfl:_=Ending.returned (.tuple #[]));clear F O;go_wp2;go_end0
     exact⟨f.out.symm,d.out.1⟩
end Vm
namespace Vm
open Go Go.Proofs Go.RowKit
def Z4w(w:World):Sem.run Sol.prog (binOp .neq 168 .nilFunc .nilFunc) w=.ok (.bool xw) w:=ZeF
def Bq(w:World)(f:FuncId)(vs:Array Value):Sem.run Sol.prog (binOp .neq 168 (.func (.func f) #[] vs) .nilFunc) w=.ok (.bool xk) w:=ZeF
def qG{w:World}{b T v0 v1 d f v4}(h:w.heap[b]?=J (.cells #[v0,v1,d,f,v4] T (0,0)))O:
  ((w.alloc O).cell? ⟨b,0,U⟩=J v0/\(w.alloc O).cell? ⟨b,1,U⟩=J v1/\(w.alloc O).cell? ⟨b,2,U⟩=J d/\(w.alloc O).cell? ⟨b,3,U⟩=J f/\(w.alloc O).cell? ⟨b,4,U⟩=J v4)/\
  (w.alloc O).frozen? ⟨b,0,U⟩=xw/\(w.alloc O).frozen? ⟨b,1,U⟩=xw/\(w.alloc O).frozen? ⟨b,2,U⟩=xw/\(w.alloc O).frozen? ⟨b,3,U⟩=xw/\(w.alloc O).frozen? ⟨b,4,U⟩=xw:=by
 have a:(w.alloc O).heap[b]?=J _:=(ZeR _ _ _ ZdN).trans h;refine⟨⟨?_,?_,?_,?_,?_⟩,Yd a,Yd a,Yd a,Yd a,Yd a⟩<;>(rw[ZeU _ _ _ _ _ _ a];rfl)
def SO(a:Nat)(x:Int):Ending:=if(ZT x).2.2=0 then .returned (WI ⟨a,(ZT x).1,(ZT x).2.1,xw,0⟩)else .panicked<|Vq 3
def Z0A(w:World)(ws:List Int)(g o cap:Nat)(n:Words w ws g o cap)(L:g<xz (xj w))(a:Nat)(x:Int)(hx:ws[a]?=J x):
  Calls Sol.prog 103 #[.slice (J ⟨g,o,U⟩) (I ws) cap,.int .i64 a,.nilFunc] w λe N=>e=SO a x/\Below (xz<|xj w) w N:=by
 have Y:=n.len;have X:=n.le;have Z:=n.cap;have M:a<I ws:=(ZeM.1 hx).1;have A:(a:Int)<I ws:=Z0;have q:ZC x:=n.u64 x<|ZeW hx;have C:=n.aa a x hx;have z:∀W,Below (xz<|xj w) w W->W.cell? ⟨g,o+a,U⟩=J (.int .u64 x):=λW K=>(K.cell (p:=⟨g,o+a,U⟩) L).trans C;have l:SO a x=if(ZT x).2.2=0 then .returned (WI ⟨a,(ZT x).1,(ZT x).2.1,xw,0⟩)else .panicked<|Vq 3:=rfl
 generalize SO a x=E at*;have y:=ZeP z;have B:=Z4w;clear n hx z;by_cases t:(ZT x).2.2=0
 .rw[if_pos t]at l;have r:=ZeP l;clear l;go_enter Sol.func103,Try.ntmps103
  go_wp2_with (first
   |(go_at_call 58;refine(U8 q _).mono ?_;rintro e w1 ⟨rfl,f⟩;have d:=ZeP f;have D:=y.out w1<|((((Zf3 _ w).alloc (ZeQ _) _).alloc (by simp) _).trans<|f.mono (by simp;omega));clear f)
   | (go_at_call 64;refine(JL q _).mono ?_;rintro e w2 ⟨rfl,h⟩;have j:=ZeP h
      have H:=d.out.block;have r0:w2.heap[xz<|xj w]?=J (.cells #[.int .i64 0,.int .i64 0,.int .i64 0,.bool xw,.int .u64 0] 120 (0,0)):=(h.block _ Zen).trans<|(d.out.block _ ZdP).trans<|(ZeR _ _ _ Z1).trans<|Zf5 w _;have u:w2.heap[xz (xj w)+1]?=J (.cells #[.int .i64 a,.int .i64 0,.int .i64 0,.bool xw,.int .u64 0] 120 (0,0)):=(h.block _ Zen).trans<|(d.out.block _ Z1).trans ZdT;obtain⟨⟨O,P,Q,R,S⟩,y0,y1,y2,y3,y4⟩:=qG r0<|.cells #[.int .i64 (ZT x).1,.int .i64 (ZT x).2.1] 43;obtain⟨⟨p0,p1,p2,p3,p4⟩,q0,q1,q2,q3,q4⟩:=qG u<|.cells #[.int .i64 (ZT x).1,.int .i64 (ZT x).2.1] 43;have T:=ZeP<|And.intro r0 u;clear h H r0 u))
  refine Zfp (v:=WI ⟨a,(ZT x).1,(ZT x).2.1,xw,0⟩) ?_ rfl ⟨r.out.symm,?_⟩
  .simp[results,Try.results103,go_sem,WI,O,P,Q,R,S]
  have k:=(((Zf3 _ w).alloc (ZeQ _)<|.cells #[.int .i64 0,.int .i64 0,.int .i64 0,.bool xw,.int .u64 0] 120).alloc Z1<|.cells #[.int .i64 a,.int .i64 0,.int .i64 0,.bool xw,.int .u64 0] 120).trans<|d.out.mono ZdP;have G:=(k.trans<|j.out.mono (by have:=k.size;omega)).alloc (by have:=k.size;have:=j.out.size;omega)<|.cells #[.int .i64 (ZT x).1,.int .i64 (ZT x).2.1] 43;exact((((((G.setCell (p:=⟨xz (xj w)+1,1,U⟩) Z1 _).setCell (p:=⟨xz (xj w)+1,2,U⟩) Z1 _).setCell (p:=⟨xz<|xj w,0,U⟩) (ZeQ _) _).setCell (p:=⟨xz<|xj w,1,U⟩) (ZeQ _) _).setCell (p:=⟨xz<|xj w,2,U⟩) (ZeQ _) _).setCell (p:=⟨xz<|xj w,3,U⟩) (ZeQ _) _).setCell (p:=⟨xz<|xj w,4,U⟩) (ZeQ _) _
 .rw[if_neg t]at l;have r:=ZeP l;clear l;have F:((ZT x).2.2=0)=False:=Zhm t;go_enter Sol.func103,Try.ntmps103
  go_wp2_with (first
   |(go_at_call 58;refine(U8 q _).mono ?_;rintro e w1 ⟨rfl,f⟩;have d:=ZeP f;have D:=y.out w1<|((((Zf3 _ w).alloc (ZeQ _) _).alloc (by simp) _).trans<|f.mono (by simp;omega));clear f)
   |(go_at_call 64;refine(JL q _).mono ?_;rintro e w2 ⟨rfl,h⟩;have j:=ZeP h;clear h))
  refine⟨rfl,r.out.symm,?_⟩;have k:=(((Zf3 _ w).alloc (ZeQ _)<|.cells #[.int .i64 0,.int .i64 0,.int .i64 0,.bool xw,.int .u64 0] 120).alloc Z1<|.cells #[.int .i64 a,.int .i64 0,.int .i64 0,.bool xw,.int .u64 0] 120).trans<|d.out.mono ZdP;exact(k.trans<|j.out.mono (by have:=k.size;omega)).alloc (by have:=k.size;have:=j.out.size;omega) _
end Vm
namespace Vm
open Go Go.Proofs Go.RowKit
def NZ(s p:Int)(w:World):Calls Sol.prog 44 #[.agg #[.int .i64 s,.int .i64 p]] w λe a=>e=.returned (.bool<|YA s p)/\Below (xz<|xj w) w a:=
 Tt CC rfl rfl w
structure Shps (w:World) (shs:List<|Int×Int) (bs:Nat) (v:Value):Prop where
 box:w.heap[bs]?=J (.cells #[v] 156 (0,0))
 val:(∃g o cap,v=.slice (J ⟨g,o,U⟩) (I shs) cap/\I shs<=cap/\cap<=maxLen/\g<xz (xj w)/\∀(i:Nat) (x:Int×Int),shs[i]?=J x->w.cell? ⟨g,o+i*2,U⟩=J (.int .i64 x.1)/\w.cell? ⟨g,o+i*2+1,U⟩=J (.int .i64 x.2))\/
  (∃a cap,v=.slice a 0 cap/\shs=[])
def Z21(w:World)(shs:List<|Int×Int)(bt h:Nat)(v:Value)(x:I shs<=1000000)(d:Shps w shs h v)(f:w.heap[bt]?=J (.cells #[.int .i64<|I shs] 3 (0,0))):
  Calls Sol.prog 98 #[.pointer<|J ⟨bt,0,U⟩,.pointer<|J ⟨h,0,U⟩] w λe p=>e=.panicked (Vq 3)/\Below (xz<|xj w) w p:=by
 have k:w.cell? ⟨bt,0,U⟩=J (.int .i64<|I shs):=by rw[ZeU _ _ _ _ _ _ f];rfl
 have n:=Y9 f;have j:=Y9 d.box;have q:w.cell? ⟨h,0,U⟩=J v:=by rw[ZeU _ _ _ _ _ _ d.box];rfl
 obtain⟨g,o,cap,rfl,r,t,u,l⟩|⟨a,cap,rfl,rfl⟩:=d.val
 .clear l d f;go_enter Sol.func98,Try.ntmps98;go_wp2;exact⟨rfl,rfl,(Zf3 _ _).alloc (ZeQ _) _⟩
 .clear d f;simp only[ZfU]at k;go_enter Sol.func98,Try.ntmps98;go_wp2;exact⟨rfl,rfl,(Zf3 _ _).alloc (ZeQ _) _⟩
def Z20(w:World)(shs:List<|Int×Int)(bt j t:Nat)(v:Value)(x:Int×Int)(K:I shs<=1000000)(f:Shps w shs j v)(k:w.heap[bt]?=J (.cells #[.int .i64 t] 3 (0,0)))(hx:shs[t]?=J x)(r:YA x.1 x.2=xw):
  Calls Sol.prog 98 #[.pointer<|J ⟨bt,0,U⟩,.pointer<|J ⟨j,0,U⟩] w λe A=>e=.panicked (Vq 3)/\Below (xz<|xj w) w A:=by
 have B:w.cell? ⟨bt,0,U⟩=J (.int .i64 t):=by rw[ZeU _ _ _ _ _ _ k];rfl
 have u:=Y9 k;have p:=Y9 f.box;have y:t<I shs:=(ZeM.1 hx).1;have z:¬t=I shs:=Z0;have q:(t:Int)<I shs:=Z0;have C:w.cell? ⟨j,0,U⟩=J v:=by rw[ZeU _ _ _ _ _ _ f.box];rfl
 obtain⟨g,o,cap,rfl,F,G,H,n⟩|⟨a,cap,rfl,rfl⟩:=f.val
 .obtain⟨D,d1⟩:=n t x hx;have l:=NZ x.1 x.2;rw[r]at l;clear n f k hx r;go_enter Sol.func98,Try.ntmps98;go_wp2_with (go_at_call 44;refine(l _).mono ?_;rintro e w1 ⟨rfl,d⟩;have h:=ZeP d;clear d)
  exact⟨rfl,rfl,((Zf3 _ w).alloc (ZeQ _) _).trans<|h.out.mono Z1⟩
 grind
def Z22(w:World)(shs:List<|Int×Int)(bt f t:Nat)(v:Value)(x:Int×Int)(hl:I shs<=1000000)(y:Shps w shs f v)(l:w.heap[bt]?=J (.cells #[.int .i64 t] 3 (0,0)))(hx:shs[t]?=J x)(L:YA x.1 x.2=xk)(q:f≠bt)
  (r:∀g o cap,v=.slice (J ⟨g,o,U⟩) (I shs) cap->g≠bt):
  Calls Sol.prog 98 #[.pointer<|J ⟨bt,0,U⟩,.pointer<|J ⟨f,0,U⟩] w λe M=>e=.returned (.agg #[.int .i64 x.1,.int .i64 x.2])/\w.grownBy M (J bt)/\M.heap[bt]?=J (.cells #[.int .i64 ((t+1:Nat):Int)] 3 (0,0)):=by
 have N:w.cell? ⟨bt,0,U⟩=J (.int .i64 t):=by rw[ZeU _ _ _ _ _ _ l];rfl
 have h:=Y9 l;have n:=Y9 y.box;have R:t<I shs:=(ZeM.1 hx).1;have u:¬t=I shs:=Z0;have K:(t:Int)<I shs:=Z0;have O:w.cell? ⟨f,0,U⟩=J v:=by rw[ZeU _ _ _ _ _ _ y.box];rfl
 have hf:=Yd (o:=0) l;have G:¬f=bt:=q;have H:¬bt=f:=λe=>q e.symm;obtain⟨g,o,cap,rfl,h1,h2,D,F⟩|⟨a,cap,rfl,rfl⟩:=y.val
 .obtain⟨P,d1⟩:=F t x hx;have hg:=r g o cap rfl;have C:=NZ x.1 x.2;rw[L]at C;have B:=ZeP l;clear F y l hx L r;go_enter Sol.func98,Try.ntmps98
  go_wp2_with (go_at_call 44;refine(C _).mono ?_;rintro e w1 ⟨rfl,d⟩
               have z:=ZeP d;have s1:=d.size;have k0:w1.cell? ⟨bt,0,U⟩=J (.int .i64 t):=(d.cell (p:=⟨bt,0,U⟩) ZdP).trans<|(Zgd _ _ _ h).trans N;have k1:w1.frozen? ⟨bt,0,U⟩=xw:=Yd<|(d.block bt ZdP).trans<|(ZeR _ _ _ h).trans B.out;have k2:w1.cell? ⟨f,0,U⟩=J (.slice (J ⟨g,o,U⟩) (I shs) cap):=(d.cell (p:=⟨f,0,U⟩) ZdP).trans<|(Zgd _ _ _ n).trans O;have k3:w1.cell? ⟨g,o+t*2,U⟩=J (.int .i64 x.1):=(d.cell (p:=⟨g,o+t*2,U⟩) ZdP).trans<|(Zgd _ _ _ D).trans P;have k4:w1.cell? ⟨g,o+t*2+1,U⟩=J (.int .i64 x.2):=(d.cell (p:=⟨g,o+t*2+1,U⟩) ZdP).trans<|(Zgd _ _ _ D).trans d1;have r0:w1.heap[xz<|xj w]?=J (.cells #[.int .i64 0,.int .i64 0] 43 (0,0)):=(d.block _ Z1).trans<|Zf5 w _;have X:w1.cell? ⟨xz<|xj w,0,U⟩=J (.int .i64 0):=by rw[ZeU _ _ _ _ _ _ r0];rfl
               have Y:w1.cell? ⟨xz<|xj w,1,U⟩=J (.int .i64 0):=by rw[ZeU _ _ _ _ _ _ r0];rfl
               have y0:=Yd (o:=0) r0;have y1:=Yd (o:=1) r0;have T:¬xz (xj w)=bt:=Z0;have W:¬bt=xz (xj w):=Z0;have Z:=ZeP r0;clear d r0)
  have j:Below (xz<|xj w) w w1:=((Zf3 _ w).alloc (ZeQ _)<|.cells #[.int .i64 0,.int .i64 0] 43).trans<|z.out.mono Z1;have S:w1.heap[bt]?=J (.cells #[.int .i64 t] 3 (0,0)):=(j.block bt h).trans B.out;refine Zfp (v:=.agg #[.int .i64 x.1,.int .i64 x.2]) ?_ rfl ⟨rfl,⟨j.os,j.tape,j.output,?_,λk Q u=> ?_⟩,?_⟩
  .simp[results,Try.results98,go_sem,X,Y,T,W]
  simp[World.setCell];exact j.size;have A:k≠bt:=λe=>u (by rw[e]);rw[Zf4 _ _ _ _ ZdN,Zf4 _ _ _ _ ZdN,Zf4 _ _ _ _ A];exact j.block k Q;simp_all[Zf4,World.setCell,Zfm]
 grind
end Vm
namespace Vm
open Go Go.Proofs Go.RowKit
def Z0B(w:World)(f:FuncId)(vs:Array Value)(ws:List Int)(g o cap:Nat)(q:Words w ws g o cap)(O:g<xz (xj w))(a:Nat)(x:Int)(hx:ws[a]?=J x)(y:¬(adr x).2=0):
  Calls Sol.prog 103 #[.slice (J ⟨g,o,U⟩) (I ws) cap,.int .i64 a,.func (.func f) #[] vs] w λe Q=>e=SO a x/\Below (xz<|xj w) w Q:=by
 have hl:=q.len;have hc:=q.le;have hm:=q.cap;have P:a<I ws:=(ZeM.1 hx).1;have C:(a:Int)<I ws:=Z0;have r:ZC x:=q.u64 x<|ZeW hx;have F:=q.aa a x hx;have B:∀W,Below (xz<|xj w) w W->W.cell? ⟨g,o+a,U⟩=J (.int .u64 x):=λW M=>(M.cell (p:=⟨g,o+a,U⟩) O).trans F;have n:SO a x=if(ZT x).2.2=0 then .returned (WI ⟨a,(ZT x).1,(ZT x).2.1,xw,0⟩)else .panicked<|Vq 3:=rfl
 generalize SO a x=E at*;have A:=ZeP B;have N:=λW=>Bq W f vs;have D:((adr x).2=0)=False:=Zhm y;clear q hx B;by_cases u:(ZT x).2.2=0
 .rw[if_pos u]at n;have t:=ZeP n;clear n;go_enter Sol.func103,Try.ntmps103
  go_wp2_with (first
   |(go_at_call 58;refine(U8 r _).mono ?_;rintro e w1 ⟨rfl,h⟩;have d:=ZeP h;have G:=A.out w1<|((((Zf3 _ w).alloc (ZeQ _) _).alloc (by simp) _).trans<|h.mono (by simp;omega));clear h)
   | (go_at_call 64;refine(JL r _).mono ?_;rintro e w2 ⟨rfl,j⟩;have k:=ZeP j
      have L:=d.out.block;have r0:w2.heap[xz<|xj w]?=J (.cells #[.int .i64 0,.int .i64 0,.int .i64 0,.bool xw,.int .u64 0] 120 (0,0)):=(j.block _ Zen).trans<|(d.out.block _ ZdP).trans<|(ZeR _ _ _ Z1).trans<|Zf5 w _;have z:w2.heap[xz (xj w)+1]?=J (.cells #[.int .i64 a,.int .i64 0,.int .i64 0,.bool xw,.int .u64 0] 120 (0,0)):=(j.block _ Zen).trans<|(d.out.block _ Z1).trans ZdT;obtain⟨⟨R,S,T,X,Y⟩,y0,y1,y2,y3,y4⟩:=qG r0<|.cells #[.int .i64 (ZT x).1,.int .i64 (ZT x).2.1] 43;obtain⟨⟨p0,p1,p2,p3,p4⟩,q0,q1,q2,q3,q4⟩:=qG z<|.cells #[.int .i64 (ZT x).1,.int .i64 (ZT x).2.1] 43;have Z:=ZeP<|And.intro r0 z;clear j L r0 z))
  refine Zfp (v:=WI ⟨a,(ZT x).1,(ZT x).2.1,xw,0⟩) ?_ rfl ⟨t.out.symm,?_⟩
  .simp[results,Try.results103,go_sem,WI,R,S,T,X,Y]
  have l:=(((Zf3 _ w).alloc (ZeQ _)<|.cells #[.int .i64 0,.int .i64 0,.int .i64 0,.bool xw,.int .u64 0] 120).alloc Z1<|.cells #[.int .i64 a,.int .i64 0,.int .i64 0,.bool xw,.int .u64 0] 120).trans<|d.out.mono ZdP;have K:=(l.trans<|k.out.mono (by have:=l.size;omega)).alloc (by have:=l.size;have:=k.out.size;omega)<|.cells #[.int .i64 (ZT x).1,.int .i64 (ZT x).2.1] 43;exact((((((K.setCell (p:=⟨xz (xj w)+1,1,U⟩) Z1 _).setCell (p:=⟨xz (xj w)+1,2,U⟩) Z1 _).setCell (p:=⟨xz<|xj w,0,U⟩) (ZeQ _) _).setCell (p:=⟨xz<|xj w,1,U⟩) (ZeQ _) _).setCell (p:=⟨xz<|xj w,2,U⟩) (ZeQ _) _).setCell (p:=⟨xz<|xj w,3,U⟩) (ZeQ _) _).setCell (p:=⟨xz<|xj w,4,U⟩) (ZeQ _) _
 .rw[if_neg u]at n;have t:=ZeP n;clear n;have H:((ZT x).2.2=0)=False:=Zhm u;go_enter Sol.func103,Try.ntmps103
  go_wp2_with (first
   |(go_at_call 58;refine(U8 r _).mono ?_;rintro e w1 ⟨rfl,h⟩;have d:=ZeP h;have G:=A.out w1<|((((Zf3 _ w).alloc (ZeQ _) _).alloc (by simp) _).trans<|h.mono (by simp;omega));clear h)
   |(go_at_call 64;refine(JL r _).mono ?_;rintro e w2 ⟨rfl,j⟩;have k:=ZeP j;clear j))
  refine⟨rfl,t.out.symm,?_⟩;have l:=(((Zf3 _ w).alloc (ZeQ _)<|.cells #[.int .i64 0,.int .i64 0,.int .i64 0,.bool xw,.int .u64 0] 120).alloc Z1<|.cells #[.int .i64 a,.int .i64 0,.int .i64 0,.bool xw,.int .u64 0] 120).trans<|d.out.mono ZdP;exact(l.trans<|k.out.mono (by have:=l.size;omega)).alloc (by have:=l.size;have:=k.out.size;omega) _
def EK(w:World)(vs:Array Value)(ws:List Int)(g o cap:Nat)(h:Words w ws g o cap)(G:g<xz (xj w))(a:Nat)(x:Int)(hx:ws[a]?=J x)(A:(adr x).2=0)
  (d:∀W,Below (xz<|xj w) w W->Calls Sol.prog 98 vs W λe W'=>e=.panicked (Vq 3)/\Below (xz<|xj W) W W'):
  Calls Sol.prog 103 #[.slice (J ⟨g,o,U⟩) (I ws) cap,.int .i64 a,.func (.func 98) #[] vs] w λe C=>e=.panicked (Vq 3)/\Below (xz<|xj w) w C:=by
 have H:=h.len;have F:=h.le;have K:=h.cap;have z:a<I ws:=(ZeM.1 hx).1;have t:(a:Int)<I ws:=Z0;have B:ZC x:=h.u64 x<|ZeW hx;have D:=h.aa a x hx;have y:=λW=>Bq W 98 vs;have u:=ZeP d;clear h hx d;go_enter Sol.func103,Try.ntmps103
 go_wp2_with (first
  | (go_at_call 58;refine(U8 B _).mono ?_;rintro e w1 ⟨rfl,f⟩
     have r:Below (xz<|xj w) w w1:=((((Zf3 _ w).alloc (ZeQ _) _).alloc Z1 _).trans<|f.mono ZdP);have k:w1.heap[xz (xj w)+1]?=J (.cells #[.int .i64 a,.int .i64 0,.int .i64 0,.bool xw,.int .u64 0] 120 (0,0)):=(f.block _ Z1).trans ZdT;have p3:w1.cell? ⟨xz (xj w)+1,3,U⟩=J (.bool xw):=by rw[ZeU _ _ _ _ _ _ k];rfl
     have p4:w1.cell? ⟨xz (xj w)+1,4,U⟩=J (.int .u64 0):=by rw[ZeU _ _ _ _ _ _ k];rfl
     have L:=Yd (o:=3) k;have M:=Yd (o:=4) k;have n:=ZeP r;clear f r k)
  |(go_at_call 98;refine(u.out _ ?_).mono ?_;rotate_left;rintro e w2 ⟨rfl,j⟩;have l:=ZeP j;clear j))
 case refine_1=>exact(n.out.setCell (p:=⟨xz (xj w)+1,3,U⟩) Z1 _).setCell (p:=⟨xz (xj w)+1,4,U⟩) Z1 _
 case refine_2=>
  have q:=(n.out.setCell (p:=⟨xz (xj w)+1,3,U⟩) Z1<|.bool xk).setCell (p:=⟨xz (xj w)+1,4,U⟩) Z1<|.int .u64 (adr x).1;exact⟨rfl,rfl,q.trans<|l.out.mono q.size⟩
theorem Z24{w W:World}{r}(h:w.grownBy W r){p}(f:xz (xj w)<=p.block)u:w.grownBy (W.setCell p u) r:=
 ⟨h.os,h.tape,h.output,by simpa[World.setCell]using h.size,λk d a=>(Zf4 _ _ _ _ Z0).trans<|h.block k d a⟩
def Z0z(w:World)(vs:Array Value)(ws:List Int)(g o cap:Nat)(r:Words w ws g o cap)(hg:g<xz (xj w))(a:Nat)(x:Int)(hx:ws[a]?=J x)(Q:(adr x).2=0)
  (bt:Nat) (O:Obj) (s p:Int) (L:bt<xz (xj w))
  (f:∀W,Below (xz<|xj w) w W->Calls Sol.prog 98 vs W λe W'=>e=.returned (.agg #[.int .i64 s,.int .i64 p])/\W.grownBy W' (J bt)/\W'.heap[bt]?=J O):
  Calls Sol.prog 103 #[.slice (J ⟨g,o,U⟩) (I ws) cap,.int .i64 a,.func (.func 98) #[] vs] w λe H=>e=.returned (WI ⟨a,s,p,xk,(adr x).1⟩)/\w.grownBy H (J bt)/\H.heap[bt]?=J O:=by
 have hl:=r.len;have hc:=r.le;have hm:=r.cap;have P:a<I ws:=(ZeM.1 hx).1;have G:(a:Int)<I ws:=Z0;have R:ZC x:=r.u64 x<|ZeW hx;have c0:=r.aa a x hx;have M:=λW=>Bq W 98 vs;have K:=ZeP f;clear r hx f;go_enter Sol.func103,Try.ntmps103
 go_wp2_with (first
  | (go_at_call 58;refine(U8 R _).mono ?_;rintro e w1 ⟨rfl,j⟩
     have D:Below (xz<|xj w) w w1:=((((Zf3 _ w).alloc (ZeQ _) _).alloc Z1 _).trans<|j.mono ZdP);have t:w1.heap[xz (xj w)+1]?=J (.cells #[.int .i64 a,.int .i64 0,.int .i64 0,.bool xw,.int .u64 0] 120 (0,0)):=(j.block _ Z1).trans ZdT;have p3:w1.cell? ⟨xz (xj w)+1,3,U⟩=J (.bool xw):=by rw[ZeU _ _ _ _ _ _ t];rfl
     have p4:w1.cell? ⟨xz (xj w)+1,4,U⟩=J (.int .u64 0):=by rw[ZeU _ _ _ _ _ _ t];rfl
     have q3:=Yd (o:=3) t;have q4:=Yd (o:=4) t;have r0:w1.heap[xz<|xj w]?=J (.cells #[.int .i64 0,.int .i64 0,.int .i64 0,.bool xw,.int .u64 0] 120 (0,0)):=(j.block _ ZdP).trans<|(ZeR _ _ _ Z1).trans<|Zf5 w _;have z:=ZeP<|And.intro r0 t;have C:=ZeP D;clear j D r0 t)
  | (go_at_call 98;refine(K.out _ ?_).mono ?_;rotate_left;rintro e w2 ⟨rfl,l,u⟩
     have d:=ZeP l;have A:=ZeP u;have n:w2.heap[xz (xj w)+1]?=J (.cells #[.int .i64 a,.int .i64 0,.int .i64 0,.bool xk,.int .u64 (adr x).1] 120 (0,0)):=(l.block _ (by simp[World.setCell];exact Y9 z.out.2) ZdP).trans (by simp[World.setCell,Zfm,z.out.2]);have h:w2.heap[xz<|xj w]?=J (.cells #[.int .i64 0,.int .i64 0,.int .i64 0,.bool xw,.int .u64 0] 120 (0,0)):=(l.block _ (by simp[World.setCell];exact Y9 z.out.1) ZdP).trans (by simp[World.setCell,Zfm,z.out.1]);have s0:w2.cell? ⟨xz (xj w)+1,0,U⟩=J (.int .i64 a):=Zee;have s1:w2.cell? ⟨xz (xj w)+1,1,U⟩=J (.int .i64 0):=Zee;have s2:w2.cell? ⟨xz (xj w)+1,2,U⟩=J (.int .i64 0):=Zee;have s3:w2.cell? ⟨xz (xj w)+1,3,U⟩=J (.bool xk):=Zee;have s4:w2.cell? ⟨xz (xj w)+1,4,U⟩=J (.int .u64 (adr x).1):=Zee;have S:w2.cell? ⟨xz<|xj w,0,U⟩=J (.int .i64 0):=Zed;have T:w2.cell? ⟨xz<|xj w,1,U⟩=J (.int .i64 0):=Zed;have X:w2.cell? ⟨xz<|xj w,2,U⟩=J (.int .i64 0):=Zed;have Y:w2.cell? ⟨xz<|xj w,3,U⟩=J (.bool xw):=Zed;have Z:w2.cell? ⟨xz<|xj w,4,U⟩=J (.int .u64 0):=Zed;have u1:=Yd (o:=1) n;have u2:=Yd (o:=2) n;have v0:=Yd (o:=0) h;have v1:=Yd (o:=1) h;have v2:=Yd (o:=2) h;have v3:=Yd (o:=3) h;have v4:=Yd (o:=4) h;clear l u h n))
 case refine_1=>exact(C.out.setCell (p:=⟨xz (xj w)+1,3,U⟩) Z1 _).setCell (p:=⟨xz (xj w)+1,4,U⟩) Z1 _
 next=>
  have q:=(C.out.setCell (p:=⟨xz (xj w)+1,3,U⟩) Z1<|.bool xk).setCell (p:=⟨xz (xj w)+1,4,U⟩) Z1<|.int .u64 (adr x).1;have N:w.grownBy w2<|J bt:=⟨d.out.os.trans q.os,d.out.tape.trans q.tape,d.out.output.trans q.output,Zff q.size d.out.size,λk F B=>(d.out.block k (ZeV F q.size) B).trans<|q.block k F⟩;have k1:bt≠xz (xj w)+1:=Z0;have y:bt≠xz (xj w):=Z0;clear q;refine Zfp (v:=WI ⟨a,s,p,xk,(adr x).1⟩) ?_ rfl ⟨rfl,?_,?_⟩
  .simp[results,Try.results103,go_sem,WI,S,T,X,Y,Z]
  grind [Z24];rw[Zf4 _ _ _ _ y,Zf4 _ _ _ _ y,Zf4 _ _ _ _ y,Zf4 _ _ _ _ y,Zf4 _ _ _ _ y,Zf4 _ _ _ _ k1,Zf4 _ _ _ _ k1];exact A.out
end Vm
namespace Vm
open Go Go.Proofs Go.RowKit Go.Shelf
def UL(W:World)(bl:Nat):Option Nat:=(W.cell? ⟨bl,0,U⟩).bind Value.ownBlock
structure KpW (bl base:Nat) (A B:World):Prop where
 size:xz (xj A)<=xz (xj B)
 same:∀k o,A.heap[k]?=J o->o.isCells=xk->k≠bl->(k<base\/UL A bl≠J k)->B.heap[k]?=J o
 row:∀k,k<xz (xj A)->UL B bl=J k->UL A bl=J k
theorem KpW.trans{bl base A B C}(h:KpW bl base A B)(k:KpW bl base B C):KpW bl base A C:=
 ⟨Zff h.size k.size,λi o a g j d=>k.same i o (h.same i o a g j d) g j (d.imp id λf e=>f<|h.row i ZdN e),λi a d=>h.row i a<|k.row i (ZeV a h.size) d⟩
theorem KpW.put{bl base W l o}d(j:W.heap[l]?=J o)(n:o.isCells=xw)(g:bl≠l):KpW bl base W<|W.putObj l d:=by
 have a:(W.putObj l d).cell? ⟨bl,0,U⟩=W.cell? ⟨bl,0,U⟩:=ZfC<|Zfq Z0;refine⟨Z1,λk q h f _ _=> ?_,λk _ p=> ?_⟩;grind [World.putObj_heap_other];simp_all[UL]
def LT(ws:List Int)(g o cap:Nat)(gv:Value)(shs:List<|Int×Int)(old:Bool)(bt:Option Nat)(K:Nat->World->Prop):Prop:=
 ∀(W:World) (a t:Nat) (x:Int),Words W ws g o cap->g<xz (xj W)->K t W->ws[a]?=J x->
  Calls Sol.prog 103 #[.slice (J ⟨g,o,U⟩) (I ws) cap,.int .i64 a,gv] W λe W'=>W.grownBy W' bt/\match Wi shs old a t x with
   |some (d,f)=>e=.returned (WI d)/\K f W'
   |none=>e=.panicked (Vq 3)
def zu(ws:List Int)(shs:List<|Int×Int)(old:Bool)(K:Nat->World->Prop)(xs:List Ob)(W:World):Prop:=
 ∃t,K t W/\ZP ws shs old=(if t<(I shs) then([],3)else(xs,0))
def Z1m(ws:List Int)(shs:List<|Int×Int)(old:Bool)(chain:List PanicEntry)(pre:List Ob)(W:World):Prop:=
 ∃e,(e=2\/e=3)/\chain=Vq e/\ZP ws shs old=([],e)
structure Stat6 (ws:List Int) (g o cap:Nat) (sv:Value) (bw bg base bl:Nat) (bt:Option Nat) (gv:Value) (W:World):Prop where
 words:Words W ws g o cap
 ve:sv=.slice (J ⟨g,o,U⟩) (I ws) cap\/(ws=[]/\∃a c,sv=.slice a 0 c)
 su:W.heap[bw]?=J (.cells #[sv] 28 (0,0))
 uy:W.heap[bg]?=J (.cells #[gv] 168 (0,0))
 gb:ws≠[]->∃ob,W.heap[g]?=J ob/\ob.isCells=xk
 lt:g<base/\bw<base/\bg<base/\base<=xz (xj W)
 ne:g≠bl/\bw≠bl/\bg≠bl
 nt:J g≠bt/\J bw≠bt/\J bg≠bt
section
variable {ws:List Int}{g o cap bw bg base bl:Nat}{bt:Option Nat}{sv gv:Value}{W W':World}
theorem Stat6.of(h:Stat6 ws g o cap sv bw bg base bl bt gv W)(n:xz (xj W)<=xz (xj W'))(d:∀k a,W.heap[k]?=J a->a.isCells=xk->k<base->k≠bl->J k≠bt->W'.heap[k]?=J a):Stat6 ws g o cap sv bw bg base bl bt gv W':=by
 refine⟨⟨λi x p=> ?_,h.words.le,h.words.cap,h.words.len,h.words.u64⟩,h.ve,d _ _ h.su rfl h.lt.2.1 h.ne.2.1 h.nt.2.1,d _ _ h.uy rfl h.lt.2.2.1 h.ne.2.2 h.nt.2.2,λj=> ?_,⟨h.lt.1,h.lt.2.1,h.lt.2.2.1,Zff h.lt.2.2.2 n⟩,h.ne,h.nt⟩;have j:ws≠[]:=ZdN;let⟨a,l,f⟩:=h.gb j;have q:=d _ _ l f h.lt.1 h.ne.1 h.nt.1;rw[<-h.words.aa i x p];grind [World.cell?_of_block];let⟨a,l,f⟩:=h.gb j;exact⟨a,d _ _ l f h.lt.1 h.ne.1 h.nt.1,f⟩
def Stat6.grown(h:Stat6 ws g o cap sv bw bg base bl bt gv W)(a:W.grownBy W' bt):=
 h.of a.size λk j d _ _ _ f=>(a.block k ZdN f).trans d
def Stat6.kp(h:Stat6 ws g o cap sv bw bg base bl bt gv W)(f:KpW bl base W W'):=
 h.of f.size λk n a j l d _=>f.same k n a j d Z0
end
def UX{W W'}(a:Below (xz<|xj W) W W')r:W.grownBy W' r:=⟨a.os,a.tape,a.output,a.size,λk d _=>a.block k d⟩
def Z0x{ws g o cap}:LT ws g o cap .nilFunc [] xw U (λt _=>t=0):=by
 intro W a t x h f k j;refine(Z0A W ws g o cap h f a x j).mono ?_;rintro e W' ⟨rfl,d⟩;refine⟨UX d U,?_⟩;unfold Wi SO;grind
def Shps.grown{W W' shs d v r}(h:Shps W shs d v)(j:W.grownBy W' r)(f:J d≠r)(p:shs≠[]->∀g o cap,v=.slice (J ⟨g,o,U⟩) (I shs) cap->J g≠r):Shps W' shs d v:=by
 refine⟨(j.block _ (Y9 h.box) f).trans h.box,?_⟩;obtain⟨g,o,cap,rfl,l,n,k,q⟩|⟨a,cap,rfl,rfl⟩:=h.val;refine .inl ⟨g,o,cap,rfl,l,n,ZeV k j.size,λi x u=> ?_⟩;have t:=j.block g k ZdN;grind [World.cell?_of_block];simp
def KOld(shs:List<|Int×Int)(bt a:Nat)(v:Value)(t:Nat)(W:World):Prop:=W.heap[bt]?=J (.cells #[.int .i64 t] 3 (0,0))/\Shps W shs a v/\t<=I shs
def Z0y{ws:List Int}{g o cap:Nat}{shs:List (Int×Int)}{bt k:Nat}{v:Value}(B:I shs<=1000000)(n:k≠bt)(q:shs≠[]->∀g o cap,v=.slice (J ⟨g,o,U⟩) (I shs) cap->g≠bt):
  LT ws g o cap (.func (.func 98) #[] #[.pointer<|J ⟨bt,0,U⟩,.pointer<|J ⟨k,0,U⟩]) shs xk (J bt) (KOld shs bt k v):=by
 intro W a t x y w F z;obtain⟨A,D,M⟩:=F;have p:J k≠J bt:=λe=>n ZdN;have r:shs≠[]->∀g o cap,v=.slice (J ⟨g,o,U⟩) (I shs) cap->J g≠J bt:=λL g o cap e O=>q L g o cap e ZdN;have h:∀W',Below (xz<|xj W) W W'->Shps W' shs k v:=λW' d=>D.grown (UX d U) Z1 (λ_ _ _ _ _=>Z1);have f:∀W',Below (xz<|xj W) W W'->W'.heap[bt]?=J (.cells #[.int .i64 t] 3 (0,0)):=λW' d=>(d.block _<|Y9 A).trans A;by_cases l:(adr x).2=0;unfold Wi;rw[if_pos ⟨rfl,l⟩];cases j:shs[t]? with
 |none=>
  have:t=I shs:=by have:=ZgV.1 j;omega
  subst this;refine(EK W _ ws g o cap y w a x z l λW' d=>Z21 W' shs bt k v B (h W' d)<|f W' d).mono ?_;rintro e W' ⟨rfl,d⟩;exact⟨UX d _,rfl⟩
 |some s=>
  simp only;cases u:YA s.1 s.2;refine(EK W _ ws g o cap y w a x z l λW' d=>Z20 W' shs bt k t v s B (h W' d) (f W' d) j u).mono ?_;rintro e W' ⟨rfl,d⟩;exact⟨UX d _,Z1⟩;refine(Z0z W _ ws g o cap y w a x z l bt _ s.1 s.2 (Y9 A) λW' d=>Z22 W' shs bt k t v s B (h W' d) (f W' d) j u n<|q<|λe=>ZdO).mono ?_;rintro e W' ⟨rfl,C,G⟩;have K:=(ZeM.1 j).1;refine⟨C,?_⟩;simp only[ZfF];exact⟨trivial,G,D.grown C p r,Z0⟩
 refine(Z0B W _ _ ws g o cap y w a x z l).mono ?_;rintro e W' ⟨rfl,d⟩;refine⟨UX d _,?_⟩;unfold Wi SO;rw[if_neg (λH=>l H.2)];by_cases N:(ZT x).2.2=0;simp only[N,ZfF];exact⟨trivial,f W' d,h W' d,M⟩;simp_all
end Vm
end
section
namespace Vm
open Go Go.Proofs Go.RowKit Go.Shelf
def E5(a:Nat)(W:World):Prop:=∀k,UL W a=J k->k<xz (xj W)
def Sa{A B C:World}{r}(h:A.grownBy B r)(k:B.grownBy C r):A.grownBy C r:=
 ⟨k.os.trans h.os,k.tape.trans h.tape,k.output.trans h.output,Zff h.size k.size,λi a d=>(k.block i (ZeV a h.size) d).trans<|h.block i a d⟩
def Z8W ws shs old{a t g x d}(hx:ws[a]?=J x)(h:Wi shs old a t x=J (d,g)){f pre}:
  Xl ws shs old (f+1) a t pre=if(I ws:Int)<a+1+d.size then([],2)else if XM ((ws.drop<|a+1).take d.size.toNat) d.gone d.M 0=xw then([],3)else Xl ws shs old f (a+1+d.size.toNat) g (pre++[d]):=by
 simp_all[Xl]
def Z1j(n:Nat){w:World}{ws:List Int}{g o cap bw bg base z:Nat}{bt:Option Nat}{sv gv:Value}{shs:List (Int×Int)}{old:Bool}{K:Nat->World->Prop}(e2:Stat6 ws g o cap sv bw bg base z bt gv w)
  (f3:z<base) (b2:J z≠bt) (a9:LT ws g o cap gv shs old bt K) (d8:K 0 w) (a6:∀t W W',K t W->Below (xz<|xj W) W W'->K t W') (d9:∀t W W',K t W->KpW z base W W'->K t W'):
  E6 Fence.wide n Sol.prog 102 #[.pointer<|J ⟨bw,0,U⟩,.pointer<|J ⟨bg,0,U⟩] (λd:Ob=> #[WI d]) (KpW z base) (zu ws shs old K) (Z1m ws shs old) (I ws) bt (E5 z) w:=by
 intro l h W hW d7 hJ hY h0;refine callsIn_of_wp Sol.func102 rfl trivial ?_ rfl;simp only[Try.ntmps102,Zgc,Zg0,ZfU,Nat.reduceAdd,Nat.reduceSub,Zgz,ZgA,Zh1,ZgG,ZfE,Zg6];have d5:=ZeP<|e2.grown<|UX hW bt;have b9:=ZeP<|a6 0 w W d8 hW;have b7:=ZeP h0;clear h0;gi_wp2
 gi_loopw [4] (λp wr=>∃(a t f:Nat) (pre:List Ob),p=.int .i64 a/\Hid (h pre wr/\K t wr/\Stat6 ws g o cap sv bw bg base z bt gv wr/\I ws<f+a/\0<f/\a<=I ws/\I pre<=a/\ZP ws shs old=Xl ws shs old f a t pre))
  (λp _=>I ws- (intOf p).toNat)
 case atStart=>exact⟨0,0,I ws+1,[],rfl,ZeP ⟨b7.out,b9.out,d5.out,Z0,Z0,Z0,Z1,rfl⟩⟩
 case round=>
  obtain⟨a,t,f,pre,rfl,j⟩:=hrel;have k:=j.out.2.2.1;have a1:=k.ve;have c1:wr.cell? ⟨bw,0,U⟩=J sv:=by rw[ZeU _ _ _ _ _ _ k.su];rfl
  have c2:wr.cell? ⟨bg,0,U⟩=J gv:=by rw[ZeU _ _ _ _ _ _ k.uy];rfl
  have e4:=k.words.len;clear k;by_cases b1:a<I ws
  .obtain⟨x,hx⟩:∃x,ws[a]?=J x:=⟨_,ZeL b1⟩;obtain rfl:sv=.slice (J ⟨g,o,U⟩) (I ws) cap:=a1.resolve_right (λh=>ZdO);clear a1;have e5:((a:Int)<I ws)=True:=Zhi Z0;have hb:=a9 wr a t x j.out.2.2.1.words (by have:=j.out.2.2.1.lt;omega) j.out.2.1 hx;cases ho:Wi shs old a t x with
   |none=>
    rw[ho]at hb;have HX:=ZeP hb;clear hb;gi_wp2
    refine⟨trivial,λh=>Ze2,(ZgQ.2 HX.out).mono ?_⟩;rintro e w1 ⟨y,rfl⟩;have H:=ZeP y;clear y;gi_wp2
    refine⟨rfl,.inr ⟨_,pre,rfl,⟨3,.inr rfl,rfl,?_⟩,hJ _ _ _ _ j.out.1 H.out<|λr e=>e.symm⟩⟩;obtain⟨_,_,_,hf,N,_,_,L⟩:=j.out;cases f with
    |zero=>omega
    |succ f=>
     simp_all[Xl]
   |some q=>
    obtain⟨d,t'⟩:=q;rw[ho]at hb;have HX:=ZeP hb;clear hb;obtain⟨a0,B⟩:=yM ho;gi_wp2
    refine⟨trivial,λh=>Ze2,(ZgQ.2 HX.out).mono ?_⟩;rintro e w1 ⟨y,rfl,b0⟩;have H:=ZeP y;have c0:=ZeP b0;have M:=j.out.2.2.1.grown y;have f0:=ZeP M;have e1:∀O,(w1.alloc O).cell? ⟨bw,0,U⟩=J (.slice (J ⟨g,o,U⟩) (I ws) cap):=λO=>by
     rw[Zgd _ _ _<|Y9 M.su,ZeU _ _ _ _ _ _ M.su];rfl
    have Z:wr.grownBy (w1.alloc<|.cells #[.int .i64 a,.int .i64 d.size,.int .i64 d.M,.bool d.gone,.int .u64 d.target] 120) bt:=Sa y<|Zg4 _ _ _;have a8:=ZeP<|j.out.2.2.1.grown Z;have hh:=Z2c (w1.alloc<|.cells #[.int .i64 a,.int .i64 d.size,.int .i64 d.M,.bool d.gone,.int .u64 d.target] 120) ws g o cap a8.out.words (by have:=a8.out.lt;omega) d a B b1 a0;unfold WI at hh;rw[B]at hh;have b5:=ZeP Z;have R:=ZeP hh;have G:∀f pre,Xl ws shs old (f+1) a t pre=_:=λf pre=>Z8W ws shs old hx ho (f:=f) (pre:=pre);have S:=ZeP G;clear y b0 M Z hh G hx;unfold WI;gi_wp2
    refine⟨trivial,λh=>Ze2,(ZgQ.2 R.out).mono ?_⟩;rintro e w2 ⟨rfl,C⟩;have A:wr.grownBy w2 bt:=Sa b5.out<|UX C bt;have Q:=ZeP A;have b3:=ZeP C;unfold zU;by_cases T:(I ws:Int)<d.aa+1+d.size
    .rw[if_pos T];rw[B]at T;clear C A;gi_wp2
     refine⟨rfl,.inr ⟨_,pre,rfl,⟨2,.inl rfl,rfl,?_⟩,hJ _ _ _ _ j.out.1 Q.out<|λr e=>e.symm⟩⟩;obtain⟨_,_,_,hf,N,_,_,L⟩:=j.out;obtain⟨f,rfl⟩:∃f',f=f'+1:=⟨f-1,Z0⟩;rw[L,S.out,if_pos T]
    .rw[if_neg T];by_cases X:XM ((ws.drop<|d.aa.toNat+1).take d.size.toNat) d.gone d.M 0=xw
     .rw[if_pos X];rw[B]at T X;clear C A;gi_wp2
      refine⟨rfl,.inr ⟨_,pre,rfl,⟨3,.inr rfl,rfl,?_⟩,hJ _ _ _ _ j.out.1 Q.out<|λr e=>e.symm⟩⟩;obtain⟨_,_,_,hf,N,_,_,L⟩:=j.out;obtain⟨f,rfl⟩:∃f',f=f'+1:=⟨f-1,Z0⟩;rw[L,S.out,if_neg Z0];simp_all
     .rw[if_neg X];rw[B]at T X;simp only[Zf2]at X;have b6:=ZeP<|And.intro T X;have Y:=hJ _ _ _ _ j.out.1 A (λr e=>e.symm);have e8:=ZeP Y;have d6:=ZeP<|j.out.2.2.1.grown A;have u:w2.heap[xz<|xj w1]?=J (.cells #[.int .i64 a,.int .i64 d.size,.int .i64 d.M,.bool d.gone,.int .u64 d.target] 120 (0,0)):=(C.block _ Z1).trans<|Zf5 w1 _;have b4:=ZeP u;obtain⟨fn,e7,assign,e3,hy,L⟩:=hY pre d w2 Y (by have:=j.out.2.2.2.2.2.2.1;omega);unfold WI at hy;rw[B]at hy;have d0:w2.cell? ⟨xz<|xj w1,0,U⟩=J (.int .i64 a):=Zef;have d1:w2.cell? ⟨xz<|xj w1,1,U⟩=J (.int .i64 d.size):=Zef;have d2:w2.cell? ⟨xz<|xj w1,2,U⟩=J (.int .i64 d.M):=Zef;have d3:w2.cell? ⟨xz<|xj w1,3,U⟩=J (.bool d.gone):=Zef;have d4:w2.cell? ⟨xz<|xj w1,4,U⟩=J (.int .u64 d.target):=Zef;clear C A Y u;gi_wp2
      refine⟨λh=>Ze2,L.mono ?_⟩;rintro e W3 ⟨rfl,a3,D⟩;have b8:=ZeP a3;have e9:=ZeP D;have F:UL w2 z≠J (xz<|xj w1):=by
       intro e;have e0:z<xz (xj wr):=by have:=j.out.2.2.1.lt.2.2.2;omega
       have:UL w2 z=UL wr z:=by
        unfold UL;rw[ZfC (a:=⟨z,0,U⟩)<|Q.out.block z e0 b2]
       rw[this]at e;have:=d7 _ _ j.out.1 _ e;have:=H.out.size;omega
      have P:=D.same _ _ b4.out rfl (by have:=j.out.2.2.1.lt.2.2.2;have:=H.out.size;omega)<|.inr F;have f1:W3.cell? ⟨xz<|xj w1,1,U⟩=J (.int .i64 d.size):=by rw[ZeU _ _ _ _ _ _ P];rfl
      have a7:=d6.out.kp D;have a4:K t' w2:=a6 _ _ _ c0.out<|((Zf3 _ _).alloc (ZeQ _) _).trans<|b3.out.mono Z1;have a5:=d9 _ _ _ a4 D;have a2:=ZeP<|And.intro a7 a5;obtain⟨m,hm⟩:∃m:Nat,d.size=m:=⟨d.size.toNat,by have:=(YB.1 a0).1;omega⟩;rw[hm]at f1;have f5:(m:Int)<=255:=by have:=(YB.1 a0);omega
      have q1:IntKind.i64.wrap (1+(m:Int))=((1+m:Nat):Int):=Ze0;have q2:IntKind.i64.wrap ((a:Int)+((1+m:Nat):Int))=((a+(1+m):Nat):Int):=Ze0;clear a3 D P a7 a4 a5 F;clear X;gi_wp2
      obtain⟨_,_,_,hf,N,f2,f6,L⟩:=j.out;obtain⟨f,rfl⟩:∃f',f=f'+1:=⟨f-1,Z0⟩;rw[S.out,if_neg Z0,if_neg b6.out.2]at L;have f4:a+1+m<=I ws:=Z0;refine⟨⟨a+(1+m),t',f,pre++[d],Z1,ZeP ⟨b8.out,a2.out.2,a2.out.1,Z0,Z0,Z0,ZdP,?_⟩⟩,by grind [intOf]⟩;grind
  .have e6:((a:Int)<I ws)=False:=Zhm Z0
   have HE:Hid<|zu ws shs old K pre wr:=ZeP (by
    obtain⟨_,hK,_,hf,N,_,_,L⟩:=j.out;refine⟨t,hK,?_⟩;cases f with
    |zero=>omega
    |succ f=>
     simp_all[Xl,ZfP])
   obtain⟨sa,sc,rfl⟩:∃sa sc,sv=.slice sa (I ws) sc:=by
    grind
   clear a1;gi_wp2
   go_end0
   exact .inl ⟨_,pre,rfl,HE.out,j.out.1⟩
end Vm
namespace Vm
open Go Go.Proofs Go.RowKit Go.Shelf
def Z1k(w:World)(g d:Value)(k:∃a n c,g=.slice a n c)(h:d=.nilFunc\/∃f vs,d=.func (.func f) #[] vs):
  Calls Sol.prog 101 #[g,d] w λe l=>e=.returned (.func (.func 102) #[] #[.pointer<|J ⟨xz<|xj w,0,U⟩,.pointer<|J ⟨xz (xj w)+1,0,U⟩])/\
   l=(w.alloc<|.cells #[g] 28).alloc (.cells #[d] 168):=by
 have j:∀(fn:Go.Fn) (first cap:Array Value) (w:World),(Instr.makeFunc fn first cap).run Sol.prog w=.ok (.func fn first cap) w:=λ_ _ _ _=>rfl;obtain⟨a,n,c,rfl⟩:=k;obtain rfl|⟨f,vs,rfl⟩:=h
 .go_enter Sol.func101,Try.ntmps101;go_wp2;exact Zfp (results_tmp rfl _ _ _) rfl ⟨rfl,rfl⟩
 .go_enter Sol.func101,Try.ntmps101;go_wp2;exact Zfp (results_tmp rfl _ _ _) rfl ⟨rfl,rfl⟩
def Z4u w:Sem.run Sol.prog (binOp .neq 20 .nilIface .nilIface) w=.ok (.bool xw) w:=ZeF
def Z4v w T v:Sem.run Sol.prog (binOp .neq 20 (.iface T v) .nilIface) w=.ok (.bool xk) w:=ZeF
def Z8z(w:World)(x:Int):Sem.run Sol.prog (Instr.typeAssert (.iface 167<|.agg #[.int .i64 x]) 20 167 xk) w=.ok (.tuple #[.agg #[.int .i64 x],.bool xk]) w:=ZeF
def Z11(n:Nat)(p q:Addr)(w:World):
  CallsDIn Fence.wide n Sol.prog 100 #[.pointer<|J p,.pointer<|J q] .returning w λe f g=>e=.returned (.tuple #[])/\f=.returning/\g=w:=by
 have j:=Z4u;refine callsDIn_of_wpSIn Sol.func100 rfl trivial λa h d=> ?_;simp only[Try.ntmps100,Zgc,Zg0,ZfU,Nat.reduceAdd,Nat.reduceSub,Zgz,ZgA,Zh1,ZgG,ZfE,Zg6];apply wpSIn_seq;apply wpSIn_region;simp[wpOpsSIn,go_sem,recoverD,d,Exit.thenS];refine wpSIn_of_wpIn rfl ?_;gi_wp2
 cases a;simp_all [bodyPostS,results,Try.results100]
def Z12(n:Nat)(a d:Nat)(x:Int)(w:World)(z l:Value)(f:Boxed w a 110 z)(g:Boxed w d 34 l)(h:a≠d):
  CallsDIn Fence.wide n Sol.prog 100 #[.pointer<|J ⟨a,0,U⟩,.pointer<|J ⟨d,0,U⟩] (.panicking<|Vq x) w λe y j=>
   e=.returned (.tuple #[])/\y=.panicking [{v:=.iface 167<|.agg #[.int .i64 x],recovered:=xk}]/\
   Boxed j a 110 (.slice U 0 0)/\Boxed j d 34 (.int .i64 x)/\(xz (xj w)<=xz (xj j)/\∀k,k<xz (xj w)->k≠a->k≠d->j.heap[k]?=w.heap[k]?)/\j.os=w.os/\j.tape=w.tape/\j.output=w.output:=by
 have C:=Z4v;have D:=Z8z;have P:=(f.alloc<|.cells #[.int .i64 x] 167).cell;have p2:=(f.alloc<|.cells #[.int .i64 x] 167).frozen;have Q:=(g.alloc<|.cells #[.int .i64 x] 167).cell;have R:=(g.alloc<|.cells #[.int .i64 x] 167).frozen;have p3:=f.cell;have p4:=f.frozen;have S:=g.cell;have T:=g.frozen;have H:=f.lt;have K:=g.lt;have t:¬a=d:=h;have u:¬d=a:=λe=>h e.symm;have L:¬a=xz (xj w):=Z0;have M:¬xz (xj w)=a:=Z0;have N:¬d=xz (xj w):=Z0;have O:¬xz (xj w)=d:=Z0;have o:=ZeP<|And.intro f g;clear f g h;refine callsDIn_of_wpSIn Sol.func100 rfl trivial λB A r=> ?_;simp only[Try.ntmps100,Zgc,Zg0,ZfU,Nat.reduceAdd,Nat.reduceSub,Zgz,ZgA,Zh1,ZgG,ZfE,Zg6];apply wpSIn_seq;apply wpSIn_region;simp[wpOpsSIn,go_sem,recoverD,r,Vq,Exit.thenS];refine wpSIn_of_wpIn rfl ?_;gi_wp2
 gi_region
 all_goals gi_wp2
 obtain⟨f,g⟩:=o.out;have p:Boxed ((w.setCell ⟨a,0,U⟩<|.slice U 0 0).setCell ⟨d,0,U⟩<|.int .i64 x) a 110<|.slice U 0 0:=(Zf4 _ ⟨d,0,U⟩ _ a t).trans<|f.set _;have q:Boxed ((w.setCell ⟨a,0,U⟩<|.slice U 0 0).setCell ⟨d,0,U⟩<|.int .i64 x) d 34<|.int .i64 x:=Boxed.set _ (show Boxed (w.setCell ⟨a,0,U⟩<|.slice U 0 0) d 34 l from(Zf4 _ ⟨a,0,U⟩ _ d u).trans g);refine⟨rfl,_,rfl,_,by simp[results,Try.results100],rfl,rfl,p.alloc _,q.alloc _,⟨?_,λk F k1 G=> ?_⟩,rfl,rfl,rfl⟩;simp;show(World.alloc _ _).heap[k]?=_;grind [Below.heap_alloc,World.setCell,Below.heap_setCell]
end Vm
namespace Vm
open Go Go.Proofs Go.RowKit Go.Shelf
def TH(a:Ob):List Value:=[.int .i64 a.aa,.int .i64 a.size,.int .i64 a.M,.bool a.gone,.int .u64 a.target]
def WO(l:List Ob):List Value:=l.flatMap TH
def Z4M l x:WO (l++[x])=WO l++TH x:=by simp[WO]
structure WIv (w:World) (bt:Option Nat) (pre:List Ob) (W:World):Prop where
 row:∃v,Boxed W (xz<|xj w) 110 v/\W.ownsRow (xz (xj w)+4) 120 5 v (I pre) (WO pre)
 e:Boxed W (xz (xj w)+1) 34<|.int .i64 0
 gr:w.grownBy W bt
 size:xz (xj w)+4<=xz (xj W)
def UY{w X Y:World}{bt row}(h:w.grownBy X bt)(k:X.grownBy Y row)(f:∀r,row=J r->J r=bt\/xz (xj w)<=r):w.grownBy Y bt:=
 ⟨k.os.trans h.os,k.tape.trans h.tape,k.output.trans h.output,Zff h.size k.size,λi a d=>
  (k.block i (ZeV a h.size) ZdN).trans (h.block i a d)⟩
theorem qH{W b t v}(h:Boxed W b t v):UL W b=v.ownBlock:=by
 unfold UL;rw[h.cell];rfl
def WIv.tp{w bt pre W}(h:WIv w bt pre W):E5 (xz<|xj w) W:=by
 let⟨v,f,d⟩:=h.row;intro k a;rw[qH f]at a;exact(d.lt k a).2
def WIv.own{w bt}(u:∀r,bt=J r->r<xz (xj w)):OwnP bt (xz (xj w)+4)<|WIv w bt:=by
 intro s X Y row h d p;have y:∀k,xz (xj w)<=k->k<xz (xj w)+4->J k≠row:=by
  intro k t A e;obtain j|⟨j,_⟩:=p k e.symm;grind;omega
 let⟨v,z,a⟩:=h.row;refine⟨⟨v,z.kept d ZdO,a.kept d ?_⟩,h.e.kept d ZdO,UY h.gr d λr e=>ZdN,Zff h.size d.size⟩;cases l:v.ownBlock with
 |none=>simp
 |some b=>
  refine .inr λe=> ?_;have t:=a.lt b l;obtain j|⟨_,o,n,x⟩:=p b e.symm;grind;obtain⟨rfl,_⟩|⟨g,cap,q,rfl,_,f,_⟩:=a.2;simp[Value.ownBlock]at l;obtain rfl:g=b:=by grind [Value.ownBlock]
  rw[f]at n;cases n;cases x
def WIv.appended{w W w1:World}{bt:Option Nat}{pre:List Ob}{x:Ob}{v v':Value}{tmp:Obj}(C:∀r,bt=J r->r<xz (xj w))(h:WIv w bt pre W)(A:Boxed W (xz<|xj w) 110 v)
  (g:W.ownsRow (xz (xj w)+4) 120 5 v (I pre)<|WO pre) (d:w1.ownsRow (xz (xj w)+4) 120 5 v' (I pre+1)<|WO pre++TH x)
  (a:(W.alloc tmp).grownBy w1 v.ownBlock) (f:v'.ownBlock=v.ownBlock\/v'.ownBlock=J (xz<|xj<|W.alloc tmp)):
  Boxed w1 (xz<|xj w) 110 v/\KeepsFrom (xz (xj w)+4) W (w1.setCell ⟨xz<|xj w,0,U⟩ v')/\KpW (xz<|xj w) (xz (xj w)+4) W (w1.setCell ⟨xz<|xj w,0,U⟩ v')/\WIv w bt (pre++[x]) (w1.setCell ⟨xz<|xj w,0,U⟩ v'):=by
 have u:=h.size;obtain⟨y,l,F,j,B⟩:=A.appended Ze4 (yZ g (B':=xz<|xj w) Z0) Z0 (ZeQ _) (yZ d (B':=xz<|xj w) Z0) a;have z:∀b,v.ownBlock=J b->xz (xj w)+4<=b:=λb p=>(g.lt b p).1
 have t:(w1.setCell ⟨xz<|xj w,0,U⟩ v').ownsRow (xz (xj w)+4) 120 5 v' (I pre+1)<|WO pre++TH x:=d.kept (Zh7 w1 (xz<|xj w) v') (by
  cases p:v'.ownBlock with
  |none=>simp
  |some b=>exact .inr λe=>by have G:=(d.lt b p).1;grind)
 refine⟨y,j.from _,⟨j.size,λk o n H D K=> ?_,λk n e=> ?_⟩,⟨v',l,?_⟩,?_,?_,Zff u j.size⟩;rw[Zf4 _ _ _ _ D,a.block k (by have:=Y9 n;simp;omega) (λe=> ?_),ZeR _ _ _<|Y9 n,n];grind [qH,trans];rw[qH l]at e;rw[qH A];obtain f|f:=f;simp_all;rw[f]at e;simp at e;omega;simp_all[Zfx,Z4M];have q:Boxed w1 (xz (xj w)+1) 34<|.int .i64 0:=(h.e.alloc tmp).kept a (λe=>ZdN);exact(Zf4 _ _ _ _ Z1).trans q;refine UY (UY (UY h.gr (Zg4 W tmp U) Z1) a λr e=>.inr ?_) (Zh7 w1 (xz<|xj w) v') λr e=>.inr ?_;grind;simp_all
def KpW.alloc{a base W}o(d:a<xz (xj W)):KpW a base W<|W.alloc o:=by
 refine⟨Z1,λk h f _ _ _=>(ZeR _ _ _ ZdN).trans f,λk _ g=> ?_⟩;simp_all[UL,Zgd]
end Vm
namespace Vm
open Go Go.Proofs Go.RowKit Go.Shelf
attribute [local go_sem] Oper.semAt_some
def Z3q:(Sol.prog.info? 120).map (λi=>(i.zero,i.size,i.bytes))=J (J<|.agg #[.int .i64 0,.int .i64 0,.int .i64 0,.bool xw,.int .u64 0],5,40):=Z2
def unO:Sol.prog.underlying 110=J (.slice 120):=Z2
def Z16(w:World)a b c d e t:∀j u,[a,b,c,d,e][j]?=J u->(w.alloc<|.cells #[a,b,c,d,e] t).cell? ((⟨xz<|xj w,0,U⟩:Addr).add j)=J u:=by
 intro j u h;have:=ZeU _ _ j _ _ _<|Zf5 w<|.cells #[a,b,c,d,e] t;grind [Addr.add]
def Eb(w:World)(ws:List Int)(shs:List<|Int×Int)(old:Bool)(bt:Option Nat)(K:Nat->World->Prop)(e:Ending)(W:World):Prop:=
 ∃v n a,e=.returned (.tuple #[v,.int .i64 n])/\w.grownBy W bt/\W.ownsRow (xz (xj w)+4) 120 5 v (I a) (WO a)/\((n=0/\zu ws shs old K a W)\/((n=2\/n=3)/\a=[]/\ZP ws shs old=([],n)))
def P0{w:World}{ws:List Int}{g o cap:Nat}{bt:Option Nat}{p j:Value}{shs:List (Int×Int)}{old:Bool}{K:Nat->World->Prop}(hw:Words w ws g o cap)
  (b5:p=.slice (J ⟨g,o,U⟩) (I ws) cap\/(ws=[]/\∃a c,p=.slice a 0 c)) (hg:(ws≠[]->g<xz (xj w))/\g<xz (xj w)+4/\g≠xz (xj w)) (d7:j=.nilFunc\/∃f vs,j=.func (.func f) #[] vs)
  (a0:∀r,bt=J r->r<xz (xj w)) (d6:J g≠bt) (a6:LT ws g o cap j shs old bt K) (b6:K 0 w)
  (z:∀t A B row,K t A->A.grownBy B row->(∀r,row=J r->xz (xj w)<=r)->K t B)
  (b8:∀bl base t A B,xz (xj w)<=bl->xz (xj w)<=base->K t A->KpW bl base A B->K t B):
  Calls Sol.prog 97 #[p,j] w (Eb w ws shs old bt K):=by
 refine(ZgQ (n:=5)).1 ?_;have g4:∀(fn:Go.Fn) (first cap:Array Value) (w:World),(Instr.makeFunc fn first cap).run Sol.prog w=.ok (.func fn first cap) w:=λ_ _ _ _=>rfl;have e7:∃a n c,p=.slice a n c:=by
  obtain rfl|⟨_,a,c,rfl⟩:=b5;simp;simp
 refine callsIn_of_wp_marks Sol.func97 rfl trivial ?_ rfl;simp only[Try.ntmps97,Zgc,Zg0,ZfU,Nat.reduceAdd,Nat.reduceSub,Zgz,ZgA,Zh1,ZgG,ZfE,Zg6];have he:=λW=>Z1k W p j e7 d7;gi_wp2
 refine⟨trivial,(ZgQ.2<|he _).mono ?_⟩;rintro e w1 ⟨rfl,rfl⟩;gi_wp2
 have a2:∀b:Nat,b<xz (xj w)->((((w.alloc<|Obj.cells #[.slice U 0 0] 110).alloc<|.cells #[.int .i64 0] 34).alloc<|.cells #[p] 28).alloc<|.cells #[j] 168).heap[b]?=w.heap[b]? :=λb hb=>by
  grind [Below.heap_alloc]
 have b0:Boxed ((((w.alloc<|Obj.cells #[.slice U 0 0] 110).alloc<|.cells #[.int .i64 0] 34).alloc<|.cells #[p] 28).alloc<|.cells #[j] 168) (xz<|xj w) 110<|.slice U 0 0:=(((Boxed.new w _ _).alloc _).alloc _).alloc _;have b1:Boxed ((((w.alloc<|Obj.cells #[.slice U 0 0] 110).alloc<|.cells #[.int .i64 0] 34).alloc<|.cells #[p] 28).alloc<|.cells #[j] 168) (xz (xj w)+1) 34<|.int .i64 0:=by
  have:=((Boxed.new (w.alloc<|Obj.cells #[.slice U 0 0] 110) 34<|.int .i64 0).alloc<|.cells #[p] 28).alloc<|.cells #[j] 168;rwa[ZgN]at this
 have b2:Boxed ((((w.alloc<|Obj.cells #[.slice U 0 0] 110).alloc<|.cells #[.int .i64 0] 34).alloc<|.cells #[p] 28).alloc<|.cells #[j] 168) (xz (xj w)+2) 28 p:=by
  have:=(Boxed.new ((w.alloc<|Obj.cells #[.slice U 0 0] 110).alloc<|.cells #[.int .i64 0] 34) 28 p).alloc<|.cells #[j] 168;simp_all
 have b3:Boxed ((((w.alloc<|Obj.cells #[.slice U 0 0] 110).alloc<|.cells #[.int .i64 0] 34).alloc<|.cells #[p] 28).alloc<|.cells #[j] 168) (xz (xj w)+3) 168 j:=by
  have:=Boxed.new (((w.alloc<|Obj.cells #[.slice U 0 0] 110).alloc<|.cells #[.int .i64 0] 34).alloc<|.cells #[p] 28) 168 j;simp_all
 have L:w.grownBy ((((w.alloc<|Obj.cells #[.slice U 0 0] 110).alloc<|.cells #[.int .i64 0] 34).alloc<|.cells #[p] 28).alloc<|.cells #[j] 168) bt:=⟨rfl,rfl,rfl,ZdP,λk hk _=>a2 k hk⟩;have P:xz (xj<|(((w.alloc<|Obj.cells #[.slice U 0 0] 110).alloc<|.cells #[.int .i64 0] 34).alloc<|.cells #[p] 28).alloc<|.cells #[j] 168)=xz (xj w)+4:=Z1;generalize f8:(((w.alloc<|Obj.cells #[.slice U 0 0] 110).alloc<|.cells #[.int .i64 0] 34).alloc<|.cells #[p] 28).alloc (.cells #[j] 168)=W0 at*;have e8:Stat6 ws g o cap p (xz (xj w)+2) (xz (xj w)+3) (xz (xj w)+4) (xz<|xj w) bt j W0:=by
  refine⟨⟨λi x F=> ?_,hw.le,hw.cap,hw.len,hw.u64⟩,b5,b2,b3,λhn=> ?_,⟨Z0,Z0,Z0,Z0⟩,⟨Z0,Z0,Z0⟩,d6,?_,?_⟩;rw[<-hw.aa i x F];grind [World.cell?_of_block];obtain⟨x,F⟩:∃x,ws[0]?=J x:=by cases ws with|nil=>simp_all|cons x l=>simp
  have:=hw.aa 0 x F;rw[a2 g<|hg.1 hn];unfold World.cell? at this;cases hh:w.heap[g]? with
  |none=>simp_all
  |some ob=>
   refine⟨ob,rfl,?_⟩;grind [Obj.isCells]
  grind;grind
 have a5:K 0 W0:=z 0 w W0 U b6 ⟨L.os,L.tape,L.output,L.size,λk hk _=>a2 k hk⟩ Z1;have b4:=Z1j 4 e8 Z0 (λe=>ZdN) a6 a5 (λt A B hA O=>z t A B U hA ⟨O.os,O.tape,O.output,O.size,λk hk _=>O.block k hk⟩ Z1) (λt A B hA O=>b8 _ _ t A B (ZeQ _) Z0 hA O)
 refine Z97 rfl Z0 (gf:=102) (lb:=#[.pointer<|J ⟨xz (xj w)+2,0,U⟩,.pointer<|J ⟨xz (xj w)+3,0,U⟩]) rfl trivial (enters_of Sol.func102 Z2 rfl)
  b4 (λr e=>ZdN) KpW.trans (λW l o o' h1 h2 h3 _=>KpW.put o' h2 h3 Z0) (Zf3 _ _) (λ_=>rfl)
  (WIv w bt) (P▸WIv.own a0) (λpre W h=>h.tp) ⟨⟨_,b0,Zg8 _ _ _ _⟩,b1,L,Z0⟩ ?hS
  (λx a' W=>∃y,xz (xj w)+4<=y/\W.heap[y]?=J (.cells #[.int .i64 x.aa,.int .i64 x.size,.int .i64 x.M,.bool x.gone,.int .u64 x.target] 120 (0,0))/\
   a'= {tmps:=#[p,j,undef,undef,.pointer<|J ⟨xz<|xj w,0,U⟩,.pointer<|J ⟨xz (xj w)+1,0,U⟩,.pointer<|J ⟨y,0,U⟩,
    .func (.func 100) #[] #[.pointer<|J ⟨xz<|xj w,0,U⟩,.pointer<|J ⟨xz (xj w)+1,0,U⟩],p,j,.func (.func 102) #[] #[.pointer<|J ⟨xz (xj w)+2,0,U⟩,.pointer<|J ⟨xz (xj w)+3,0,U⟩],WI x,undef,undef,undef,undef,undef],defers:=[]})
  ?hAx ?assign ?body ?done ?panic
 case hS=>
  rintro u X Y row ⟨t,hK,hR⟩ M d;exact⟨t,z t X Y row hK M λr e=>(d r e).elim (λe2=>by cases e2) (λe2=>Z0),hR⟩
 case hAx=>
  rintro x a' s X Y row ⟨y,O,F,ha⟩ M d;refine⟨y,O,(M.block y (Y9 F) λe=> ?_).trans F,ha⟩;obtain e2|⟨_,o2,h2,h3⟩:=d y e.symm;cases e2;rw[F]at h2;cases h2;cases h3
 case assign=>
  rintro l pre x W K2 q b7;simp only[List.zip_cons_cons,Array.zip,WI];gi_wp2
  exact b7 _ _ ((KeepsOthers.alloc W _).from _) (KpW.alloc _ (by have:=q.size;omega)) ((WIv.own a0).alloc _ q) ⟨xz<|xj W,q.size,Zf5 W _,rfl⟩
 case body=>
  rintro l pre x a' W q ⟨y,f7,F,rfl⟩ a8;obtain⟨v,Q,d⟩:=q.row;obtain⟨i0,d8,e9,f2,f3⟩:=info_parts Z3q;obtain⟨G,H,rfl⟩:=Yi d;have c1:=Q.cell;have c2:=Q.frozen;have d0:W.cell? ⟨y,0,U⟩=J (.int .i64 x.aa):=Zec;have d1:W.cell? ⟨y,1,U⟩=J (.int .i64 x.size):=Zec;have d2:W.cell? ⟨y,2,U⟩=J (.int .i64 x.M):=Zec;have d3:W.cell? ⟨y,3,U⟩=J (.bool x.gone):=Zec;have d4:W.cell? ⟨y,4,U⟩=J (.int .u64 x.target):=Zec;have g5:I pre<=1000000:=Zff (Nat.le_of_lt a8) hw.len;have f6:=q.size;have HA:=λtmp w1 v'=>WIv.appended (W:=W) (w1:=w1) (x:=x) (v':=v') (tmp:=tmp) a0 q Q d;gi_wp2_with (gi_at_builtin;refine wpListIn_append_own_at _ rfl _ _ 110 rfl (xz (xj w)+4) 120 i0 _ 5 40 unO d8 e9 f2 f3 rfl Ze4 _ _ _ rfl (d.alloc _) ⟨xz<|xj W,0,U⟩ 1 1 (TH x) rfl rfl (Z16 _ _ _ _ _ _ _) (by simp[TH,Value.oneCell']) (by grind [maxLen]) Z0 ZdP ?_;intro v' w1 N a1 _ c0;obtain⟨g',f5,rfl⟩:=ownsRow_succ N;obtain⟨e1,e2,e3,e4⟩:=HA _ _ _ N a1 c0;have e5:=e1.cell;have e6:=e1.frozen)
  rw[P];exact⟨e2,e3,e4⟩
 case done=>
  rintro D u W hD hS q Z;obtain⟨v,Q,d⟩:=q.row;obtain⟨G,H,rfl⟩:=Yi d;have c1:=Q.cell;have c2:=Q.frozen;have c3:=q.e.cell;have c4:=q.e.frozen;rw[P]at hD;gi_wp2
  have a4:((W.setCell ⟨xz<|xj w,0,U⟩<|.slice G (I u) H).setCell ⟨xz (xj w)+1,0,U⟩<|.int .i64 0).heap[D]?=J (.deferred<|J []):=by
   rw[Zf4 _ _ _ _ ZdN,Zf4 _ _ _ _ ZdN];exact Z
  have f0:Boxed ((W.setCell ⟨xz<|xj w,0,U⟩<|.slice G (I u) H).setCell ⟨xz (xj w)+1,0,U⟩<|.int .i64 0) (xz<|xj w) 110<|.slice G (I u) H:=
   (Zf4 _ _ _ _ Z1).trans (Q.set _)
  have f1:Boxed ((W.setCell ⟨xz<|xj w,0,U⟩<|.slice G (I u) H).setCell ⟨xz (xj w)+1,0,U⟩<|.int .i64 0) (xz (xj w)+1) 34<|.int .i64 0:=
   Boxed.set _ (show Boxed (W.setCell ⟨xz<|xj w,0,U⟩<|.slice G (I u) H) (xz (xj w)+1) 34 (.int .i64 0)from(Zf4 _ _ _ _ Z1).trans q.e)
  have g1:=Zh7 W (xz<|xj w)<|.slice G (I u) H;have g2:=Zh7 (W.setCell ⟨xz<|xj w,0,U⟩<|.slice G (I u) H) (xz (xj w)+1)<|.int .i64 0;have R:=d.lt
  have r2:=(d.kept g1 (by
   cases hb:(Value.slice G (I u) H).ownBlock with
   |none=>simp
   |some b=>exact .inr λe=>by have:=(R b hb).1;grind)).kept g2 (by
   cases hb:(Value.slice G (I u) H).ownBlock with
   |none=>simp
   |some b=>exact .inr λe=>by have:=(R b hb).1;grind)
  generalize f9:(W.setCell ⟨xz<|xj w,0,U⟩<|.slice G (I u) H).setCell ⟨xz (xj w)+1,0,U⟩ (.int .i64 0)=W2 at*;have g3:=ZhD W2 D<|.deferred U;have S:Boxed (W2.putObj D<|.deferred U) (xz<|xj w) 110<|.slice G (I u) H:=(Zfq Z0).trans f0;have T:Boxed (W2.putObj D<|.deferred U) (xz (xj w)+1) 34<|.int .i64 0:=(Zfq Z0).trans f1;have k0:=S.cell;have k1:=T.cell;refine⟨Z1,.inl ⟨D,_,rfl,ZhX a4,?_⟩⟩;refine⟨Z1,.inr ⟨λh=>Ze2,.func 100,_,100, #[.pointer<|J ⟨xz<|xj w,0,U⟩,.pointer<|J ⟨xz (xj w)+1,0,U⟩],rfl,ZeF,λ_ _=>trivial,?_⟩⟩;refine(Z11 _ _ _ _).mono ?_;rintro e u' f4 ⟨rfl,rfl,rfl⟩;refine⟨.tuple #[.slice G (I u) H,.int .i64 0],by simp[results,Try.results97,go_sem,k0,k1],?_⟩;obtain⟨t,hK,hR⟩:=hS;refine⟨_,0,u,rfl,UY (UY (UY q.gr g1 λr e=>.inr ?_) g2 λr e=>.inr ?_) g3 λr e=>.inr ?_,ownsRow_putObj r2 _ a4 rfl,.inl ⟨rfl,t,z t _ _ _ (z t _ _ _ (z t _ _ _ hK g1 λr e=> ?_) g2 λr e=> ?_) g3 λr e=> ?_,hR⟩⟩;all_goals (grind)
 case panic=>
  rintro D chain pre W hD ⟨e,d5,rfl,b9⟩ q Z;rw[P]at hD;obtain⟨v,Q,d⟩:=q.row;have g3:=ZhD W D<|.deferred U;have S:Boxed (W.putObj D<|.deferred U) (xz<|xj w) 110 v:=(Zfq Z0).trans Q;have T:Boxed (W.putObj D<|.deferred U) (xz (xj w)+1) 34<|.int .i64 0:=(Zfq Z0).trans q.e;have C:w.grownBy (W.putObj D<|.deferred U) bt:=UY q.gr g3 λr e=>.inr ZdN;refine⟨Z1,.inl ⟨D,_,rfl,ZhX Z,?_⟩⟩;refine⟨Z1,.inr ⟨λh=>Ze2,.func 100,_,100, #[.pointer<|J ⟨xz<|xj w,0,U⟩,.pointer<|J ⟨xz (xj w)+1,0,U⟩],rfl,ZeF,λ_ _=>trivial,?_⟩⟩;refine(Z12 _ (xz<|xj w) (xz (xj w)+1) e _ _ _ S T Z0).mono ?_;rintro e' u' f4 ⟨rfl,rfl,h0,h1,⟨e0,hk⟩,d9,a3,a9⟩;have k0:=h0.cell;have k1:=h1.cell;refine⟨.tuple #[.slice U 0 0,.int .i64 e],by simp[results,Try.results97,go_sem,k0,k1],?_⟩;refine⟨_,e,[],rfl,⟨d9.trans C.os,a3.trans C.tape,a9.trans C.output,Zff C.size e0,λk a7 hn=> ?_⟩,Zg8 _ _ _ _,.inr ⟨d5,rfl,b9⟩⟩;exact(hk k (ZeV a7 C.size) Z0 Z0).trans (C.block k a7 hn)
end Vm
namespace Vm
open Go Go.Proofs Go.RowKit Go.Shelf
theorem Sq{w G k n v}(r:Rd w G (.int k n) v):v=.int k n:=by cases r;rfl
theorem N8{w G b v}(r:Rd w G (.bool b) v):v=.bool b:=by cases r;rfl
def P7{w G ws v}(r:Rd w G (.sl<|ws.map vu) v)(B:∀b,G b->b<xz (xj w))(u:I ws<=1000000)(y:∀x∈ws,ZC x)q:
  ∃g o cap,Words w ws g o cap/\(v=.slice (J ⟨g,o,U⟩) (I ws) cap\/(ws=[]/\∃a c,v=.slice a 0 c))/\((ws≠[]->g<xz (xj w))/\(g<(xz<|xj w)\/g=q)):=by
 generalize p:ws.map vu=L at r;cases r with
 |nil a cap C=>
  have:ws=[]:=ZdO;subst this;exact⟨q,0,0,⟨Z1,Z1,ZdN,Z1,Z1⟩,Z1,Z1,.inr rfl⟩
 |sl _ b o cap k vs d l A f h n=>
  subst p;simp only[Zfc]at d h⊢;refine⟨b,o,cap,⟨λi x z=> ?_,d,l,u,y⟩,.inl rfl,ZdO,ZdO⟩;have j:(ws.map vu)[i]?=J (vu x):=by rw[Zfa,z];rfl
  have t:k=1:=((f _<|ZeW j).1).symm;subst t;have D:i<I ws:=ZdN;rw[h i Z0];have:=n i (vu x) (by have:=VN f j 0 Z0;simp_all);rw[Sq this]
def Z7S{w G shs v}(r:Rd w G (.sl<|shs.map Wa) v)(q:∀b,G b->b<xz (xj w)):
  (∃g o cap,v=.slice (J ⟨g,o,U⟩) (I shs) cap/\I shs<=cap/\cap<=maxLen/\g<xz (xj w)/\∀i x,shs[i]?=J x->w.cell? ⟨g,o+i*2,U⟩=J (.int .i64 x.1)/\w.cell? ⟨g,o+i*2+1,U⟩=J (.int .i64 x.2))\/
  (∃a cap,v=.slice a 0 cap/\shs=[]):=by
 generalize t:shs.map Wa=L at r;cases r with
 |nil a cap A=>
  simp_all
 |sl _ b o cap k vs h l n d p j=>
  subst t;simp only[Zfc]at h p⊢;refine .inl ⟨b,o,cap,rfl,h,l,q b n,λi x u=> ?_⟩;have f:(shs.map Wa)[i]?=J (Wa x):=by rw[Zfa,u];rfl
  have C:k=2:=((d _<|ZeW f).1).symm;have B:i<I shs:=ZdN;have y:=j (i*2) (vi x.1) (by have:=VN d f 0 Z0;simp_all);have z:=j (i*2+1) (vi x.2) (by have:=VN d f 1 Z0;simp_all);grind [Sq,Nat.add_assoc]
def Ij{w G}:∀l i c,(flat<|l.map ZO)[i]?=J c->Rd w G c ((WO l).getD i undef)
 | [],i,c,h=>ZdO
 |x::l,i,c,h=>by
  rw[Zfi,RV]at h;have e:WO (x::l)=TH x++WO l:=by simp[WO]
  by_cases d:i<5
  match i,d with
  |0,_=>simp at h;subst h;exact .int _ _
  |1,_=>simp at h;subst h;exact .int _ _
  |2,_=>simp at h;subst h;exact .int _ _
  |3,_=>simp at h;subst h;exact .bool _
  |4,_=>simp at h;subst h;exact .int _ _
  have a:(flat<|l.map ZO)[i-5]?=J c:=by
   rw[Zf9 ZdO]at h;simpa[ZO,V.cells]using h
  have:=Ij (w:=w) (G:=G) l _ c a;have f:(TH x++WO l).getD i undef=(WO l).getD (i-5) undef:=by
   simp[List.getD_eq_getElem?_getD];rw[Zf9 (by grind [TH])];simp[TH]
  simp_all
def Z4N(l:List Ob):∀x∈l.map ZO,V.aw 5 x:=by
 intro x a;obtain⟨o,_,rfl⟩:=Zf8.1 a;exact⟨rfl,Z1⟩
def Ik{w G B e v l}(h:w.ownsRow B e 5 v (I l)<|WO l)(q:∀c,B<=c->c<xz (xj w)->G c):Rd w G (.sl<|l.map ZO) v:=by
 have a:=h.1;obtain⟨rfl,p⟩|⟨g,cap,j,rfl,r,t,o,d,_⟩:=h.2;have:l=[]:=ZdO;subst this;exact .nil _ _ ZdN
 have:=Rd.sl (w:=w) (G:=G) _ g 0 cap 5 (λi=>(WO l).getD i undef) ZdO d ZdN (Z4N l) (λi n=>by
   have f:i< I (WO l):=by rw[a];simpa using n
   rw[Zfy,h.cellAt i Z0];simp[f]) (λi c k=>Ij l i c k)
 simp_all
def Z8X{ws shs old K n xs W}(a:shs=[])(h:(n=0/\zu ws shs old K xs W)\/((n=2\/n=3)/\xs=[]/\ZP ws shs old=([],n))):ZP ws shs old=(xs,n):=by
 obtain⟨rfl,t,_,h⟩|⟨_,rfl,h⟩:=h;simp_all;exact h
def jv:RF:=by
 intro W O P;refine⟨Z2,λw G vs L p q=> ?_⟩;have r0:=q 0 _ rfl;obtain⟨⟨l⟩⟩:=vs;simp at p;rename_i v0 l;cases l with
 |cons _ _=>simp at p
 |nil=>
  simp at r0;obtain⟨g,o,cap,C,k,x,N⟩:=P7 r0 L O P<|xz (xj w)+1;have z:=P0 (w:=w) (shs:=[]) (old:=xw) (bt:=U) (K:=λt _=>t=0) C k ⟨x,Z0,Z0⟩ (.inl rfl) Z1 Z1 Z0x rfl (λt A B row h _ _=>h) (λQ base t A B _ _ h _=>h);obtain⟨S,T,sc,rfl⟩:∃a n c,v0=.slice a n c:=by
   obtain rfl|⟨_,a,c,rfl⟩:=k;simp;simp
  have D:=ZeP z;clear z C k r0 q;go_enter Sol.func84,Try.ntmps84;go_wp2_with (go_at_call 97;refine D.out.mono ?_;rintro e w1 ⟨v,n,X,rfl,f,d,u⟩;have F:=ZeP<|And.intro f<|And.intro d u;clear f d u)
  obtain⟨f,d,u⟩:=F.out;have M:=Z8X rfl u;refine Zfp (v:=.tuple #[v,.int .i64 n]) (by simp[results,Try.results84,go_sem]) rfl ⟨_,rfl,(Zf3 _ w).grown f (ZeQ _) (λj e=>by cases e),?_⟩;rw[M];refine .am _ _ rfl ?_;intro i y r
  match i,r with
  |0,r=>cases r;exact Ik d λc R H=>.inr ⟨Z0,H⟩
  |1,r=>cases r;exact .int _ _
def KpW.cell{j base A B}(h:KpW j base A B){k i c}(hc:A.cell? ⟨k,i,U⟩=J c)(n:k<base)(l:k≠j):B.cell? ⟨k,i,U⟩=J c:=by
 unfold World.cell? at hc;cases d:A.heap[k]? with
 |none=>simp_all
 |some g=>
  have f:g.isCells=xk:=by
   rw[d]at hc;cases g<;>simp_all [Obj.isCells]
  rw[<-hc];exact ZfC (a:=⟨k,i,U⟩)<|(h.same k g d f l Z0).trans d.symm
def KOld.grown{shs bt a t n v A B row}(h:KOld shs bt a v t A)(d:A.grownBy B row)(p:bt<n)(l:a<n)(u:shs≠[]->∀g o cap,v=.slice (J ⟨g,o,U⟩) (I shs) cap->g<n)(q:∀r,row=J r->n<=r):KOld shs bt a v t B:=by
 let⟨f,j,k⟩:=h;exact⟨(d.block _ ZdN ZdN).trans f,j.grown d ZdN ZdN,k⟩
def KOld.kp{shs bt d t n j base v A B}(h:KOld shs bt d v t A)(a:KpW j base A B)(u:bt<n)(r:d<n)(w:shs≠[]->∀g o cap,v=.slice (J ⟨g,o,U⟩) (I shs) cap->g<n)(D:n<=j)(h2:n<=base):KOld shs bt d v t B:=by
 let⟨k1,⟨y,z⟩,C⟩:=h;refine⟨a.same _ _ k1 rfl Z0 Z0,⟨a.same _ _ y rfl Z0 Z0,?_⟩,C⟩;obtain⟨g,o,cap,rfl,l,p,q,f⟩|h:=z;refine .inl ⟨g,o,cap,rfl,l,p,ZeV q a.size,λi x k=> ?_⟩;have:=w (λe=>ZdO) _ _ _ rfl;exact⟨a.cell (f i x k).1 Z0 Z0,a.cell (f i x k).2 Z0 Z0⟩;simp_all
def Words.rj{w W ws g o cap}(h:Words w ws g o cap)(f:ws≠[]->g<xz (xj w))(a:Below (xz<|xj w) w W):Words W ws g o cap:=
 ⟨λi x d=>by rw[a.cell (p:=⟨g,o+i,U⟩) ZdN];exact h.aa i x d,h.le,h.cap,h.len,h.u64⟩
def ju:RG:=by
 intro C d hl a7 hu b2;refine⟨Z2,λw G vs hG N P=> ?_⟩;have r0:=P 0 _ rfl;have r1:=P 1 _ rfl;obtain⟨⟨l⟩⟩:=vs;simp at N;rename_i v0 l;cases l with
 |nil=>simp at N
 |cons v1 l=>
 cases l with
 |cons _ _=>simp at N
 |nil=>
  simp at r0 r1;obtain⟨g,o,cap,hw,M,R,a0⟩:=P7 r0 hG hl hu<|xz (xj w)+3;have O:=Z7S r1 hG;obtain⟨sa,sn,sc,rfl⟩:∃a n c,v0=.slice a n c:=by
   obtain rfl|⟨_,a,c,rfl⟩:=M;simp;simp
  obtain⟨k,q,rfl⟩:∃a c,v1=.slice a (I d) c:=by
   grind
  have b0:((w.alloc<|.cells #[.slice k (I d) q] 156).alloc<|.cells #[.int .i64 0] 3).heap[xz<|xj w]?=J (.cells #[.slice k (I d) q] 156 (0,0)):=(ZeR _ _ _ Z1).trans<|Zf5 w _;have b1:((w.alloc<|.cells #[.slice k (I d) q] 156).alloc<|.cells #[.int .i64 0] 3).heap[xz (xj w)+1]?=J (.cells #[.int .i64 0] 3 (0,0)):=by
   have:=Zf5 (w.alloc<|.cells #[.slice k (I d) q] 156)<|.cells #[.int .i64 0] 3;simp_all
  have z:Below (xz<|xj w) w<|(w.alloc<|.cells #[.slice k (I d) q] 156).alloc<|.cells #[.int .i64 0] 3:=((Zf3 _ w).alloc (ZeQ _) _).alloc Z1 _;have L:xz (xj<|(w.alloc<|.cells #[.slice k (I d) q] 156).alloc<|.cells #[.int .i64 0] 3)=xz (xj w)+2:=Z1;have a5:d≠[]->∀g o cap,Value.slice k (I d) q=.slice (J ⟨g,o,U⟩) (I d) cap->g<xz (xj w):=by
   intro X g o cap e;obtain⟨g1,Y,c1,e1,_,_,h4,_⟩|⟨_,_,_,h⟩:=O;simp_all;simp_all
  have W:Calls Sol.prog 97 #[.slice sa sn sc,.func (.func 98) #[] #[.pointer<|J ⟨xz (xj w)+1,0,U⟩,.pointer<|J ⟨xz<|xj w,0,U⟩]] ((w.alloc<|.cells #[.slice k (I d) q] 156).alloc<|.cells #[.int .i64 0] 3)
    (Eb ((w.alloc<|.cells #[.slice k (I d) q] 156).alloc<|.cells #[.int .i64 0] 3) C d xk (J<|xz (xj w)+1)<|KOld d (xz (xj w)+1) (xz<|xj w)<|.slice k (I d) q):=by
   generalize a8:(w.alloc<|.cells #[.slice k (I d) q] 156).alloc (.cells #[.int .i64 0] 3)=W1 at*;have K:d≠[]->∀g o cap,Value.slice k (I d) q=.slice (J ⟨g,o,U⟩) (I d) cap->g<xz (xj W1):=λX g o cap e=>ZdN;refine P0 (hw.rj R z) M ⟨λh=>ZdN,Z0,Z0⟩ (.inr ⟨_,_,rfl⟩) (λr e=>ZdN) (λe=>ZdN) (Z0y a7 Z0<|λX g o cap e=>ZdN) ⟨b1,⟨b0,?_⟩,Z0⟩ (λt A B row h hg hr=>h.grown hg (n:=xz<|xj W1) Z0 Z0 K hr) (λbl base t A B h1 h2 h W=>h.kp W (n:=xz<|xj W1) Z0 Z0 K h1 h2);obtain⟨g1,Y,c1,e1,a1,a2,a3,a4⟩|⟨a,c,e1,h⟩:=O;exact .inl ⟨g1,Y,c1,e1,a1,a2,Z0,λi x hx=>⟨(z.cell (p:=⟨g1,Y+i*2,U⟩) a3).trans (a4 i x hx).1,(z.cell (p:=⟨g1,Y+i*2+1,U⟩) a3).trans (a4 i x hx).2⟩⟩;simp_all
  have F:∀w1 v n (Q:List Ob),(v=.slice U 0 0/\Q=[]\/w1.ownsRow (xz (xj w)+6) 120 5 v (I Q) (WO Q))->ZP C d xk=(Q,n)->Rd w1 (λb=>xk=xw/\G b\/xz (xj w)<=b/\b<xz (xj w1)) (.am [.sl<|(ZP C d xk).1.map ZO,vi (ZP C d xk).2]) (.tuple #[v,.int .i64 n]):=by
   intro w1 v n Q f hW;rw[hW];refine .am _ _ rfl ?_;intro i y T
   match i,T with
   |0,T=>
    cases T;obtain⟨rfl,rfl⟩|f:=f;exact .nil _ _ (by grind [maxLen]);exact Ik f λc h1 h2=>.inr ⟨Z0,h2⟩
   |1,T=>cases T;exact .int _ _
  have S:Calls Sol.prog 97 #[.slice sa sn sc,.func (.func 98) #[] #[.pointer<|J ⟨xz (xj w)+1,0,U⟩,.pointer<|J ⟨xz<|xj w,0,U⟩]] ((w.alloc<|.cells #[.slice k (I d) q] 156).alloc<|.cells #[.int .i64 0] 3) λe w1=>
    (∃(v:Value) (t:Nat),e=.returned (.tuple #[v,.int .i64 0])/\w1.cell? ⟨xz (xj w)+1,0,U⟩=J (.int .i64 t)/\w1.cell? ⟨xz<|xj w,0,U⟩=J (.slice k (I d) q)/\(t:Int)<I d/\Hid (Below (xz<|xj w) w w1/\Rd w1 (λb=>xk=xw/\G b\/xz (xj w)<=b/\b<xz (xj w1)) (.am [.sl<|(ZP C d xk).1.map ZO,vi (ZP C d xk).2]) (.tuple #[.slice U 0 0,.int .i64 3])))\/
    (∃(v:Value) (t:Nat),e=.returned (.tuple #[v,.int .i64 0])/\w1.cell? ⟨xz (xj w)+1,0,U⟩=J (.int .i64 t)/\w1.cell? ⟨xz<|xj w,0,U⟩=J (.slice k (I d) q)/\¬(t:Int)<I d/\Hid (Below (xz<|xj w) w w1/\Rd w1 (λb=>xk=xw/\G b\/xz (xj w)<=b/\b<xz (xj w1)) (.am [.sl<|(ZP C d xk).1.map ZO,vi (ZP C d xk).2]) (.tuple #[v,.int .i64 0])))\/
    (∃(v:Value) (n:Int),e=.returned (.tuple #[v,.int .i64 n])/\¬n=0/\Hid (Below (xz<|xj w) w w1/\Rd w1 (λb=>xk=xw/\G b\/xz (xj w)<=b/\b<xz (xj w1)) (.am [.sl<|(ZP C d xk).1.map ZO,vi (ZP C d xk).2]) (.tuple #[.slice U 0 0,.int .i64 n]))):=by
   refine W.mono ?_;rintro e w1 ⟨v,n,Q,rfl,a6,f,hE⟩;rw[L]at f;have hB:Below (xz<|xj w) w w1:=z.trans<|(Zf3 _ _).grown a6 Z0<|λj e=>ZdN;obtain⟨rfl,t,⟨hb,hs,ht⟩,u⟩|⟨X,rfl,u⟩:=hE;have Z:w1.cell? ⟨xz (xj w)+1,0,U⟩=J (.int .i64 t):=by rw[ZeU _ _ _ _ _ _ hb];rfl
   have q2:w1.cell? ⟨xz<|xj w,0,U⟩=J (.slice k (I d) q):=by rw[ZeU _ _ _ _ _ _ hs.box];rfl
   by_cases D:t<I d;rw[if_pos D]at u;exact .inl ⟨v,t,rfl,Z,q2,Z0,ZeP ⟨hB,F w1 _ _ [] (.inl ⟨rfl,rfl⟩) u⟩⟩;rw[if_neg D]at u;exact .inr<|.inl ⟨v,t,rfl,Z,q2,Z0,ZeP ⟨hB,F w1 _ _ Q (.inr f) u⟩⟩;exact .inr<|.inr ⟨v,n,rfl,Z0,ZeP ⟨hB,F w1 _ _ [] (.inl ⟨rfl,rfl⟩) u⟩⟩
  have HK:=ZeP S;clear hw M r0 r1 P O R a0 W S z b0 b1 a5 L F;go_enter Sol.func86,Try.ntmps86;have a9:∀(fn:Go.Fn) (first cap:Array Value) (w:World),(Instr.makeFunc fn first cap).run Sol.prog w=.ok (.func fn first cap) w:=λ_ _ _ _=>rfl;go_wp2_with (go_at_call 97;refine HK.out.mono ?_;rintro e w1 (⟨v,t,rfl,Z,q2,D,H⟩|⟨v,t,rfl,Z,q2,D,H⟩|⟨v,n,rfl,X,H⟩))
  .refine Zfp (v:=.tuple #[.slice U 0 0,.int .i64 3]) (by simp[results,Try.results86,go_sem]) rfl ⟨_,rfl,H.out.1,H.out.2⟩
  .refine Zfp (v:=.tuple #[v,.int .i64 0]) (by simp[results,Try.results86,go_sem]) rfl ⟨_,rfl,H.out.1,H.out.2⟩
  .refine Zfp (v:=.tuple #[.slice U 0 0,.int .i64 n]) (by simp[results,Try.results86,go_sem]) rfl ⟨_,rfl,H.out.1,H.out.2⟩
end Vm
namespace Vm
open Go Go.Proofs Go.RowKit
def Z4O{w G l v}(r:Rd w G (.sl<|l.map ZO) v)(t:∀b,G b->b<xz (xj w)):
  (∃g o cap,v=.slice (J ⟨g,o,U⟩) (I l) cap/\I l<=cap/\cap<=maxLen/\g<xz (xj w)/\∀i x,l[i]?=J x->w.cell? ⟨g,o+i*5,U⟩=J (.int .i64 x.aa)/\w.cell? ⟨g,o+i*5+1,U⟩=J (.int .i64 x.size)/\
   w.cell? ⟨g,o+i*5+2,U⟩=J (.int .i64 x.M)/\w.cell? ⟨g,o+i*5+3,U⟩=J (.bool x.gone)/\w.cell? ⟨g,o+i*5+4,U⟩=J (.int .u64 x.target))\/
  (∃a cap,v=.slice a 0 cap/\l=[]):=by
 generalize u:l.map ZO=L at r;cases r with
 |nil a cap F=>
  simp_all
 |sl _ b o cap k vs j n p d q h=>
  subst u;simp only[Zfc]at j q⊢;refine .inl ⟨b,o,cap,rfl,j,n,t b p,λi x y=> ?_⟩;have f:(l.map ZO)[i]?=J (ZO x):=by rw[Zfa,y];rfl
  have K:k=5:=((d _<|ZeW f).1).symm;have H:i<I l:=ZdN;have z:=h (i*5) (vi x.aa) (by have:=VN d f 0 Z0;simp_all);have A:=h (i*5+1) (vi x.size) (by have:=VN d f 1 Z0;simp_all);have B:=h (i*5+2) (vi x.M) (by have:=VN d f 2 Z0;simp_all);have C:=h (i*5+3) (.bool x.gone) (by have:=VN d f 3 Z0;simp_all);have D:=h (i*5+4) (vu x.target) (by have:=VN d f 4 Z0;simp_all);grind [Sq,Nat.add_assoc,N8]
end Vm
end
section

end
section
namespace Vm
open Go Go.Proofs
def QD{h:Hp}(a:h.ok):VC Sol.prog 17 xw [ZE h]<|.bool<|Yt h:=by
 rw[<-(B6 h).1];exact Py jv ju a
def Pu{h:Hp}(a:h.ok){k:Int}:VC Sol.prog 81 xw [ZE h,vi k]<|.am [.sl<|(UF h k).1.map ZO,vi (UF h k).2]:=by
 rw[<-Z3R h k];exact Pv jv ju a
def DI{h:Hp}(a:h.ok):VC Sol.prog 18 xw [ZE h]<|vi<|Ru h:=by
 rw[<-Z3V h];exact PA jv ju a
def VR(l:Zi):List<|Int×Int:=(l.filter λo=>o.gone).map λo=>(o.size,o.M)
def OY{ws:Z8}{shs:List (Int×Int)}{old:Bool}:∀(l:Zi) (f a k:Nat) (g:Zi),Tiles ws old a l->I ws<f+a->0<f->shs.drop k=VR l->Xl ws shs old f a k g=(g++l,0)
 | [],f,a,k,g,D,M,K,B=>by
   obtain⟨f,rfl⟩:∃C,f=C+1:=⟨f-1,Z0⟩;have:I ws<=a:=D;have r:I shs<=k:=List.drop_eq_nil_iff.1 B;rw[Xl,ZfP this];simp only;rw[if_neg Z0,Zg1]
 |o::l,f,a,k,g,D,M,K,B=>by
  obtain⟨f,rfl⟩:∃C,f=C+1:=⟨f-1,Z0⟩;obtain⟨t,r,L⟩:=D;obtain⟨w,F,j⟩:=r.word;have O:=YB.1 r.shape;have u:=r.aw;have q:=r.fw;rw[t]at F u q;simp only[Zf2]at F q;have z:∀d:Nat,shs.drop d=VR l->Xl ws shs old f (a+1+o.size.toNat) d (g++[o])=(g++o::l,0):=λd p=>by
   rw[OY l f _ d _ L Z0 Z0 p];simp
  have y:∃d,Wi shs old a k w=J (o,d)/\shs.drop d=VR l:=by
   unfold Wi;cases n:o.gone;rw[n]at j;simp only[Zf6,ZfI]at j;rw[if_neg (λh=>j.1 h.1 h.2),j.2.1];refine⟨k,?_,?_⟩;simp only[ZfF];obtain⟨P,R,op,Q,S⟩:=o;simp only at n t j⊢;rw[n,t,j.2.2];rw[B];simp[VR,n];rw[n]at j;simp only[ZfF]at j;rw[if_pos ⟨j.1,j.2.1⟩];have A:shs.drop k=(o.size,o.M)::VR l:=by rw[B];simp[VR,n]
   have x:k<I shs:=by
    have:=ZfS List.length A;simp at this;omega
   rw[ZfG x]at A;have G:=(List.cons.inj A).1;have H:=(List.cons.inj A).2;rw[ZeL x,G];simp only[r.shape,ZfF];refine⟨k+1,?_,H⟩;obtain⟨P,R,op,Q,S⟩:=o;simp only at n t j⊢;rw[n,t,j.2.2]
  obtain⟨d,N,p⟩:=y;rw[Xl,F];simp only;rw[N];simp only;rw[if_neg Z0,if_neg (by rw[q];simp)];exact z d p
def LP{ws:Z8}{shs:List (Int×Int)}{old:Bool}{l:Zi}(d:Tiles ws old 0 l)(a:shs=VR l):ZP ws shs old=(l,0):=by
 unfold ZP;rw[OY l (I ws+1) 0 0 [] d Z0 Z0 ZeC,ZfE]
def QG(h:Hp)(low l:Zi):Prop:=∀o∈l,o.gone=xk->∃q,YD h 1 low o.target=J q/\q.size=o.size/\q.M=o.M
def qV{h:Hp}{ws:Z8}{low:Zi}:∀(l:Zi) (f i:Nat) (a:List<|Int×Int),Tiles ws xk i l->I ws<f+i->0<f->QG h low l->V7 h ws low f i a=J (a++VR l)
 | [],f,i,a,u,D,B,r=>by
   obtain⟨f,rfl⟩:∃n,f=n+1:=⟨f-1,Z0⟩;have:I ws<=i:=u;rw[V7,ZfP this];simp[VR]
 |o::l,f,i,a,u,D,B,r=>by
  obtain⟨f,rfl⟩:∃n,f=n+1:=⟨f-1,Z0⟩;obtain⟨C,p,y⟩:=u;obtain⟨w,x,g⟩:=p.word;have F:=YB.1 p.shape;have j:=p.aw;rw[C]at x j;simp only[Zf2]at x;have k:QG h low l:=λq t=>r q<|Zfr _ t;rw[V7,x];simp only;cases d:o.gone;rw[d]at g;simp only[Zf6,ZfI,true_implies]at g;rw[if_neg g.1,g.2.1];simp only[ZfF];rw[qV l f _ a y Z0 Z0 k];simp[VR,d];rw[d]at g;simp only[ZfF,true_and]at g;rw[if_pos g.1];obtain⟨q,t,z,A⟩:=r o (.head _) d;rw[<-g.2,t];simp only;rw[z,A,qV l f _ _ y Z0 Z0 k];simp[VR,d]
def MA{h:Hp}{p:Pts}(d:Tiles h.H xw 0 p.H)(h2:Tiles h.ab xw 0 p.ab)(f:Tiles h.ah xk 0 p.ah)(g:Tiles h.ak xk 0 p.ak)(q:QG h p.H p.ah)(r:QG h p.H p.ak):Xi h=J p:=by
 have k:∀ {n:Z8} {a:Nat} {l:Zi},Tiles n xw a l->VR l=[]:=λ{n a l} x=>by
  unfold VR;rw[List.map_eq_nil_iff,ZhN];intro o u t;obtain⟨w,_,j⟩:=(x.bc o u).1.word;rw[if_pos t]at j;cases j.1
 unfold Xi;rw[LP d (k d).symm,LP h2 (k h2).symm];unfold VF;simp only[ne_eq,Zit,or_self,ZfI];rw[qV p.ah _ 0 [] f Z0 Z0 q,qV p.ak _ 0 [] g Z0 Z0 r];simp only[ZfE,Zfl];rw[LP f rfl,LP g rfl];simp
def Nr{h:Hp}{p:Pts}(a:TG h=xk)(d:Xi h=J p)(f:Sw h p=xk):Yt h=xk:=by
 unfold Yt;rw[a,d];simpa using f
def EE{h:Hp}{k:Int}{l:Zi}{o:Ob}(a:o∈l)(f:∀q∈l,YV h k q.aa=YV h k o.aa->q=o):YD h k l (YV h k o.aa)=J o:=by
 unfold YD;induction l with
 |nil=>simp at a
 |cons x l j=>
  rw[List.find?_cons];by_cases d:YV h k x.aa=YV h k o.aa;rw[f x (.head _) d];simp;have:(YV h k x.aa==YV h k o.aa)=xw:=Ze3;rw[this];obtain rfl|a:=Zfb.1 a;exact absurd rfl d;exact j a λq g=>f q<|Zfr _ g
def jE{h:Hp}{k:Int}{l:Zi}{a:Int}:(YD h k l a).isSome=xk↔ ∃o∈l,YV h k o.aa=a:=by
 unfold YD;rw[List.find?_isSome];simp
section
structure Tld (h:Hp) (p:Pts):Prop where
 bb:ZJ (Zv h)=xk
 an:∀k:Int,1<=k/\k<=4->Tiles (Zx h k) (decide (2<k)) 0 (p.at k)
def Gos(h:Hp)(p:Pts)(w one a:Int):Prop:=w=0\/∃k o,(k=one\/k=a)/\o∈p.at k/\w=Y6 (Zv h) k o.aa
def Wd(h:Hp)(p:Pts)(k:Int)(i:Nat)(w:Int):Prop:=if 2<k then Gos h p w 3 4 else if k=1/\h.Z<=i then Gos h p w 1 2\/Gos h p w 3 4 else Gos h p w 1 2
section
variable {h:Hp}{p:Pts}
def Tld.ob(t:Tld h p){k:Int}(g:1<=k/\k<=4){o:Ob}(j:o∈p.at k):∃a n m:Nat,o.aa=a/\o.size=n/\o.M=m/\a+(n+1)<=I (Zx h k)/\n<=255/\m<=n:=by
 have d:=((t.an k g).bc o j).1;have f:=YB.1 d.shape;obtain⟨a,l⟩:=Zf0 d.iu;obtain⟨n,r⟩:=Zf0 f.1;obtain⟨m,q⟩:=Zf0 f.2.2.1;have:=d.aw;grind
def Tld.start(t:Tld h p){k:Int}(d:1<=k/\k<=4){o:Ob}(f:o∈p.at k):YV h k o.aa=ZD (Zv h) k+o.aa:=by
 obtain⟨a,n,m,g,_,_,j,_⟩:=t.ob d f;unfold YV;rw[SK t.bb d (by grind [Ti])]
def Tld.dp(t:Tld h p){k:Int}(d:1<=k/\k<=4){o q:Ob}(f:o∈p.at k)(g:q∈p.at k)(e:q.aa=o.aa):q=o:=by
 rcases(t.an k d).apart q g o f with a|a|a;exact a;have:=YB.1 ((t.an k d).bc q g).1.shape;omega;have:=YB.1 ((t.an k d).bc o f).1.shape;omega
def Tld.find(t:Tld h p){k:Int}(a:1<=k/\k<=4){o:Ob}(d:o∈p.at k):YD h k (p.at k) (ZD (Zv h) k+o.aa)=J o:=by
 rw[<-t.start a d];refine EE d λq f e=>t.dp a d f ?_;rw[t.start a d,t.start a f]at e;omega
theorem Tld.inj(t:Tld h p){k j:Int}(d:1<=k/\k<=4)(f:1<=j/\j<=4){o q:Ob}(g:o∈p.at k)(l:q∈p.at j)(e:Y6 (Zv h) k o.aa=Y6 (Zv h) j q.aa):k=j/\o=q:=by
 obtain⟨a,n,m,x,_,_,z,_⟩:=t.ob d g;obtain⟨b,B,A,y,_,_,w,_⟩:=t.ob f l;obtain⟨r,u⟩:=Z6M t.bb d f (by grind [Ti]) (by grind [Ti]) e;subst r;exact⟨rfl,t.dp d l g u⟩
def Tld.lc(t:Tld h p){k:Int}(d:1<=k/\k<=4){o:Ob}(f:o∈p.at k):adr (Y6 (Zv h) k o.aa)=(ZD (Zv h) k+o.aa,0):=by
 obtain⟨a,n,m,g,_⟩:=t.ob d f;exact Tq t.bb Z0
def Tld.mj(t:Tld h p){k:Int}(d:1<=k/\k<=4){w:Int}(f:(Vm.adr w).2=0):(YD h k (p.at k) (Vm.adr w).1).isSome=xk↔ ∃o∈p.at k,w=Y6 (Zv h) k o.aa:=by
 rw[jE];constructor;rintro⟨o,a,e⟩;rw[t.start d a]at e;exact⟨o,a,P6 f e.symm⟩;rintro⟨o,a,rfl⟩;exact⟨o,a,by rw[t.lc d a,t.start d a]⟩
def Tld.dk(t:Tld h p){i j:Int}(g:1<=i/\i<=4)(l:1<=j/\j<=4){w:Int}:Xv h p w i j=xk↔Gos h p w i j:=by
 unfold Xv Gos;by_cases d:w=0;simp[d];by_cases a:(Vm.adr w).2=0;simp only[d,a,ZiY,Zii,ZhY,ZhA,Zf1,false_or,t.mj g a,t.mj l a];simp;simp only[d,a,Zii,ZhS,Bool.or_self,Zf6,false_or,false_iff];rintro⟨k,o,n,q,rfl⟩;have f:1<=k/\k<=4:=by obtain rfl|rfl:=n<;>assumption
 exact a (by rw[t.lc f q])
def O6:∀ {l:Z8} {a:Int} {i:Nat},XM l xk a i=xk->∀w∈l,w=0
 | [],_,_,_,w,d=>by simp at d
 |y::l,a,i,f,w,d=>by
  simp only[XM,ZeO]at f;obtain rfl|d:=Zfb.1 d;have g:=f.1;simp at g;exact g.1;exact O6 f.2 w d
def Tld.ur(t:Tld h p){k:Int}(d:1<=k/\k<=4){o:Ob}(f:o∈p.at k){j:Nat}(x:(j:Int)<o.size):∃w,(Zx h k)[o.aa.toNat+1+j]?=J w/\(o.gone=xk->w=0):=by
 obtain⟨a,n,m,l,u,z,y,_⟩:=t.ob d f;have r:a+1+j< I (Zx h k):=Z0;refine⟨(Zx h k)[a+1+j],ZdO,λq=> ?_⟩;have g:=((t.an k d).bc o f).1.fw;rw[q]at g;refine O6 g _ ?_;rw[l,u,Zf2,Zf2];refine ZeW (i:=j) ?_;simp_all
end
structure Body (h:Hp) (p:Pts):Prop extends Tld h p where
 gone:∀k:Int,3<=k/\k<=4->∀o∈p.at k,o.gone=xk->∃q∈p.H,o.target=ZD (Zv h) 1+q.aa/\q.size=o.size/\q.M=o.M
 ptr:∀k:Int,1<=k/\k<=4->∀o∈p.at k,o.gone=xw->∀j:Nat,(j:Int)<o.M->∀w,(Zx h k)[o.aa.toNat+1+j]?=J w->Wd h p k (o.aa.toNat+1+j) w
 room:(I h.H:Int)+I h.ab+Yu p<=h.cap
structure Rt (h:Hp) (p:Pts):Prop extends Body h p where
 gd:I h.E<=16
 fu:0<=h.Z
 iq:h.Z<=I h.H
 kw:h.Y=xk->h.Z<I h.H
 rest:h.Y=xw->h.Z=I h.H/\h.ah=[]/\h.ak=[]
 gx:h.Y=xk->∀o∈p.H,Tk p (ZD (Zv h) 1+o.aa)=1
 E:∀w∈h.E,Gos h p w 1 2
section
variable {h:Hp}{p:Pts}
def DW(t:Tld h p){k:Int}{i:Nat}{w:Int}(a:(Zx h k)[i]?=J w):Ul h p k i=xk↔Wd h p k i w:=by
 unfold Ul Wd;simp only[a,Zfl];split;exact t.dk Z0 Z0;split;rw[Zf1,t.dk Z0 Z0,t.dk Z0 Z0];exact t.dk Z0 Z0
theorem Z04(k:Int)(i:Nat):Wd h p k i 0:=by
 unfold Wd;split;exact .inl rfl;split;exact .inl<|.inl rfl;exact .inl rfl
def MU(t:Tld h p){k:Int}(g:1<=k/\k<=4):WC h p k=xk↔ ∀o∈p.at k,o.gone=xw->∀j:Nat,(j:Int)<o.M->∀w,(Zx h k)[o.aa.toNat+1+j]?=J w->Wd h p k (o.aa.toNat+1+j) w:=by
 unfold WC yL;simp only[ZeY,Zhq];constructor;intro l o d _ j q w f;exact(DW t f).1 (l o d j Z0);intro l o d j q;obtain⟨a,n,m,r,y,x,u,_⟩:=t.ob g d;obtain⟨w,f,z⟩:=t.ur g d (j:=j) Z0;refine(DW t f).2 ?_;grind [Z04]
def RightH.vj(r:RightH h p):Tld h p:=⟨r.bb,λk a=>r.an a⟩
def RightH.rt(r:RightH h p):Rt h p:=by
 have t:=r.vj;have j:=r.num;have a:=r.ok;unfold TG at j;unfold Sw at a;simp only[ZeO,Zfh]at j a;obtain⟨⟨⟨⟨G,A⟩,B⟩,C⟩,H⟩:=j;obtain⟨⟨⟨⟨⟨⟨l,D⟩,K⟩,L⟩,M⟩,N⟩,F⟩:=a;have f:∀k:Int,1<=k/\k<=4->WC h p k=xk:=λk d=>by
  have:k=1\/k=2\/k=3\/k=4:=Z0;grind
 refine⟨⟨t,λk d o a y=> ?_,λk d=>(MU t d).1<|f k d,F⟩,A,B,C,λg=> ?_,λg=> ?_,λg o a=> ?_,λw z=> ?_⟩;obtain⟨q,n,e,u,x⟩:=r.nh d a y;exact⟨q,n,by rw[<-e,t.start (k:=1) Z0 n],u,x⟩;simp_all;simp_all;rw[g]at l;simp only[Zhz,ZhY,ZeY]at l;have:=l o a;unfold Rq at this;rw[t.start (k:=1) Z0 a]at this;simp_all;exact(t.dk Z0 Z0).1 (ZeY.1 D w z)
def Rt.ei(r:Rt h p):Xi h=J p:=by
 have g:∀k:Int,3<=k/\k<=4->QG h p.H (p.at k):=λk j o l f=>by
  obtain⟨q,n,e,a,d⟩:=r.gone k j o l f;exact⟨q,by rw[e];exact r.toTld.find (k:=1) Z0 n,a,d⟩
 exact MA (r.an 1 Z0) (r.an 2 Z0) (r.an 3 Z0) (r.an 4 Z0) (g 3 Z0)<|g 4 Z0
theorem Rt.right(r:Rt h p):Yt h=xk:=by
 have t:=r.toTld;refine Nr ?_ r.ei ?_;unfold TG;simp only[ZeO,Zfh];refine⟨⟨⟨⟨r.bb,r.gd⟩,r.fu⟩,r.iq⟩,?_⟩;cases a:h.Y;obtain⟨l,n,q⟩:=r.rest a;simp_all;simp[r.kw a];unfold Sw;simp only[ZeO,Zfh];have d:=λk f=>(MU t f).2<|r.ptr k f;refine⟨⟨⟨⟨⟨⟨?_,?_⟩,d 1 Z0⟩,d 2 Z0⟩,d 3 Z0⟩,d 4 Z0⟩,r.room⟩;cases a:h.Y;rfl;simp only[Zhz,ZhY,ZeY];intro o g;unfold Rq;rw[t.start (k:=1) Z0 g,Zfh];exact r.gx a o g;rw[ZeY];exactλw j=>(t.dk Z0 Z0).2<|r.E w j
def JC:Yt h=xk↔ ∃p,Rt h p:=
 ⟨λa=>by obtain⟨p,r⟩:=Z73 a;exact⟨p,r.rt⟩,λ⟨p,r⟩=>r.right⟩
def Rt.gz{q:Pts}(r:Rt h p)(s:Rt h q):q=p:=by
 have:=r.ei;rw[s.ei]at this;simp_all
def Rt.ug(r:Rt h p){k:Int}(a:1<=k/\k<=4):UF h k=(p.at k,0):=by
 unfold UF;rw[if_pos ⟨r.right,a⟩,r.ei];rfl
def Rt.na(r:Rt h p):Ru h=Yu p:=by
 unfold Ru;rw[if_pos r.right,r.ei];rfl
end
end
section
def WL(l:Zi):Nat:=(l.map λo=>1+o.size.toNat).sum
def Tiles.sum{ws:Z8}{old:Bool}:∀ {a:Nat} {l:Zi},Tiles ws old a l->a<=I ws->a+WL l=I ws
 |a,[],h,d=>by have:I ws<=a:=h;simp[WL];omega
 |a,o::l,h,d=>by
  have g:=YB.1 h.2.1.shape;have f:=h.2.1.aw;rw[h.1]at f;have:=Tiles.sum h.2.2 Z0;simp[WL]at this⊢;omega
def Tiles.kg{ws:Z8}{old:Bool}{l:Zi}(h:Tiles ws old (I ws) l):l=[]:=by
 obtain _|⟨o,l⟩:=l;rfl;have d:=YB.1 h.2.1.shape;have a:=h.2.1.aw;rw[h.1]at a;omega
def Tiles.ua{ws d:Z8}{old:Bool}:∀ {a:Nat} {l j:Zi},Tiles ws old a l->Tiles d old a j->(∀i,i<I ws->d[i]?=ws[i]?)->I ws<=I d->
  (∀o∈l,∀q∈j,o.gone=xk->q.gone=xk->o.target=q.target->o.size=q.size/\o.M=q.M)->a<=I ws->∃r,j=l++r/\Tiles d old (I ws) r
 |a,[],j,h,k,_,_,_,t=>by
  have:I ws<=a:=h;grind
 |a,o::l,[],h,k,_,A,_,t=>by
  have H:=YB.1 h.2.1.shape;have z:=h.2.1.aw;have e:=h.1;have:I d<=a:=k;omega
 |a,o::l,q::j,h,k,B,A,G,t=>by
  obtain⟨p,n,C⟩:=h;obtain⟨k1,M,N⟩:=k;have H:=YB.1 n.shape;have z:=n.aw;obtain⟨w,g,D⟩:=n.word;obtain⟨u,f,F⟩:=M.word;rw[p]at g z;rw[k1]at f;simp only[Zf2]at g f;rw[B a Z0,g]at f;cases f;have e:o=q:=by
   obtain⟨S,T,op,O,W⟩:=o;obtain⟨X,Z,Y,P,qt⟩:=q;simp only at*;subst p k1;cases O<;>cases P<;>simp at D F
   simp_all;simp_all;simp_all;simp_all
  subst e;obtain⟨r,Q,R⟩:=Tiles.ua C N B A (λx K y L=>G x (.tail _ K) y<|.tail _ L) Z0;simp_all
def Tiles.gz{ws:Z8}{old:Bool}{l a:Zi}(h:Tiles ws old 0 l)(h':Tiles ws old 0 a)(g:∀o∈l,∀q∈a,o.gone=xk->q.gone=xk->o.target=q.target->o.size=q.size/\o.M=q.M):a=l:=by
 obtain⟨r,d,f⟩:=h.ua h' (λ_ _=>rfl) (ZeQ _) g<|ZfO _;rw[d,f.kg,Zg1]
def Tiles.ct{ws:Z8}{a:Nat}{l:Zi}(h:Tiles ws xw a l):∀o∈l,o.gone=xw:=λo d=>by
 obtain⟨w,_,f⟩:=(h.bc o d).1.word;simp_all
def Tiles.tq{ws:Z8}{l d:Zi}(h:Tiles ws xw 0 l)(h':Tiles ws xw 0 d):d=l:=h.gz h' λo f q g a=>by rw[h.ct o f]at a;cases a
def Ao(l:Zi):Nat:=(l.map λo=>if o.gone then 1+o.size.toNat else 0).sum
def Dy(l:Zi):Y1 l+Ao l=WL l:=by
 induction l with
 |nil=>rfl
 |cons o l a=>
  simp only[Y1,Ao,WL,Zfi,Zi0,Wc]at a⊢;cases o.gone<;>simp<;>omega
def Z8w{L:Zi}{f:Ob->Nat}(h:∀o∈L,f o=0):(L.map f).sum=0:=by
 induction L with
 |nil=>rfl
 |cons x L a=>simp_all
section
variable {h:Hp}{p:Pts}
def Tld.kx(t:Tld h p){o:Ob}(d:o∈p.H):0<=o.aa/\o.aa<I h.H:=by
 obtain⟨a,n,m,f,_,_,g,_⟩:=t.ob (k:=1) Z0 d;grind [Vk]
def Tiles.fh{ws:Z8}{old:Bool}:∀ {a:Nat} {l:Zi},Tiles ws old a l->l.Pairwise λx y=>x.aa<y.aa
 |_,[],_=>.nil
 |a,o::l,h=>by
  have f:=YB.1 h.2.1.shape;refine .cons (λy d=> ?_)<|Tiles.fh h.2.2;have:=(Tiles.bc h.2.2 y d).2;rw[h.1];omega
def Tiles.nil{old:Bool}{l:Zi}(h:Tiles [] old 0 l):l=[]:=Tiles.kg (ws:=[]) h
def Gos.va(t:Tld h p){w i j:Int}(r:1<=i/\i<=4)(u:1<=j/\j<=4)(l:Gos h p w i j):w=0\/∃k,1<=k/\k<=4/\(k=i\/k=j)/\∃o∈p.at k,(adr w).2=0/\(adr w).1=ZD (Zv h) k+o.aa/\o.aa<YO (Zv h) k/\0<=o.aa:=by
 obtain rfl|⟨k,o,g,f,rfl⟩:=l;omega;have d:1<=k/\k<=4:=by obtain rfl|rfl:=g<;>assumption
 obtain⟨a,n,m,q,_,_,x,_⟩:=t.ob d f;exact .inr ⟨k,d.1,d.2,g,o,f,by rw[t.lc d f],by rw[t.lc d f],by grind [Ti],Z0⟩
end
end
section
section
variable {h:Hp}{p:Pts}
def Body.kf(r:Body h p){k:Int}(d:1<=k/\k<=2){o:Ob}(f:o∈p.at k):Vm.fwd h (Y6 (Zv h) k o.aa)=(Y6 (Zv h) k o.aa,h,0):=by
 obtain⟨a,n,m,g,_,_,j,_⟩:=r.toTld.ob Z0 f;exact Vm.fwd_here r.bb d ⟨Z0,Z0⟩
def Body.ke(r:Body h p){k:Int}(q:3<=k/\k<=4){o:Ob}(g:o∈p.at k)(l:o.gone=xk):Vm.fwd h (Y6 (Zv h) k o.aa)=(2*o.target+1,h,0):=by
 obtain⟨a,n,m,f,_,_,t,_⟩:=r.toTld.ob Z0 g;obtain⟨u,j,d⟩:=((r.an k Z0).bc o g).1.word;rw[if_pos l]at d;rw[f,Zf2]at j;rw[f,Vm.fwd_gone r.bb q j d.2.1,P6 d.2.1 d.2.2.symm]
def Body.gk(r:Body h p){k:Int}(t:3<=k/\k<=4){o:Ob}(f:o∈p.at k)(q:o.gone=xw){a n:Nat}(j:o.aa=a)(l:o.size=n):
  Vm.fwd h (Y6 (Zv h) k o.aa)=(Y6 (Zv h) 1<|I h.H,YS h k a<|n+1,0)/\((n+1:Nat):Int)<=Xq (Zv h):=by
 obtain⟨z,y,m,A,B,_,C,_⟩:=r.toTld.ob Z0 f;have:z=a:=Z0;subst this;have:y=n:=Z0;subst this;obtain⟨u,x,d⟩:=((r.an k Z0).bc o f).1.word;rw[if_neg (by simp[q])]at d;rw[j,Zf2]at x;have D:=r.room;have g:=Z8V t f;unfold Wc at g;rw[q,l]at g;simp at g;have e:Xq (Zv h)=h.cap-I h.H-I h.ab:=by unfold Xq;rw[if_pos r.bb];rfl
 have w:((y+1:Nat):Int)<=Xq (Zv h):=Z0;rw[j];exact⟨Vm.fwd_wait r.bb t x (d.1<|decide_eq_true Z0) (by rw[d.2.1,l]) C w,w⟩
end
def HW(h:Hp){k:Int}(d:3<=k/\k<=4)(a n:Nat):(YS h k a n).H=h.H++((Zx h k).take<|a+n).drop a/\(YS h k a n).ab=h.ab/\Zx (YS h k a n) k=(zr (Zx h k) a n).set a (Y6 (Zv h) 1<|I h.H)/\Zx (YS h k a n) (7-k)=Zx h (7-k)/\
  (YS h k a n).E=h.E/\(YS h k a n).Z=h.Z/\(YS h k a n).Y=h.Y/\(YS h k a n).cap=h.cap/\(YS h k a n).base=h.base/\(YS h k a n).to=h.to:=by
 have:k=3\/k=4:=Z0;obtain rfl|rfl:=this<;>exact⟨rfl,rfl,rfl,rfl,rfl,rfl,rfl,rfl,rfl,rfl⟩
end
section
def BW{h:Hp}{k j:Int}(g:1<=k/\k<=4)(f:1<=j/\j<=4)(l:Z8):Zx (Xg h k l) j=if j=k then l else Zx h j:=by
 have a:k=1\/k=2\/k=3\/k=4:=Z0;have d:j=1\/j=2\/j=3\/j=4:=Z0;obtain rfl|rfl|rfl|rfl:=a<;>obtain rfl|rfl|rfl|rfl:=d<;>rfl
def ZQ(b:Bt)(i:Nat):Nd:=(b.g.nodes[i]?).getD default
def ZF(b:Bt)(i:Nat):Pl:=(b.ax[i]?).getD ⟨0,0⟩
def Y5(b:Bt)(i:Nat):Pl:=(b.ah[i]?).getD ⟨0,0⟩
def Ks(n:Nd):Int:=(Xp ((I n.M:Int)+I n.data)<|I n.M).1
def XQ(b:Bt)(p:Pl)(n:Nd)(tw:Int):List Int:=Ks n::(XL b p p.aa.toNat n.M tw++n.data)
def VQ(b:Bt)(p:Pl)(n:Nd):List Int:=YG b.h p::List.replicate (ZL n-1) 0
def YQ(b:Bt)(x:Rw)(k:Int)(i:Nat):List Int:=
 if(ZF b i).part=k then XQ b (ZF b i) (ZQ b i)<|IntKind.i64.wrap<|x.be+i
 else if(Y5 b i).part=k then(if(ZF b i).part=0 then XQ b (Y5 b i) (ZQ b i) 0 else VQ b (ZF b i)<|ZQ b i)
 else []
def YY(b:Bt)(x:Rw)(k:Int)(i:Nat):List Int:=(List.range i).flatMap<|YQ b x k
theorem Ua(b:Bt)(x:Rw)(k:Int)(i:Nat):YY b x k (i+1)=YY b x k i++YQ b x k i:=by
 simp_all[YY,Zh2,Zh5]
theorem UA(b:Bt)(p:Pl)(n:Nd)(tw:Int):I (XQ b p n tw)=ZL n:=by
 grind [XQ,XL,ZL]
theorem Q0(b:Bt)(p:Pl)(n:Nd):I (VQ b p n)=ZL n:=by
 grind [VQ,ZL]
structure Placed (b:Bt) (x:Rw):Prop where
 ok:BOk b
 ax:∀i,i<I b.g.nodes->(ZF b i=⟨0,0⟩/\∃k:Int,(k=3\/k=4)/\(Y5 b i).part=k)\/(((ZF b i).part=1\/(ZF b i).part=2)/\(ZF b i).aa=(I (YY b x (ZF b i).part i):Nat))
 ah:∀i,i<I b.g.nodes->Y5 b i=⟨0,0⟩\/(((Y5 b i).part=3\/(Y5 b i).part=4)/\(Y5 b i).aa=(I (YY b x (Y5 b i).part i):Nat)/\(ZF b i).part≠2)
 zero:∀k:Int,1<=k/\k<=4->Zx b.h k=List.replicate (I<|YY b x k<|I b.g.nodes) 0
section
variable {b d:Bt}{x:Rw}
def Cw(a:Like b d)(p:Pl):YG d.h p=YG b.h p:=by
 unfold YG;rw[a.bb]
theorem Z85(a:Like b d)(p:Pl)(to tw:Int):Vp d p to tw=Vp b p to tw:=by
 unfold Vp;rw[a.ax,a.ah,a.Z,Cw a,Cw a]
def GZ(a:Like b d)(p:Pl)(n:Nd)(tw:Int):XQ d p n tw=XQ b p n tw:=by
 grind [XQ,XL,Z85]
def AZ{p:Pl}{a m:Nat}{n:Nd}{tw:Int}{F:Z8}(k:Zx d.h p.part=F++List.replicate m 0)(g:I F=a)(f:p.aa.toNat=a)(j:ZL n<=m):Sf d p a n tw=F++XQ d p n tw++List.replicate (m-ZL n) 0:=by
 simp_all[Sf,List.replicate,ZL,Zix,Zgq,XQ,Ks]
def Z7M{F:Z8}{a m s:Nat}{w:Int}(d:I F=a)(h:1<=s)(g:s<=m):(F++List.replicate m (0:Int)).set a w=F++(w::List.replicate (s-1) 0)++List.replicate (m-s) 0:=by
 rw[<-d,ZiM _ _<|ZeQ _,ZgE];obtain⟨m,rfl⟩:∃f,m=f+1:=⟨m-1,Z0⟩;rw[List.replicate_succ,Zhb,Zfw];congr 1;simp;omega
def K7(b:Bt)(x:Rw)(k:Int){i j:Nat}(h:i<=j):∃r,YY b x k j=YY b x k i++r:=by
 induction j with
 |zero=>simp_all
 |succ j d=>
  by_cases a:i=j+1;simp_all;grind [YQ,Ua,List.append_assoc]
def jt(b:Bt)(x:Rw)(i:Nat)(d:Bt):Prop:=∀k:Int,1<=k/\k<=4->Zx d.h k=YY b x k i++List.replicate (I (YY b x k<|I b.g.nodes)- I (YY b x k i)) 0
def CD(b:Bt)(x:Rw)(k:Int){i:Nat}(a:i<I b.g.nodes):I (YY b x k i)+I (YQ b x k i)<=I (YY b x k<|I b.g.nodes):=by
 obtain⟨r,d⟩:=K7 b x k (Z0:i+1<=I b.g.nodes);grind [Ua]
def Z1w(C:Placed b x){i:Nat}(G:i<I b.g.nodes)(z:Like b d)(w:jt b x i d):jt b x (i+1)<|QX x d i:=by
 have T:(d.g.nodes[i]?).getD default=ZQ b i:=by rw[z.g];rfl
 have X:(d.ax[i]?).getD ⟨0,0⟩=ZF b i:=by rw[z.ax];rfl
 have W:(d.ah[i]?).getD ⟨0,0⟩=Y5 b i:=by rw[z.ah];rfl
 unfold QX;simp only[T,X,W];have Z:=C.ax i G;have Q:=C.ah i G;have r:=λk=>CD b x k G;have j:∀k,YQ b x k i=if(ZF b i).part=k then XQ b (ZF b i) (ZQ b i) (IntKind.i64.wrap<|x.be+i)else if(Y5 b i).part=k then(if(ZF b i).part=0 then XQ b (Y5 b i) (ZQ b i) 0 else VQ b (ZF b i)<|ZQ b i)else []:=λk=>rfl
 have R:=UA b (ZF b i) (ZQ b i)<|IntKind.i64.wrap<|x.be+i;have l2:=UA b (Y5 b i) (ZQ b i) 0;have l3:=Q0 b (ZF b i)<|ZQ b i;have O:=GZ z (ZF b i) (ZQ b i)<|IntKind.i64.wrap<|x.be+i;have S:=GZ z (Y5 b i) (ZQ b i) 0;generalize ZF b i=p at*;generalize Y5 b i=o at*;generalize ZQ b i=n at*;have N:1<=ZL n:=by unfold ZL;omega
 obtain⟨rfl,ko,a,P⟩|⟨hp,Y⟩:=Z
 ·
  have K:(o.part=3\/o.part=4)/\o.aa=(I (YY b x o.part i):Nat):=by
   obtain rfl|⟨h1,h2,_⟩:=Q;grind;omega
  have D:Us x d i n ⟨0,0⟩=d:=by unfold Us;rw[if_neg Z1]
  have F:Uu d n ⟨0,0⟩ o=Wh d o n 0:=by unfold Uu;rw[if_pos ⟨Z0,rfl⟩]
  have A:∀q,Uc q ⟨0,0⟩ o=q:=λq=>by simp_all[Uc,if_neg]
  rw[D,F,A];intro k t;have l:YQ b x o.part i=XQ b o n 0:=by rw[j,if_neg ZdN,if_pos rfl,if_pos rfl]
  have y:=r o.part;rw[l,l2]at y;unfold Wh;simp only;rw[BW Z0 t];by_cases a:k=o.part;rw[if_pos a,a,AZ (w o.part Z0) Z0 rfl Z0,Ua,l,S];grind;rw[if_neg a,Ua,j k,if_neg ZdN,if_neg (λh=>a h.symm),Zg1];exact w k t
 have L:¬p.part=0:=Z0;have D:Us x d i n p=Wh d p n (IntKind.i64.wrap<|x.be+i):=by unfold Us;rw[if_pos Z0]
 have F:∀q,Uu q n p o=q:=λq=>by simp_all[Uu,if_neg]
 rw[D,F];have B:YQ b x p.part i=XQ b p n (IntKind.i64.wrap<|x.be+i):=by rw[j,if_pos rfl]
 have M:=r p.part;rw[B,R]at M;have u:∀k:Int,1<=k/\k<=4->Zx (Wh d p n<|IntKind.i64.wrap<|x.be+i).h k=if k=p.part then YY b x p.part (i+1)++List.replicate (I (YY b x p.part<|I b.g.nodes)- I (YY b x p.part<|i+1)) 0 else Zx d.h k:=by
  intro k t;unfold Wh;simp only;rw[BW Z0 t];by_cases f:k=p.part;rw[if_pos f,if_pos f,AZ (w p.part Z0) Z0 rfl Z0,Ua,B,O];grind;simp_all
 have H:YG (Wh d p n<|IntKind.i64.wrap<|x.be+i).h p=YG b.h p:=by
  unfold YG;have:Zv (Wh d p n<|IntKind.i64.wrap<|x.be+i).h=Zv b.h:=by
   rw[<-z.bb];unfold Wh;simp only;refine Dv ?_;rw[AZ (w p.part Z0) Z0 rfl Z0,w p.part Z0,O];simp[R];omega
  rw[this]
 generalize Wh d p n (IntKind.i64.wrap<|x.be+i)=q at*;obtain rfl|⟨a0,K,a1⟩:=Q;have A:Uc q p ⟨0,0⟩=q:=by simp_all[Uc,if_neg]
 rw[A];intro k t;rw[u k t];by_cases f:k=p.part;simp_all;rw[if_neg f,Ua,j k,if_neg (λh=>f h.symm),if_neg ZdN,Zg1];exact w k t;have A:Uc q p o= {q with h:=Xg q.h o.part ((Zx q.h o.part).set o.aa.toNat<|YG q.h p)}:=by unfold Uc;rw[if_pos ⟨Z0,Z0⟩]
 rw[A];have l:YQ b x o.part i=VQ b p n:=by rw[j,if_neg Z0,if_pos rfl,if_neg L]
 have y:=r o.part;rw[l,l3]at y;intro k t;simp only;rw[BW Z0 t,u o.part Z0,if_neg (Z0:¬o.part=p.part),w o.part Z0,H];by_cases a:k=o.part;rw[if_pos a,a,Z7M Z0 N Z0,Ua,l];grind [VQ];rw[if_neg a,u k t];by_cases f:k=p.part;simp_all;rw[if_neg f,Ua,j k,if_neg (λh=>f h.symm),if_neg (λh=>a h.symm),Zg1];exact w k t
def Fu(a:Placed b x):∀i,i<=I b.g.nodes->jt b x i (Ut x b i)
 |0,_=>by
  intro k d;rw[Ut,a.zero k d];simp[YY]
 |i+1,f=>by
  rw[Ut];exact Z1w a Z0 (KI a.ok i Z0)<|Fu a i Z0
def Ft(a:Placed b x){k:Int}(d:1<=k/\k<=4):Zx (Yw x b) k=YY b x k (I b.g.nodes):=by
 have h:=Fu a (I b.g.nodes) (ZeQ _) k d;rw[ZgE,List.replicate_zero,Zg1]at h;rw[<-h];rfl
end
end
section
def Q1(x:Rw)(c:Bool)(g:Gr)(i:Nat):Pl:=if V2 x i c=0 then⟨2,(Y4 x c g i).n2⟩else if V2 x i c=1 then⟨1,(Y4 x c g i).n1⟩else⟨0,0⟩
def Jq(x:Rw)(c:Bool)(g:Gr)(i:Nat):Pl:=if(decide (0<V2 x i c)&&c)=xk then(if Wv x i then⟨4,(Y4 x c g i).n4⟩else⟨3,(Y4 x c g i).n3⟩)else⟨0,0⟩
def D3{x:Rw}{c:Bool}{g:Gr}(d:∀n∈g.nodes,ZL n<=9):∀j,j<=I g.nodes->∀i,i<j->(Y4 x c g j).ax[i]?=J (Q1 x c g i)/\(Y4 x c g j).ah[i]?=J (Jq x c g i)
 |0,_,i,f=>Z0
 |j+1,l,i,f=>by
  obtain⟨_,_,h,k⟩:=LF (x:=x) (cycle:=c) d j Z0;rw[Y4];simp only[X5];by_cases a:i<j;have:=D3 (x:=x) (c:=c) d j Z0 i a;rw[Zfj Z0,Zfj Z0];exact this;have:i=j:=Z0;subst this;rw[Zf9 Z0,Zf9 Z0,h,k,ZgE];exact⟨rfl,rfl⟩
def nk(s:St8)(k:Int):Nat:=if k=1 then s.n1 else if k=2 then s.n2 else if k=3 then s.n3 else s.n4
section
variable {x:Rw}{c:Bool}
def Dc(x:Rw):∀n∈(ZY x.nodes x.E).nodes,ZL n<=9:=λn d=>by
 obtain⟨_,_,a⟩:=Bk x.nodes x.E;have:=a n d;unfold ZL;omega
def Rp(x:Rw)(c:Bool):(Yx x c).g=ZY x.nodes x.E:=rfl
def Kt{i:Nat}(a:i< (ZY x.nodes x.E).nodes.length):ZF (Yx x c) i=Q1 x c (ZY x.nodes x.E) i:=by
 unfold ZF;show((Y4 x c (ZY x.nodes x.E) (ZY x.nodes x.E).nodes.length).ax[i]?).getD _=_;rw[(D3 (Dc x) _ (ZeQ _) i a).1];rfl
def yS{i:Nat}(a:i< (ZY x.nodes x.E).nodes.length):Y5 (Yx x c) i=Jq x c (ZY x.nodes x.E) i:=by
 unfold Y5;show((Y4 x c (ZY x.nodes x.E) (ZY x.nodes x.E).nodes.length).ah[i]?).getD _=_;rw[(D3 (Dc x) _ (ZeQ _) i a).2];rfl
def zl:∀i,i<=(ZY x.nodes x.E).nodes.length->∀k:Int,1<=k/\k<=4->I (YY (Yx x c) x k i)=nk (Y4 x c (ZY x.nodes x.E) i) k
 |0,_,k,f=>by simp[YY,Y4,nk]
 |i+1,p,k,f=>by
  have o:=zl i Z0 k f;rw[Ua,Zfx,o];have l:ZQ (Yx x c) i=((ZY x.nodes x.E).nodes[i]?).getD default:=rfl;unfold YQ;rw[Kt (Z0:i< (ZY x.nodes x.E).nodes.length),yS (Z0:i< (ZY x.nodes x.E).nodes.length),l,Y4];generalize ((ZY x.nodes x.E).nodes[i]?).getD default=n;have a:k=1\/k=2\/k=3\/k=4:=Z0;unfold Q1 Jq;generalize Y4 x c (ZY x.nodes x.E) i=s;obtain g|h|⟨j,rfl⟩:=SR x i c;obtain rfl|rfl|rfl|rfl:=a<;>simp[nk,X5,g,UA];cases c<;>cases d:Wv x i<;>obtain rfl|rfl|rfl|rfl:=a<;>simp[nk,X5,h,d,UA,Q0]
  cases d:Wv x i<;>obtain rfl|rfl|rfl|rfl:=a<;>simp[nk,X5,j,d,UA,Q0]
def Of(hx:x.ok):Placed (Yx x c) x:=by
 refine⟨(LG hx c).1,λi a=> ?_,λi a=> ?_,λk g=> ?_⟩;rw[Rp]at a;rw[Kt a,yS a];have d:=λk g=>zl (x:=x) (c:=c) i Z0 k g;unfold Q1 Jq;obtain j|h|⟨f,rfl⟩:=SR x i c;right;simp[j,d 2,nk];right;simp[h,d 1,nk];left;refine⟨by simp[f],?_⟩;cases n:Wv x i;exact⟨3,.inl rfl,by simp[f]⟩;exact⟨4,.inr rfl,by simp[f]⟩;rw[Rp]at a;rw[Kt a,yS a];have d:=λk g=>zl (x:=x) (c:=c) i Z0 k g;unfold Q1 Jq;obtain j|h|⟨f,rfl⟩:=SR x i c;left;simp[j];cases c;left;simp;right;cases n:Wv x i;simp[h,d 3,nk];simp[h,d 4,nk];right;cases n:Wv x i;simp[f,d 3,nk];simp[f,d 4,nk];rw[Rp,zl _ (ZeQ _) k g];have l:k=1\/k=2\/k=3\/k=4:=Z0;obtain rfl|rfl|rfl|rfl:=l<;>rfl
end
end
section
def O1(h:Hp){k:Int}(d:1<=k/\k<=4):YO (Zv h) k=I (Zx h k):=by
 have a:k=1\/k=2\/k=3\/k=4:=Z0;obtain rfl|rfl|rfl|rfl:=a<;>rfl
def Z8J{s p:Int}(h:YA s p=xk):ZT (Xp s p).1=(s,p,0):=by
 have a:=YB.1 h;unfold Xp;rw[if_pos h];unfold ZT;grind
theorem Z3u(h:Hp)(p:Pl):VV (YG h p)=xk:=by
 unfold YG VV;split;rfl;unfold Xj;split;rfl;rename_i a;unfold adr;grind
theorem Z3v(b:Bt)(p:Pl)(to tw:Int):VV (Vp b p to tw)=xk:=by
 unfold Vp;split;rfl;grind [Z3u]
def Ro{gone:Bool}{ptrs:Int}:∀ {l:Z8} {i:Nat},(∀(j:Nat) (w:Int),l[j]?=J w->(gone=xk->w=0)/\(((i+j:Nat):Int)<ptrs->VV w=xk))->XM l gone ptrs i=xk
 | [],_,_=>rfl
 |w::l,i,h=>by
  obtain⟨f,g⟩:=h 0 w rfl;have d:XM l gone ptrs (i+1)=xk:=Ro λj y a=>by
   have:=h (j+1) y a;grind
  rw[XM,d];grind
theorem Oh{b:Bt}{p:Pl}{n:Nd}{tw:Int}{F r:Z8}{old:Bool}(f:p.aa=(I F:Nat))(o:ZL n<=9):Stands (F++XQ b p n tw++r) old ⟨p.aa,(I n.M:Int)+I n.data,I n.M,xw,0⟩:=by
 have a:YA ((I n.M:Int)+I n.data) (I n.M)=xk:=by
  unfold ZL at o;exact YB.2 Z0
 have d:(F++XQ b p n tw++r)[I F]?=J (Ks n):=by
  rw[Zfw,Zf9<|ZeQ _,ZgE];rfl
 have t:=Z8J a;refine⟨ZdO,a,?_,?_,Ks n,ZdO,?_⟩;grind [UA,ZL,List.length_append];simp only[f,Zf2];have e:((F++XQ b p n tw++r).drop<|I F+1).take ((I n.M:Int)+I n.data).toNat=XL b p p.aa.toNat n.M tw++n.data:=by
  have k:((I n.M:Int)+I n.data).toNat=I (XL b p p.aa.toNat n.M tw++n.data):=by simp[XL];omega
  rw[k,Zfw,Zix,Zgq Z0,ZhI,ZfE];have l:(XQ b p n tw++r).drop 1=(XL b p p.aa.toNat n.M tw++n.data)++r:=rfl;rw[l,Zio]
 rw[e];refine Ro λj w d=>⟨Z1,λg=> ?_⟩;have h:j<I n.M:=by simpa using g
 rw[Zfj (by simp_all[XL])]at d;simp only[XL,Zfa,ZeN]at d;obtain⟨q,_,rfl⟩:=d;grind [Z3v];simp_all[Zf6,ZfI,Ee,Ks,trivial]
def Z8k{b:Bt}{p o:Pl}{n:Nd}{F r:Z8}(a:o.aa=(I F:Nat))(q:ZL n<=9)(l:(adr<|YG b.h p).2=0):Stands (F++VQ b p n++r) xk ⟨o.aa,(I n.M:Int)+I n.data,I n.M,xk,(adr<|YG b.h p).1⟩:=by
 have d:YA ((I n.M:Int)+I n.data) (I n.M)=xk:=by
  unfold ZL at q;exact YB.2 Z0
 have f:(F++VQ b p n++r)[I F]?=J (YG b.h p):=by
  rw[Zfw,Zf9<|ZeQ _,ZgE];rfl
 refine⟨by show 0<=o.aa;omega,d,?_,?_,_,by rw[a];simpa using f,?_⟩;have:=Q0 b p n;unfold ZL at this;simp only[Zfx,this,a];omega;simp only[a,Zf2];have e:((F++VQ b p n++r).drop<|I F+1).take ((I n.M:Int)+I n.data).toNat=List.replicate (ZL n-1) 0:=by
  have g:((I n.M:Int)+I n.data).toNat=I (List.replicate (ZL n-1) (0:Int)):=by simp[ZL];omega
  rw[g,Zfw,Zix,Zgq Z0,ZhI,ZfE];have k:(VQ b p n++r).drop 1=List.replicate (ZL n-1) 0++r:=rfl;rw[k,Zio]
 rw[e];refine Ro λj w f=> ?_;have:=(List.mem_replicate.1<|ZeW f).2;subst this;exact⟨λ_=>rfl,λ_=>rfl⟩;simp only[ZfF];exact⟨trivial,l,trivial⟩
def Xb(b:Bt)(k:Int)(i:Nat):List Ob:=
 if(ZF b i).part=k then [⟨(ZF b i).aa,((ZQ b i).M.length:Int)+(ZQ b i).data.length,(ZQ b i).M.length,xw,0⟩]
 else if(Y5 b i).part=k then(if(ZF b i).part=0 then [⟨(Y5 b i).aa,((ZQ b i).M.length:Int)+(ZQ b i).data.length,(ZQ b i).M.length,xw,0⟩]
  else [⟨(Y5 b i).aa,((ZQ b i).M.length:Int)+(ZQ b i).data.length,(ZQ b i).M.length,xk,(adr<|YG b.h<|ZF b i).1⟩])
 else []
def obs(b:Bt)(k:Int):List Ob:=(List.range<|I b.g.nodes).flatMap<|Xb b k
section
variable {b:Bt}{x:Rw}
def Placed.sk(a:Placed b x)(d:∀n∈b.g.nodes,ZL n<=9){i:Nat}(f:i<I b.g.nodes):ZL (ZQ b i)<=9:=by
 simp_all[ZQ,ZeL,Zf7]
def Placed.len(a:Placed b x){k:Int}(d:1<=k/\k<=4):YO (Zv b.h) k=(I (YY b x k<|I b.g.nodes):Nat):=by
 rw[O1 b.h d,a.zero k d];simp
def Placed.cr(a:Placed b x){i:Nat}(f:i<I b.g.nodes)(k:(ZF b i).part≠0):((ZF b i).part=1\/(ZF b i).part=2)/\(ZF b i).aa=(I (YY b x (ZF b i).part i):Nat)/\(ZF b i).aa+ZL (ZQ b i)<=YO (Zv b.h) (ZF b i).part:=by
 obtain⟨h,_⟩|⟨j,d⟩:=a.ax i f;simp_all;refine⟨j,d,?_⟩;have:=CD b x (ZF b i).part f;rw[a.len Z0,d];have e:YQ b x (ZF b i).part i=XQ b (ZF b i) (ZQ b i) (IntKind.i64.wrap<|x.be+i):=by unfold YQ;rw[if_pos rfl]
 grind [UA]
def Placed.dh(a:Placed b x){i:Nat}(d:i<I b.g.nodes)(o:(Y5 b i).part≠0):((Y5 b i).part=3\/(Y5 b i).part=4)/\(Y5 b i).aa=(I (YY b x (Y5 b i).part i):Nat)/\(ZF b i).part≠2/\(Y5 b i).aa+ZL (ZQ b i)<=YO (Zv b.h) (Y5 b i).part:=by
 obtain h|⟨k,f,l⟩:=a.ah i d;simp_all;refine⟨k,f,l,?_⟩;have:=CD b x (Y5 b i).part d;rw[a.len Z0,f];have n:(ZF b i).part=0\/(ZF b i).part=1:=by
  by_cases j:(ZF b i).part=0;omega;have:=(a.cr d j).1;omega
 have e:I (YQ b x (Y5 b i).part i)=ZL (ZQ b i):=by
  unfold YQ;rw[if_neg Z0,if_pos rfl];split;grind [UA];exact Q0 _ _ _
 omega
def Placed.fi(a:Placed b x)(f:ZJ (Zv b.h)=xk){i:Nat}(j:i<I b.g.nodes)(d:(ZF b i).part≠0):YG b.h (ZF b i)=Y6 (Zv b.h) (ZF b i).part (ZF b i).aa:=by
 obtain⟨k,l,n⟩:=a.cr j d;have o:1<=ZL (ZQ b i):=by grind [ZL]
 unfold YG;rw[if_neg d,SK f Z0 ⟨Z0,Z0⟩];have:=V4 f (ZF b i).part;unfold Xj Y6;grind
def Placed.oy(a:Placed b x)(f:ZJ (Zv b.h)=xk){i:Nat}(j:i<I b.g.nodes)(d:(Y5 b i).part≠0):YG b.h (Y5 b i)=Y6 (Zv b.h) (Y5 b i).part (Y5 b i).aa:=by
 obtain⟨k,l,_,n⟩:=a.dh j d;have o:1<=ZL (ZQ b i):=by grind [ZL]
 unfold YG;rw[if_neg d,SK f Z0 ⟨Z0,Z0⟩];have:=V4 f (Y5 b i).part;unfold Xj Y6;grind
def Il(a:Placed b x)(z:ZJ (Zv b.h)=xk)(C:∀n∈b.g.nodes,ZL n<=9){k:Int}(F:1<=k/\k<=4):∀(m i:Nat),i+m=I b.g.nodes->Tiles (YY b x k<|I b.g.nodes) (decide (2<k)) (I<|YY b x k i) ((List.range' i m).flatMap<|Xb b k)
 |0,i,D=>by
  have:i=I b.g.nodes:=Z0;subst this;exact ZeQ _
 |m+1,i,D=>by
  have t:=Il a z C F m (i+1) Z0;have d:i<I b.g.nodes:=Z0;have w:=a.sk C d;obtain⟨r,A⟩:=K7 b x k (Z0:i+1<=I b.g.nodes);rw[List.range'_succ,Zir];have B:=Ua b x k i;by_cases f:(ZF b i).part=k;have u:YQ b x k i=XQ b (ZF b i) (ZQ b i) (IntKind.i64.wrap<|x.be+i):=by unfold YQ;rw[if_pos f]
  have q:Xb b k i=[⟨(ZF b i).aa,((ZQ b i).M.length:Int)+(ZQ b i).data.length,(ZQ b i).M.length,xw,0⟩]:=by unfold Xb;rw[if_pos f]
  obtain⟨_,j,_⟩:=a.cr d Z0;rw[f]at j;rw[q];refine⟨j,?_,?_⟩;grind [Oh];rw[B,u,Zfx,UA]at t;have:(((ZQ b i).M.length:Int)+(ZQ b i).data.length).toNat=ZL (ZQ b i) -1:=by grind [ZL]
  simp only[this];rw[show I (YY b x k i)+1+(ZL (ZQ b i) -1)=I (YY b x k i)+ZL (ZQ b i)by grind [ZL]];exact t;by_cases l:(Y5 b i).part=k;obtain⟨G,j,H,K⟩:=a.dh d Z0;have y:2<k:=Z0;rw[l]at j;have p:I (YY b x k<|i+1)=I (YY b x k i)+1+(((ZQ b i).M.length:Int)+(ZQ b i).data.length).toNat:=by
   have e:I (YQ b x k i)=ZL (ZQ b i):=by
    unfold YQ;rw[if_neg f,if_pos l];split;grind [UA];exact Q0 _ _ _
   rw[B,Zfx,e];unfold ZL;omega
  rw[p]at t;by_cases o:(ZF b i).part=0;have u:YQ b x k i=XQ b (Y5 b i) (ZQ b i) 0:=by unfold YQ;rw[if_neg f,if_pos l,if_pos o]
  have q:Xb b k i=[⟨(Y5 b i).aa,((ZQ b i).M.length:Int)+(ZQ b i).data.length,(ZQ b i).M.length,xw,0⟩]:=by unfold Xb;rw[if_neg f,if_pos l,if_pos o]
  rw[q];refine⟨j,?_,t⟩;grind [Oh];have u:YQ b x k i=VQ b (ZF b i) (ZQ b i):=by unfold YQ;rw[if_neg f,if_pos l,if_neg o]
  have q:Xb b k i=[⟨(Y5 b i).aa,((ZQ b i).M.length:Int)+(ZQ b i).data.length,(ZQ b i).M.length,xk,(adr<|YG b.h<|ZF b i).1⟩]:=by unfold Xb;rw[if_neg f,if_pos l,if_neg o]
  rw[q];refine⟨j,?_,t⟩;rw[A,B,u,decide_eq_true y];refine Z8k j w ?_;obtain⟨L,M,_⟩:=a.cr d o;rw[a.fi z d o,Tq z Z0];simp_all[YQ,if_neg,Xb,ZfE,Zg1]
def Z4P(a:Placed b x)(j:ZJ (Zv b.h)=xk)(f:∀n∈b.g.nodes,ZL n<=9){k:Int}(d:1<=k/\k<=4):Tiles (Zx (Yw x b) k) (decide (2<k)) 0<|obs b k:=by
 rw[Ft a d];have:=Il a j f d (I b.g.nodes) 0 Z0;unfold obs;rw[List.range_eq_range'];exact this
def Jj{k:Int}{o:Ob}:o∈obs b k↔ ∃i,i<I b.g.nodes/\o∈Xb b k i:=by
 grind [obs]
end
end
section
def LE{gone:Bool}{ptrs:Int}:∀ {l:Z8} {i:Nat},XM l gone ptrs i=xk->∀(j:Nat) (w:Int),l[j]?=J w->(gone=xk->w=0)/\(((i+j:Nat):Int)<ptrs->VV w=xk)
 | [],_,_,j,w,a=>by simp at a
 |y::l,i,d,j,w,a=>by
  simp only[XM,ZeO]at d;cases j with
  |zero=>
   simp at a;subst a;obtain⟨⟨f,g⟩,_⟩:=d;refine⟨λh=> ?_,λk=> ?_⟩;rw[h]at f;simpa using f;simpa[show(i:Int)<ptrs by omega]using g
  |succ j=>
   have:=LE d.2 j w ZeC;rw[show i+1+j=i+(j+1)by omega]at this;exact this
def Stands.congr{ws a:Z8}{old:Bool}{o:Ob}(s:Stands ws old o)(n:I a=I ws)(k:a[o.aa.toNat]?=ws[o.aa.toNat]?)
  (g:∀j:Nat,(j:Int)<o.size->a[o.aa.toNat+1+j]?=ws[o.aa.toNat+1+j]? \/(o.gone=xw/\o.M<=j)):Stands a old o:=by
 refine⟨s.iu,s.shape,by rw[n];exact s.aw,Ro λj w f=> ?_,by rw[k];exact s.word⟩;have d:j<o.size.toNat:=by
  have:=(ZeM.1 f).1;simp at this;omega
 rw[ZfL d,Zfn]at f;obtain g|⟨l,p⟩:=g j Z0;rw[g]at f;refine LE s.fw j w ?_;rw[ZfL d,Zfn];exact f;exact⟨λh=>(by rw[l]at h;cases h),λh=>Z0⟩
def Tiles.congr{ws d:Z8}{old:Bool}:∀ {a:Nat} {l:Zi},Tiles ws old a l->I d=I ws->(∀o∈l,Stands d old o)->Tiles d old a l
 |a,[],h,f,_=>by show I d<=a;rw[f];exact h
 |a,o::l,h,f,g=>⟨h.1,g o<|.head _,Tiles.congr h.2.2 f λx j=>g x<|.tail _ j⟩
section
variable {h g:Hp}{p:Pts}
def DO(a:Zv g=Zv h){w i j:Int}:Gos g p w i j↔Gos h p w i j:=by
 unfold Gos;rw[a]
def Tiles.place{ws:Z8}{old:Bool}:∀ {a:Nat} {l:Zi},Tiles ws old a l->∀ {i:Nat} {o:Ob},l[i]?=J o->o.aa=((a+WL (l.take i):Nat):Int)
 |_,[],_,i,o,d=>by simp at d
 |a,x::l,f,0,o,d=>by simp at d;subst d;rw[f.1];simp[WL]
 |a,x::l,f,i+1,o,d=>by
  have:=f.2.2.place (i:=i) (o:=o) Ze3;rw[this];simp[WL];omega
def Z8y{l:Zi}{i:Nat}{o:Ob}(a:l[i]?=J o):WL (l.take<|i+1)=WL (l.take i)+(1+o.size.toNat):=by
 unfold WL;rw[ZfJ,a,ZfV,Zi7];simp
end
end
section
def Ps{ws:Z8}{a:Nat}:∀ {n j:Nat},j<n->a+n<=I ws->(zr ws a n)[a+j]?=J 0
 |0,_,h,_=>Z0
 |n+1,j,h,d=>by
  rw[zr];by_cases e:j=n;subst e;rw[Zgf (by rw[jp];omega)];rw[ZfR Z0];exact Ps Z0 Z0
def Stands.app{ws r:Z8}{old:Bool}{o:Ob}(s:Stands ws old o):Stands (ws++r) old o:=by
 have k:=YB.1 s.shape;have g:=s.aw;have h:=s.iu;have f:(ws++r)[o.aa.toNat]?=ws[o.aa.toNat]? :=Zfj Z0;refine⟨s.iu,s.shape,ZdP,Ro λj w d=> ?_,by rw[f];exact s.word⟩;have a:j<o.size.toNat:=by
  have:=(ZeM.1 d).1;simp at this;omega
 rw[ZfL a,Zfn,Zfj Z0]at d;refine LE s.fw j w ?_;simp_all
def Tiles.append{ws r:Z8}{old:Bool}:∀ {a:Nat} {l d:Zi},Tiles ws old a l->a<=I ws->Tiles (ws++r) old (I ws) d->Tiles (ws++r) old a (l++d)
 |a,[],d,h,g,f=>by
  have:I ws<=a:=h;have:a=I ws:=Z0;subst this;exact f
 |a,o::l,d,h,g,f=>by
  have k:=YB.1 h.2.1.shape;have j:=h.2.1.aw;have e:=h.1;exact⟨h.1,h.2.1.app,Tiles.append h.2.2 Z0 f⟩
theorem Tiles.map{ws d:Z8}{old:Bool}{f:Ob->Ob}(g:∀o,(f o).aa=o.aa/\(f o).size=o.size)(j:I d=I ws):∀ {a:Nat} {l:Zi},Tiles ws old a l->(∀o∈l,Stands d old<|f o)->Tiles d old a (l.map f)
 |a,[],h,_=>by show I d<=a;rw[j];exact h
 |a,o::l,h,k=>⟨by rw[(g o).1];exact h.1,k o<|.head _,by rw[(g o).2];exact Tiles.map g j h.2.2 λx n=>k x<|.tail _ n⟩
def VP(a t:Int)(q:Ob):Ob:=if q.aa=a then {q with gone:=xk,target:=t}else q
theorem Kr(a t:Int)(q:Ob):(VP a t q).aa=q.aa/\(VP a t q).size=q.size/\(VP a t q).M=q.M:=by
 unfold VP;grind
theorem S9{a t:Int}{q:Ob}(h:q.aa≠a):VP a t q=q:=if_neg h
theorem S8{a t:Int}{q:Ob}(h:q.aa=a):VP a t q= {q with gone:=xk,target:=t}:=if_pos h
def Pts.mv(p:Pts)(k:Int)(o:Ob)(L:Nat)(t:Int):Pts:=⟨p.H++[⟨L,o.size,o.M,xw,0⟩],p.ab,if k=3 then p.ah.map (VP o.aa t)else p.ah,if k=3 then p.ak else p.ak.map<|VP o.aa t⟩
section
variable {h:Hp}{p:Pts}
def yG{k:Int}(a:3<=k/\k<=4)(o:Ob)(L:Nat)(t:Int):(p.mv k o L t).at 1=p.H++[⟨L,o.size,o.M,xw,0⟩]/\(p.mv k o L t).at 2=p.ab/\(p.mv k o L t).at k=(p.at k).map (VP o.aa t)/\(p.mv k o L t).at (7-k)=p.at (7-k):=by
 have:k=3\/k=4:=Z0;obtain rfl|rfl:=this<;>exact⟨rfl,rfl,rfl,rfl⟩
def Z4t{k:Int}(d:3<=k/\k<=4){o:Ob}{L:Nat}{t:Int}{j:Int}(u:1<=j/\j<=4){q:Ob}(w:q∈p.at j):∃a∈(p.mv k o L t).at j,a.aa=q.aa/\a.size=q.size/\a.M=q.M/\(a.gone=xw->a=q)/\(j<3->a=q):=by
 obtain⟨h,l,n,r⟩:=yG (p:=p) d o L t;by_cases f:j=1;subst f;exact⟨q,ZdO,rfl,rfl,rfl,λ_=>rfl,λ_=>rfl⟩;by_cases g:j=2;subst g;exact⟨q,ZdO,rfl,rfl,rfl,λ_=>rfl,λ_=>rfl⟩;by_cases x:j=k;grind [VP,List.mem_map_of_mem,Kr,S8,S9];grind
def Z4s{g:Hp}{k:Int}(f:3<=k/\k<=4){o:Ob}{L:Nat}{t:Int}(r:∀j b,Y6 (Zv g) j b=Y6 (Zv h) j b){w i j:Int}(x:1<=i/\i<=4)(y:1<=j/\j<=4)(d:Gos h p w i j):Gos g (p.mv k o L t) w i j:=by
 obtain rfl|⟨m,q,l,n,rfl⟩:=d;exact .inl rfl;obtain⟨u,a,e,_⟩:=Z4t (p:=p) f (o:=o) (L:=L) (t:=t) (j:=m) Z0 n;exact .inr ⟨m,u,l,a,by rw[r,e]⟩
def Pk{l:Zi}{o:Ob}{t:Int}(d:l.Pairwise λx y=>x.aa<y.aa)(a:o∈l)(h:o.gone=xw):Y1 (l.map<|VP o.aa t)+(1+o.size.toNat)=Y1 l:=by
 induction l with
 |nil=>simp at a
 |cons x l g=>
  rw[Zih]at d;simp only[Y1,Zfi,Zi0]at g⊢;obtain rfl|a:=Zfb.1 a
  .have:l.map (VP o.aa t)=l:=by
    conv=>rhs;rw[<-List.map_id l]
    refine ZgI λy f=>S9 ?_;have:=d.1 y f;omega
   rw[this,S8 rfl];grind [Wc]
  grind [S9]
def Body.move(r:Body h p)(b6:h.Z<=I h.H){k:Int}(G:3<=k/\k<=4){o:Ob}(P:o∈p.at k)(hg:o.gone=xw){a n:Nat}(ea:o.aa=a)(N:o.size=n):
  Body (YS h k a<|n+1) (p.mv k o (I h.H)<|ZD (Zv h) 1+I h.H):=by
 obtain⟨B,D,m,a7,a9,em,K,b3,b2⟩:=r.toTld.ob (k:=k) Z0 P;have:B=a:=Z0;subst this;have:D=n:=Z0;subst this;obtain⟨_,hm⟩:=r.gk G P hg ea N;obtain⟨m1,m2,m3,m4,m5,m6,m7,m8,m9,b8⟩:=HW h G B<|D+1;have Z:=Bo G (g:=h) K;have mr:=Z4n r.bb G K hm;have hr:=Z6N G K;have hw:∀ {j:Int} {b:Nat},3<=j/\j<=4->(j≠k\/b<B\/B+(D+1)<=b)->(Zx (YS h k B<|D+1) j)[b]?=(Zx h j)[b]? :=λC hb=>HZ G Z0 C hb;have O:∀ {j:Int},3<=j/\j<=4->I (Zx (YS h k B<|D+1) j)=I (Zx h j):=λC=>Bp G C;have R:ZD (Zv<|YS h k B<|D+1) 1=ZD (Zv h) 1:=by rw[Z];rfl
 have X:∀i,i<D+1->(((Zx h k).take<|B+(D+1)).drop B)[i]?=(Zx h k)[B+i]? :=λi z=>by
  simp_all
 have a4:I (((Zx h k).take<|B+(D+1)).drop B)=D+1:=ZdP;obtain⟨e1,e2,e3,e4⟩:=yG (p:=p) G o (I h.H)<|ZD (Zv h) 1+I h.H;have H:=((r.an k Z0).bc o P).1;obtain⟨u,hu,hc⟩:=H.word;rw[if_neg (by simp[hg])]at hc;rw[ea,Zf2]at hu;generalize b1:YS h k B (D+1)=g at*;generalize a6:((Zx h k).take<|B+(D+1)).drop B=ws at*;have a1:∀q∈p.at k,q.aa≠o.aa->∀i:Nat,(i:Int)<=q.size->q.aa.toNat+i<B\/B+(D+1)<=q.aa.toNat+i:=by
  intro q d S i z;obtain⟨b,l,_,eb,el,_⟩:=r.toTld.ob (k:=k) Z0 d;rcases(r.an k Z0).apart q d o P with e|e|e;simp_all;left;omega;omega
 have F:∀q∈p.at k,q.aa≠o.aa->∀i:Nat,(i:Int)<=q.size->(Zx g k)[q.aa.toNat+i]?=(Zx h k)[q.aa.toNat+i]? :=λq d S i z=>hw G<|.inr<|a1 q d S i z;have a0:∀b,(Zx g<|7-k)[b]?=(Zx h<|7-k)[b]? :=λb=>hw Z0<|.inl Z0;have T:Stands (h.H++ws) xw ⟨I h.H,o.size,o.M,xw,0⟩:=by
  refine⟨Z1,H.shape,ZdP,Ro λj w C=>⟨Z1,λW=> ?_⟩,u,?_,?_⟩;have L:j<D:=by
   have:=(ZeM.1 C).1;simp[N]at this;omega
  simp only[N,Zf2]at C;rw[ZfL L,Zfn,Zf9 Z0,show I h.H+1+j-I h.H=1+j by omega,X _ Z0]at C;refine(LE H.fw j w ?_).2 W;rw[ea,N,Zf2,Zf2,ZfL L,Zfn,<-C,Zg5];simp only[Zf2];grind;grind
 have a5:=V4 r.bb 1;refine⟨⟨mr,λj C=> ?_⟩,λj C q d A=> ?_,λj C q d A i z w f=> ?_,?_⟩;by_cases j1:j=1;subst j1;rw[e1];simp only[Vk,m1];exact(r.an 1 Z0).append (ZfO _) ⟨rfl,T,by show I (h.H++ws)<=_;simp[N,a4];omega⟩;by_cases j2:j=2;subst j2;rw[e2];simp only[qg,m2];exact r.an 2 Z0;by_cases Y:j=k;subst Y;rw[e3];refine(r.an j Z0).map (λq=>⟨(Kr _ _ q).1,(Kr _ _ q).2.1⟩) (O G) λq d=> ?_;by_cases e:q.aa=o.aa;have:q=o:=r.toTld.dp Z0 P d e;subst this;rw[S8 rfl];refine⟨H.iu,H.shape,ZdN,Ro λi w z=> ?_,Y6 (Zv h) 1<|I h.H,?_,?_⟩;have L:i<D:=by
  have:=(ZeM.1 z).1;simp[N]at this;omega
 simp only[ea,N,Zf2]at z;rw[ZfL L,Zfn,m3,ZfR Z0,Zg5,Ps Z0 K]at z;cases z;exact⟨λ_=>rfl,λ_=>rfl⟩;grind [Int.toNat_natCast,List.getElem?_set_self,jp];simp only[ZfF];rw[Tq r.bb Z0];grind;rw[S9 e];refine((r.an j Z0).bc q d).1.congr (O G) (by simpa using F q d e 0 (by have:=YB.1 ((r.an j Z0).bc q d).1.shape;omega)) λi z=>.inl ?_;rw[Zg5];exact F q d e (1+i) Z0;have:j=7-k:=Z0;subst this;rw[e4,m4];exact r.an (7-k) Z0;by_cases Y:j=k;subst Y;rw[e3,Zf8]at d;obtain⟨x,Q,rfl⟩:=d;by_cases e:x.aa=o.aa;have:x=o:=r.toTld.dp Z0 P Q e;subst this;rw[S8 rfl];exact⟨_,ZiL _<|.head _,by rw[R],rfl,rfl⟩;rw[S9 e]at A⊢;obtain⟨y,hy,y1,y2,y3⟩:=r.gone j C x Q A;exact⟨y,Zge _ hy,Z0,y2,y3⟩;have:j=7-k:=Z0;subst this;rw[e4]at d;obtain⟨y,hy,y1,y2,y3⟩:=r.gone _ C q d A;exact⟨y,Zge _ hy,Z0,y2,y3⟩;have b0:∀ {w i j:Int},1<=i/\i<=4->1<=j/\j<=4->Gos h p w i j->Gos g (p.mv k o (I h.H)<|ZD (Zv h) 1+I h.H) w i j:=λz C=>Z4s G hr z C;have M:∀ {j:Int} {i:Nat} {w:Int},Wd h p j i w->Wd g (p.mv k o (I h.H)<|ZD (Zv h) 1+I h.H) j i w:=λ{j i w} W=>by
  unfold Wd at W⊢;rw[m6];by_cases c1:2<j;grind;rw[if_neg c1]at W⊢;by_cases c2:j=1/\h.Z<=i;grind;rw[if_neg c2]at W⊢;grind
 by_cases j1:j=1;subst j1;rw[e1]at d;obtain d|d:=Zfg.1 d;obtain⟨b,l,l',eb,el,a8,a2,_⟩:=r.toTld.ob (k:=1) Z0 d;simp only[Vk]at a2 f;rw[m1,Zfj Z0]at f;exact M<|r.ptr 1 Z0 q d A i z w f;simp at d;subst d;simp only at z f⊢;simp only[Zf2,Vk,m1]at f⊢;rw[Zf9 Z0,show I h.H+1+i-I h.H=1+i by omega,X _ Z0]at f;have:=r.ptr k Z0 o P hg i z w (by grind [Int.toNat_natCast,Nat.add_assoc]);unfold Wd at this⊢;rw[if_pos Z0]at this;rw[if_neg Z0,if_pos ⟨rfl,Z0⟩];grind;by_cases j2:j=2;subst j2;rw[e2]at d;simp only[qg,m2]at f;exact M<|r.ptr 2 Z0 q d A i z w f;by_cases Y:j=k;subst Y;rw[e3,Zf8]at d;obtain⟨x,Q,rfl⟩:=d;by_cases e:x.aa=o.aa;grind [S8];rw[S9 e]at A z f⊢;have b4:=(YB.1 ((r.an j Z0).bc x Q).1.shape).2.2.2;rw[Zg5,F x Q e (1+i) Z0,<-Zg5]at f;exact M<|r.ptr j C x Q A i z w f;have:j=7-k:=Z0;subst this;rw[e4]at d;rw[m4]at f;exact M<|r.ptr _ C q d A i z w f;have b5:=r.room;have b7:Yu (p.mv k o (I h.H)<|ZD (Zv h) 1+I h.H)+(1+D)=Yu p:=by
  have h1:=(r.an k Z0).fh;have:=Pk (t:=ZD (Zv h) 1+I h.H) h1 P hg;rw[N,Zf2]at this;unfold Yu;have a3:k=3\/k=4:=Z0;obtain rfl|rfl:=a3;simp only[Pts.nc]at this;simp only[Pts.mv,ZfF];omega;simp only[Pts.nd]at this;simp only[Pts.mv,show ¬(4:Int)=3 by omega,ZfI];omega
 grind
end
end
section
def SG(h:Hp)(p:Pts):Prop:=∀o∈p.H,Tk p (ZD (Zv h) 1+o.aa)=1
section
variable {h g:Hp}{p q:Pts}
def Z8B{l:Zi}{o:Ob}{t b:Int}(d:l.Pairwise λx y=>x.aa<y.aa)(a:o∈l)(g:o.gone=xw):XB (l.map<|VP o.aa t) b=XB l b+if t=b then 1 else 0:=by
 induction l with
 |nil=>simp at a
 |cons x l h=>
  rw[Zih]at d;have e:∀(y:Ob) (r:Zi),XB (y::r) b=(if y.gone=xk/\y.target=b then 1 else 0)+XB r b:=λy r=>by
   unfold XB;grind
  rw[Zfi,e,e];obtain rfl|a:=Zfb.1 a
  .have:l.map (VP o.aa t)=l:=by
    conv=>rhs;rw[<-List.map_id l]
    refine ZgI λy f=>S9 ?_;have:=d.1 y f;omega
   rw[this,S8 rfl];grind
  grind [S9]
def Z8C(r:Body h p){b:Int}(n:I h.H<=b):Tk p (ZD (Zv h) 1+b)=0:=by
 have key:∀k:Int,3<=k/\k<=4->XB (p.at k) (ZD (Zv h) 1+b)=0:=λk d=>by
  unfold XB;rw[ZgC,ZhN];intro o f a;simp only[ZeO,Zfh]at a;obtain⟨y,g,e,_⟩:=r.gone k d o f a.1;have:=r.toTld.kx g;omega
 have j:=key 3 Z0;have l:=key 4 Z0;simp_all[Pts.nc,Pts.nd,Tk]
def Z8A(r:Body h p){k:Int}(j:3<=k/\k<=4){o:Ob}(g:o∈p.at k)(f:o.gone=xw){L:Nat}{t b:Int}:Tk (p.mv k o L t) b=Tk p b+if t=b then 1 else 0:=by
 have d:=Z8B (t:=t) (b:=b) (r.an k Z0).fh g f;unfold Tk;have a:k=3\/k=4:=Z0;obtain rfl|rfl:=a;simp only[Pts.nc]at d;simp only[Pts.mv,ZfF];omega;simp only[Pts.nd]at d;simp only[Pts.mv,show ¬(4:Int)=3 by omega,ZfI];omega
structure Ext (h:Hp) (p:Pts) (g:Hp) (q:Pts):Prop where
 H:∃ws,g.H=h.H++ws
 ab:g.ab=h.ab
 base:g.base=h.base
 cap:g.cap=h.cap
 rz:g.to=h.to
 Y:g.Y=h.Y
 Z:g.Z=h.Z
 E:g.E=h.E
 so:I g.ah=I h.ah
 oi:I g.ak=I h.ak
 gw:∃r,q.H=p.H++r
 gu:q.ab=p.ab
 lq:∀k:Int,3<=k/\k<=4->(q.at k).map (λo=>(o.aa,o.size,o.M))=(p.at k).map (λo=>(o.aa,o.size,o.M))
 gone:∀k:Int,3<=k/\k<=4->∀(i:Nat) (o o':Ob),(p.at k)[i]?=J o->(q.at k)[i]?=J o'->(o.gone=xk->o'=o)/\(o'.gone=xw->o'=o/\∀j:Nat,(j:Int)<=o.size->(Zx g k)[o.aa.toNat+j]?=(Zx h k)[o.aa.toNat+j]?)
 room:(I g.H:Int)+Yu q=I h.H+Yu p
def Ext.refl(h:Hp)(p:Pts):Ext h p h p:=
 ⟨⟨[],Z1⟩,rfl,rfl,rfl,rfl,rfl,rfl,rfl,rfl,rfl,⟨[],Z1⟩,rfl,λ_ _=>rfl,λk f i o g a d=>ZdO,rfl⟩
theorem Ext.trans{f:Hp}{s:Pts}(a:Ext h p g q)(b:Ext g q f s):Ext h p f s:=by
 obtain⟨w1,y⟩:=a.H;obtain⟨w2,z⟩:=b.H;obtain⟨H,A⟩:=a.gw;obtain⟨K,B⟩:=b.gw;refine⟨⟨w1++w2,by rw[z,y,Zfw]⟩,b.ab.trans a.ab,b.base.trans a.base,b.cap.trans a.cap,b.rz.trans a.rz,b.Y.trans a.Y,b.Z.trans a.Z,b.E.trans a.E,b.so.trans a.so,b.oi.trans a.oi,⟨H++K,by rw[B,A,Zfw]⟩,b.gu.trans a.gu,λk d=>(b.lq k d).trans<|a.lq k d,λk d i o r t C=> ?_,b.room.trans a.room⟩;have M:I (q.at k)=I (p.at k):=by have:=ZfS List.length<|a.lq k d;simpa using this
 have L:=(ZeM.1 t).1;have n:(q.at k)[i]?=J ((q.at k)[i]'Z0):=ZeL _;generalize (q.at k)[i]'Z0=w at n;obtain⟨x,c2⟩:=a.gone k d i o w t n;obtain⟨d1,d2⟩:=b.gone k d i w r n C;refine⟨λl=> ?_,λl=> ?_⟩;have:=x l;subst this;exact d1 l;obtain⟨k1,D⟩:=d2 l;subst k1;obtain⟨F,G⟩:=c2 l;subst F;exact⟨rfl,λj u=>(D j u).trans<|G j u⟩
def Ext.fst(e:Ext h p g q)(k a:Int)(d:k=1\/k=3\/k=4\/k=2):Y6 (Zv g) k a=Y6 (Zv h) k a:=by
 unfold Y6 ZD Zv;simp only[e.base,e.cap,e.rz,e.ab,e.oi]
def Ext.mem(e:Ext h p g q){j:Int}(l:1<=j/\j<=4){o:Ob}(f:o∈p.at j):∃a∈q.at j,a.aa=o.aa/\a.size=o.size/\a.M=o.M:=by
 have d:j=1\/j=2\/j=3\/j=4:=Z0;obtain rfl|rfl|k:=d;obtain⟨r,n⟩:=e.gw;exact⟨o,ZdO,rfl,rfl,rfl⟩;exact⟨o,by show o∈q.ab;rw[e.gu];exact f,rfl,rfl,rfl⟩;have:=e.lq j Z0;grind [List.mem_map_of_mem,Prod.mk.injEq]
def Ext.oj(e:Ext h p g q){w i j:Int}(t:1<=i/\i<=4)(u:1<=j/\j<=4)(l:Gos h p w i j):Gos g q w i j:=by
 obtain rfl|⟨m,o,f,n,rfl⟩:=l;exact .inl rfl;have a:1<=m/\m<=4:=by obtain rfl|rfl:=f<;>assumption
 obtain⟨r,d,k,_⟩:=e.mem a n;exact .inr ⟨m,r,f,d,by rw[e.fst _ _ Z0,k]⟩
theorem Body.ext(r:Body h p)(T:h.Z<=I h.H){k:Int}(f:3<=k/\k<=4){o:Ob}(u:o∈p.at k)(F:o.gone=xw){a n:Nat}(ea:o.aa=a)(P:o.size=n):
  Ext h p (YS h k a<|n+1) (p.mv k o (I h.H)<|ZD (Zv h) 1+I h.H):=by
 obtain⟨g,w,m,O,Q,em,z,S,R⟩:=r.toTld.ob (k:=k) Z0 u;have:g=a:=Z0;subst this;have:w=n:=Z0;subst this;obtain⟨Y,Z,m3,m4,m5,m6,m7,m8,m9,C⟩:=HW h f g<|w+1;obtain⟨L,M,N,e4⟩:=yG (p:=p) f o (I h.H)<|ZD (Zv h) 1+I h.H;have W:(YS h k g<|w+1).ah.length=I h.ah:=Bp (j:=3) f Z0;have X:(YS h k g<|w+1).ak.length=I h.ak:=Bp (j:=4) f Z0;refine⟨⟨_,Y⟩,Z,m9,m8,C,m7,m6,m5,W,X,⟨_,L⟩,M,λj G=> ?_,λj G i x x' q y=> ?_,?_⟩;by_cases K:j=k;simp_all[Zhh,ZgI,Kr,ZD,Zv,Function.comp];have:j=7-k:=Z0;simp_all;by_cases K:j=k;subst K;rw[N,Zfa,q]at y;simp at y;subst y;have d:=ZeW q;by_cases e:x.aa=o.aa;have:x=o:=r.toTld.dp Z0 u d e;subst this;rw[S8 rfl];exact⟨λh=>(by rw[F]at h;cases h),λh=>Ze2⟩;rw[S9 e];refine⟨λ_=>rfl,λ_=>⟨rfl,λi hi=>HZ f Z0 G<|.inr ?_⟩⟩;obtain⟨b,l,_,eb,el,_⟩:=r.toTld.ob (k:=j) Z0 d;rcases(r.an j Z0).apart x d o u with D|D|D;simp_all;left;omega;omega;have:j=7-k:=Z0;simp_all;have q:=(r.an k Z0).fh;have B:=Pk (t:=ZD (Zv h) 1+I h.H) q u F;rw[P,Zf2]at B;have H:=Z4m f z;unfold Yu;have A:k=3\/k=4:=Z0;obtain rfl|rfl:=A;simp only[Pts.nc]at B;simp only[Pts.mv,ZfF];omega;simp only[Pts.nd]at B;simp only[Pts.mv,show ¬(4:Int)=3 by omega,ZfI];omega
def Z50(r:Body h p)(f:SG h p)(g:h.Z<=I h.H){k:Int}(l:3<=k/\k<=4){o:Ob}(q:o∈p.at k)(j:o.gone=xw){a n:Nat}(t:o.aa=a)(u:o.size=n):
  SG (YS h k a<|n+1) (p.mv k o (I h.H)<|ZD (Zv h) 1+I h.H):=by
 have e:=r.ext g l q j t u;have w:ZD (Zv<|YS h k a<|n+1) 1=ZD (Zv h) 1:=by
  have:=e.fst 1 0<|.inl rfl;unfold Y6 at this;omega
 intro x d;rw[Z8A r l q j,w];obtain d|d:=Zfg.1 d;have:=r.toTld.kx d;rw[f x d,if_neg Z0];simp_all[Z8C,Int.le_refl]
def Res(g:Hp)(q:Pts)(w v:Int):Prop:=(w=0/\v=0)\/∃k o,(k=3\/k=4)/\o∈q.at k/\w=Y6 (Zv g) k o.aa/\o.gone=xk/\v=2*o.target+1
theorem Res.ext{w v:Int}(r:Res h p w v)(e:Ext h p g q):Res g q w v:=by
 obtain r|⟨k,o,t,u,j,d,l⟩:=r;exact .inl r;obtain⟨i,f⟩:=Zfd u;have x:I (q.at k)=I (p.at k):=by have:=ZfS List.length<|e.lq k Z0;simpa using this
 have n:=(ZeM.1 f).1;have a:(q.at k)[i]?=J ((q.at k)[i]'Z0):=ZeL _;have:=(e.gone k Z0 i o _ f a).1 d;rw[this]at a;exact .inr ⟨k,o,t,ZeW a,by rw[e.fst _ _ Z0];exact j,d,l⟩
structure FwdTo (h:Hp) (p:Pts) (w v:Int) (g:Hp) (q:Pts):Prop where
 fwd:fwd h w=(v,g,0)
 body:Body g q
 gx:SG h p->SG g q
 ext:Ext h p g q
 vh:Gos g q v 1 2
 zero:v=0↔w=0
 da:(Gos h p w 1 2/\v=w/\g=h/\q=p)\/Res g q w v
 how:(g=h/\q=p)\/∃(k:Int) (o:Ob) (a n:Nat),(3<=k/\k<=4)/\o∈p.at k/\o.gone=xw/\o.aa=a/\o.size=n/\g=YS h k a (n+1)/\q=p.mv k o (I h.H) (ZD (Zv h) 1+I h.H)/\v=Y6 (Zv h) 1 (I h.H)
def Body.ik(r:Body h p)(l:h.Z<=I h.H){w:Int}(M:Gos h p w 1 2\/Gos h p w 3 4):∃v g q,FwdTo h p w v g q:=by
 by_cases C:w=0;subst C;exact⟨0,h,p,G5 r.bb,r,id,.refl h p,.inl rfl,Z1,.inr<|.inl ⟨rfl,rfl⟩,.inl ⟨rfl,rfl⟩⟩;have B:∃k o,1<=k/\k<=4/\o∈p.at k/\w=Y6 (Zv h) k o.aa:=by
  obtain(G|⟨k,o,f,d,e⟩)|(G|⟨k,o,f,d,e⟩):=M;omega;grind;omega;grind
 obtain⟨k,o,k1,O,d,rfl⟩:=B;by_cases H:k<=2;exact⟨_,h,p,r.kf ⟨k1,H⟩ d,r,id,.refl h p,.inr ⟨k,o,Z0,d,rfl⟩,ZgF,.inl ⟨.inr ⟨k,o,Z0,d,rfl⟩,rfl,rfl,rfl⟩,.inl ⟨rfl,rfl⟩⟩;have f:3<=k/\k<=4:=Z0;cases j:o.gone;obtain⟨a,n,m,t,u,em,K,_⟩:=r.toTld.ob ⟨k1,O⟩ d;obtain⟨F,_⟩:=r.gk f d j t u;have e:=r.ext l f d j t u;have b:=r.move l f d j t u;have x:(⟨I h.H,o.size,o.M,xw,0⟩:Ob)∈(p.mv k o (I h.H)<|ZD (Zv h) 1+I h.H).H:=ZiL _<|.head _;have A:Y6 (Zv h) 1 (I h.H)=Y6 (Zv<|YS h k a<|n+1) 1 (I h.H):=(e.fst 1 _<|.inl rfl).symm;exact⟨_,_,_,F,b,λz=>Z50 r z l f d j t u,e,.inr ⟨1,_,.inl rfl,x,A⟩,iff_of_false (Cz r.bb Z0) C,.inr<|.inr ⟨k,_,Z0,by rw[(yG f o _ _).2.2.1];exact ZgJ d,by rw[e.fst _ _ Z0,(Kr _ _ _).1],by rw[S8 rfl],by rw[S8 rfl];rfl⟩,.inr ⟨k,o,a,n,f,d,j,t,u,rfl,rfl,rfl⟩⟩;obtain⟨y,D,e,_⟩:=r.gone k f o d j;have L:2*o.target+1=Y6 (Zv h) 1 y.aa:=by unfold Y6;omega
 have N:=r.toTld.kx D;refine⟨_,h,p,r.ke f d j,r,id,.refl h p,.inr ⟨1,y,.inl rfl,D,L⟩,?_,.inr<|.inr ⟨k,o,Z0,d,rfl,j,rfl⟩,.inl ⟨rfl,rfl⟩⟩;omega
end
end
section
def Wz(h:Hp):Hp:=⟨h.base,h.cap,1-h.to,xw,0,[],[],h.H,h.ab,h.E⟩
def RW(g:Hp)(i:Nat):Hp:= {(fwd g<|(g.E[i]?).getD 0).2.1 with E:=(fwd g<|(g.E[i]?).getD 0).2.1.E.set i (fwd g<|(g.E[i]?).getD 0).1}
def VO(g:Hp):Nat->Hp
 |0=>g
 |i+1=>RW (VO g i) i
def TA(g:Hp):Hp:=if 0<(I g.H) then {g with Y:=xk}else {g with Y:=xw,ah:=[],ak:=[]}
def X0(h:Hp):Hp:=TA<|VO (Wz h)<|I h.E
def S6(h:Hp):Hp×Int:=if Yt h=xw then(Hp.zero,1)else if h.Y then(Hp.zero,10)else(X0 h,0)
def Stands.ah{ws:Z8}{o:Ob}(s:Stands ws xw o):Stands ws xk o:=by
 obtain⟨w,f,a⟩:=s.word;have d:o.gone=xw:=by
  cases d:o.gone;rfl;rw[if_pos d]at a;cases a.1
 refine⟨s.iu,s.shape,s.aw,s.fw,w,f,?_⟩;rw[if_neg (by simp[d])]at a⊢;exact⟨λ_=>Ee (by rw[a.2.1]),a.2⟩
def Tiles.ah{ws:Z8}:∀ {a:Nat} {l:Zi},Tiles ws xw a l->Tiles ws xk a l
 |_,[],h=>h
 |_,_::_,h=>⟨h.1,h.2.1.ah,Tiles.ah h.2.2⟩
def Pj{l:Zi}(h:∀o∈l,o.gone=xw):Y1 l=WL l:=by
 have:=Dy l;have:Ao l=0:=Z8w λo a=>by rw[h o a];rfl
 omega
def Km(p:Pts):Pts:=⟨[],[],p.H,p.ab⟩
section
variable {h:Hp}{p:Pts}
def FL(h:Hp)(k a:Int)(d:k=1\/k=2):Y6 (Zv<|Wz h) (k+2) a=Y6 (Zv h) k a:=by
 obtain rfl|rfl:=d;show 2*(h.base+(1- (1-h.to))*h.cap+a)+1=2*(h.base+h.to*h.cap+a)+1;rw[show 1- (1-h.to)=h.to by omega];show 2*(h.base+(1- (1-h.to))*h.cap+(h.cap-I h.ab)+a)+1=2*(h.base+h.to*h.cap+(h.cap-I h.ab)+a)+1;rw[show 1- (1-h.to)=h.to by omega]
def Ae{w:Int}(d:Gos h p w 1 2):Gos (Wz h) (Km p) w 3 4:=by
 obtain rfl|⟨k,o,f,a,rfl⟩:=d;exact .inl rfl;obtain rfl|rfl:=f;exact .inr ⟨3,o,.inl rfl,a,(FL h 1 _<|.inl rfl).symm⟩;exact .inr ⟨4,o,.inr rfl,a,(FL h 2 _<|.inr rfl).symm⟩
def Z1M(r:Rt h p)(hc:h.Y=xw):Body (Wz h)<|Km p:=by
 have M:=XK.1 r.bb;have l:=r.an 1 Z0;have q:=r.an 2 Z0;simp only[Vk,qg,Pts.mc,Pts.tv]at l q;refine⟨⟨XK.2 ?_,λk x=> ?_⟩,λk x o d g=> ?_,λk x o d g j u w y=> ?_,?_⟩;have A:(Zv h).cap=h.cap:=rfl;have B:(Zv h).base=h.base:=rfl;have C:(Zv h).to=h.to:=rfl;have D:(Zv h).H=I h.H:=rfl;have F:(Zv h).ab=I h.ab:=rfl;simp only[Zv,Wz,ZfU];omega;have f:k=1\/k=2\/k=3\/k=4:=Z0;obtain rfl|rfl|rfl|rfl:=f;exact ZeQ 0;exact ZeQ 0;exact l.ah;exact q.ah;have f:k=3\/k=4:=Z0;obtain rfl|rfl:=f;have:=l.ct o d;rw[g]at this;cases this;have:=q.ct o d;rw[g]at this;cases this;have f:k=1\/k=2\/k=3\/k=4:=Z0;obtain rfl|rfl|rfl|rfl:=f;cases d;cases d;have:=r.ptr 1 Z0 o d g j u w y;obtain⟨a,n,m,G,H,em,t,_⟩:=r.toTld.ob (k:=1) Z0 d;simp only[Vk]at t;unfold Wd at this⊢;rw[if_neg Z0,if_neg (by rw[(r.rest hc).1];omega)]at this;rw[if_pos Z0];exact Ae this;have:=r.ptr 2 Z0 o d g j u w y;unfold Wd at this⊢;rw[if_neg Z0,if_neg Z0]at this;rw[if_pos Z0];exact Ae this;have K:=l.sum<|ZfO _;have L:=q.sum<|ZfO _;have w1:=Pj l.ct;have w2:=Pj q.ct;have z:=r.room;simp only[Yu,Km,Wz,ZfU];omega
structure FlipI (h:Hp) (p:Pts) (i:Nat) (g:Hp) (q:Pts):Prop where
 body:Body g q
 gx:SG g q
 ext:Ext (Wz h) (Km p) {g with E:=h.E} q
 len:I g.E=I h.E
 rest:∀j,i<=j->g.E[j]?=h.E[j]?
 uv:∀j:Nat,j<i->∀w v,h.E[j]?=J w->g.E[j]?=J v->Gos g q v 1 2/\Res g q w v
def Body.E(r:Body h p)(l:Z8):Body {h with E:=l} p:=⟨⟨r.bb,r.an⟩,r.gone,r.ptr,r.room⟩
def FK(r:Rt h p){i:Nat}(a:i<xq h.E){g:Hp}{q:Pts}(I:FlipI h p i g q):Gos g q h.E[i] 3 4:=I.ext.oj (i:=3) (j:=4) Z0 Z0<|Ae<|r.E _<|Zf7 a
def Z1P(r:Rt h p){i:Nat}(y:i<xq h.E){g:Hp}{q:Pts}(I:FlipI h p i g q){v:Int}{g':Hp}{t:Pts}(f:FwdTo g q (h.E[i]) v g' t):FlipI h p (i+1) (RW g i) t:=by
 have B:g.E[i]?=J h.E[i]:=by rw[I.rest i<|ZeQ _];exact ZeL y
 have O:=FK r y I;have e:RW g i= {g' with E:=g'.E.set i v}:=by
  unfold RW;rw[B,Zfl,f.fwd]
 have x:g'.E=g.E:=f.ext.E;have l:Res g' t h.E[i] v:=by
  obtain⟨K,C,P,Q⟩|B:=f.da;obtain d|⟨k,o,S,N,D⟩:=O;exact .inl ⟨d,C.trans d⟩;obtain d|⟨T,W,M,A,F⟩:=K;exact .inl ⟨d,C.trans d⟩;obtain⟨R,_⟩:=I.body.toTld.inj Z0 Z0 N A<|D.symm.trans F;omega;exact B
 rw[e];refine⟨f.body.E _,f.gx I.gx,I.ext.trans ⟨f.ext.H,f.ext.ab,f.ext.base,f.ext.cap,f.ext.rz,f.ext.Y,f.ext.Z,rfl,f.ext.so,f.ext.oi,f.ext.gw,f.ext.gu,f.ext.lq,f.ext.gone,f.ext.room⟩,?_,λj L=> ?_,λj L w u a n=> ?_⟩;simp only[ZgH,x];exact I.len;simp only;rw[ZfR Z0,x];exact I.rest j Z0;simp only at n;by_cases z:j=i;subst z;rw[Zgf (by rw[x,I.len];exact y)]at n;cases n;rw[ZeL y]at a;cases a;exact⟨f.vh,l⟩;rw[ZfR Z0,x]at n;obtain⟨G,H⟩:=I.uv j Z0 w u a n;exact⟨(show Gos g' t u 1 2 from f.ext.oj Z0 Z0 G),(show Res g' t w u from H.ext f.ext)⟩
def FO(r:Rt h p){i:Nat}(j:i<xq h.E){g:Hp}{q:Pts}(I:FlipI h p i g q):(∃v d a,FwdTo g q (h.E[i]) v d a)/\∃a,FlipI h p (i+1) (RW g i) a/\(fwd g<|(g.E[i]?).getD 0).2.2=0:=by
 have l:g.E[i]?=J h.E[i]:=by rw[I.rest i<|ZeQ _];exact ZeL j
 have k:g.Z<=xq g.H:=by
  have:g.Z=0:=I.ext.Z;omega
 obtain⟨v,d,a,f⟩:=I.body.ik k<|.inr<|FK r j I;exact⟨⟨v,d,a,f⟩,a,Z1P r j I f,by rw[l,Zfl,f.fwd]⟩
def zM(r:Rt h p)(hc:h.Y=xw):∀i,i<=xq h.E->∃q,FlipI h p i (VO (Wz h) i) q
 |0,_=>⟨Km p,Z1M r hc,λo d=>(by cases d),.refl _ _,rfl,λ_ _=>rfl,λj k=>Z0⟩
 |i+1,g=>by
  obtain⟨q,I⟩:=zM r hc i Z0;obtain⟨_,f,a,_⟩:=FO r Z0 I;exact⟨f,a⟩
def Z1O(r:Rt h p)(hc:h.Y=xw){g:Hp}{q:Pts}(I:FlipI h p (xq h.E) g q):Rt (TA g) (if 0<(xq g.H) then q else⟨[],[],[],[]⟩)/\(¬0<xq g.H->g.H=[]/\q.H=[]/\q.ab=[]/\∀w∈g.E,w=0):=by
 have t:g.Z=0:=I.ext.Z;have f:g.ab=[]:=I.ext.ab;have y:q.ab=[]:=I.ext.gu;have d:∀w∈g.E,Gos g q w 1 2:=λw A=>by
  obtain⟨j,D⟩:=Zfd A;have u:=(ZeM.1 D).1;rw[I.len]at u;exact(I.uv j u _ w (ZeL u) D).1
 have F:xq g.E<=16:=by rw[I.len];exact r.gd
 by_cases x:0<xq g.H;refine⟨?_,λh=>absurd x h⟩;rw[if_pos x];unfold TA;rw[if_pos x];have b:=I.body;exact⟨⟨⟨b.bb,b.an⟩,b.gone,b.ptr,b.room⟩,F,by show 0<=g.Z;omega,by show g.Z<=xq g.H;omega,λ_=>(by show g.Z<xq g.H;omega),λh=>Ze2,λ_=>I.gx,d⟩;have a:g.H=[]:=ZgC.1 Z0;have z:q.H=[]:=by
  have:=I.body.an 1 Z0;simp only[Vk,Pts.mc,a]at this;exact this.nil
 have G:∀w∈g.E,w=0:=λw A=>by
  obtain h|⟨k,o,B,l,_⟩:=d w A;exact h;obtain rfl|rfl:=B;simp only[Pts.mc,z]at l;cases l;simp only[Pts.tv,y]at l;cases l
 refine⟨?_,λ_=>⟨a,z,y,G⟩⟩;rw[if_neg x];unfold TA;rw[if_neg x];have u:=XK.1 I.body.bb;have n:∀k,(⟨[],[],[],[]⟩:Pts).at k=[]:=λk=>by unfold Pts.at;split<;>(try split)<;>(try split)<;>rfl
 have C:∀k,Zx {g with Y:=xw,ah:=[],ak:=[]} k=[]:=λk=>by unfold Zx;simp only[a,f];split<;>(try split)<;>(try split)<;>rfl
 refine⟨⟨⟨XK.2 ?_,λk B=> ?_⟩,λk B o l=> ?_,λk B o l=> ?_,?_⟩,F,by show 0<=g.Z;omega,by show g.Z<=xq g.H;omega,λh=>Ze2,λ_=>⟨by show g.Z=xq g.H;rw[a,t];rfl,rfl,rfl⟩,λh=>Ze2,λw A=>.inl<|G w A⟩;simp only[Zv,ZfU]at u⊢;omega;rw[n,C];exact ZeQ _;rw[n]at l;cases l;rw[n]at l;cases l;show(xq g.H:Int)+xq g.ab+Yu ⟨[],[],[],[]⟩<=g.cap;rw[a,f];simp only[Zv]at u;simp[Yu,Y1];omega
def Z1N(r:Rt h p)(hc:h.Y=xw):∃g q,FlipI h p (xq h.E) g q/\X0 h=TA g/\Rt (TA g) (if 0<(xq g.H) then q else⟨[],[],[],[]⟩)/\(¬0<xq g.H->g.H=[]/\q.H=[]/\q.ab=[]/\∀w∈g.E,w=0):=by
 obtain⟨q,I⟩:=zM r hc (xq h.E)<|ZeQ _;exact⟨_,q,I,rfl,Z1O r hc I⟩
end
end
end Vm
end
