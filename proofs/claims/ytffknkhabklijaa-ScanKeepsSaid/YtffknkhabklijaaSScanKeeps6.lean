import Derived.RangeFuncNested
import Derived.RangeFuncBound
import Derived.LoopNIn
import Derived.LoopIn
import Derived.Shelf.RegionOpen
import Derived.RecoverIn
import Derived.Maps.OwnIn
import Derived.Test.YtffknkhabklijaaSScanKeeps5
set_option linter.unusedSimpArgs false
set_option linter.unusedVariables false
set_option linter.defProp false
open Option renaming some→xk,none→xw
open Bool renaming true→xy,false→xh
open List renaming length→P
open Array renaming size→U
open Go.World renaming heap→R
open List renaming length→xq
open Array renaming size→xz
open Go.World renaming heap→xj
set_option maxHeartbeats 1000000
set_option maxRecDepth 100000
theorem Zdx{p:Prop}(h:p:=by simp[Xf];omega):p:=h
theorem Zdm{p:Prop}(h:p:=by rw[cell_of_row _ _ _ _ _ _ d.out.2.1];rfl):p:=h
theorem Zde{p:Prop}(h:p:=by have:=d.out.size;simp at this;omega):p:=h
theorem ZcP{p:Prop}(h:p:=by have:=heap_alloc_new (w.alloc (.cells #[.int .i64 0,.int .i64 0,.int .i64 0,.bool xh,.int .u64 0] 59)) (.cells #[.int .i64 a,.int .i64 0,.int .i64 0,.bool xh,.int .u64 0] 59);simp_all):p:=h
theorem Zd7{p:Prop}(h:p:=by rw[cell_of_row _ _ _ _ _ _ n];rfl):p:=h
theorem Zd6{p:Prop}(h:p:=by rw[cell_of_row _ _ _ _ _ _ h];rfl):p:=h
theorem Zd8{p:Prop}(h:p:=by rw[cell_of_row _ _ _ _ _ _ u];rfl):p:=h
theorem ZcX{p:Prop}(h:p:=by rw[Zz _ (by omega) (by omega)];omega):p:=h
theorem Zd5{p:Prop}(h:p:=by rw[cell_of_row _ _ _ _ _ _ F];rfl):p:=h
def Zgu:=@List.findIdx?_cons
def Zh7:=@List.find?_cons
def Zgg:=@decide_true
def ZeG:=@List.findIdx?_eq_some_iff_getElem
def Zh9:=@List.take_succ_cons
def ZfV:=@List.getElem?_eq_none_iff
def ZeM:=@Decidable.byContradiction
def Zhg:=@List.pairwise_cons
def ZgT:=@decide_false
def Zgh:=@Bool.false_or
def Zh4:=@Bool.eq_iff_iff
def Zgd:=@Go.grownBy_putObj'
def ZeY:=@Go.World.alloc_heap_new
def Zg3:=@Go.World.size_alloc
def Zg7:=@Go.World.putObj_heap_same
def Zen:=@Go.World.putObj_heap_other
def Zgl:=@eq_false
def Zfy:=@Array.replicate_succ
def Zfz:=@Array.replicate_zero
def ZfZ:=@List.push_toArray
def ZfG:=@List.append_toArray
def ZgE:=@eq_true
def ZfQ:=@Go.callsIn_wide
def Zg4:=@Go.grownBy_setCell'
def ZgV:=@Go.run_takeDeferred
def ZgH:=@List.filter_eq_nil_iff
def ZfH:=@List.flatMap_append
def ZgW:=@List.drop_append
def ZgA:=@Nat.add_sub_cancel_left
def Zhp:=@List.flatMap_cons
def Zex:=@List.getElem?_take_of_lt
def Zgf:=@List.mem_append_right
section
namespace Vm
open Go Go.Proofs
def XH{α:Type}(l:List (Int×α))(k:Int)(v:α):List (Int×α):=match l.findIdx? (·.1==k)with
 |some i=>l.set i (k,v)
 |none=>l++[(k,v)]
def ZY{α:Type}(l:List (Int×α))(k:Int):Option α:=(l.find? (·.1==k)).map (·.2)
def Yd{α:Type}(f:α->V)(l:List (Int×α)):V:=.mp 0 (l.map λx=>vu x.1) (l.map λx=>f x.2)
def jj{α:Type}{k}:∀ {l:List (Int×α)},T6 (vu k) (l.map λx=>vu x.1)=xk (l.findIdx? (·.1==k))
 | []=>rfl
 |y::l=>by
  simp only[Zee,T6,K3,Zer,Zgu];by_cases h:k=y.1;simp[h];have a:(k==y.1)=xh:=by simpa using h
  have d:(y.1==k)=xh:=by simpa using ZfK h
  simp[a,d,jj]
def JL{α:Type}{p}:∀ {l:List α},l.find? p=(l.findIdx? p).bind λi=>l[i]?
 | []=>rfl
 |x::l=>by
  rw[Zh7,Zgu];cases h:p x;simp[ZdZ,Zeu];rw[JL (l:=l)];cases l.findIdx? p<;>simp;simp
theorem RH{α f}{l:List (Int×α)}{k z ok}:Ud (.i .u64) (Yd f l) (vu k) z ok=match ZY l k with
  |some x=>xk (if ok then .tup [f x,.bool xy]else f x)
  |none=>xk (if ok then .tup [z,.bool xh]else z):=by
 unfold Ud Yd ZY;simp[WY,Zgg,Zfn,Zeu,jj,JL];grind [List.findIdx?_eq_some_iff_getElem]
def K8{α f l k}{x:α}:UG (.i .u64) (Yd f l) (vu k) (f x)=xk (Yd f (XH l k x)):=by
 unfold UG Yd XH;simp[WY,Zgg,Zfn,Zeu,jj];cases h:l.findIdx? (·.1==k)with
 |none=>simp
 |some i=>
  have g:=ZeG.1 h;let⟨d,n,_⟩:=g;have a:(l[i]).1=k:=by simpa using n
  simp only[ZdF,V.mp.injEq,true_and];constructor;rw[Zgr];apply ZfF;intro j;rw[List.getElem?_set];split;rename_i e;subst e;simp[d,a];rfl;rw[Zgr]
@[simp]theorem Zbg{α}f(l:List (Int×α)):YP (Yd f l)=xk (Yd f l):=rfl
@[simp]theorem Z9j{α}f(l:List (Int×α)):(Yd f l).cells=[Yd f l]:=rfl
@[simp]theorem Zbr{α}f(l:List (Int×α)):(Yd f l).one=xy:=rfl
@[simp]theorem Zb5{α}f(l:List (Int×α)):SD (Yd f l)=xk (vi (P l)):=by simp[Yd]
def QA{α l k j}{x:α}:ZY (XH l k x) j=if k=j then xk x else ZY l j:=by
 unfold ZY XH;cases h:l.findIdx? (·.1==k)with
 |none=>
  grind
 |some i=>
  let⟨d,o,a⟩:=ZeG.1 h;by_cases e:k=j;subst e;rw[if_pos rfl,JL];grind [List.findIdx?_eq_some_iff_getElem,List.getElem_set_ne];rw[if_neg e,JL,JL];have:(l.set i (k,x)).findIdx? (·.1==j)=l.findIdx? (·.1==j):=by
   apply Option.ext;intro q;rw[ZeG,ZeG];constructor;grind;grind
  rw[this];cases f:l.findIdx? (·.1==j)with
  |none=>rfl
  |some q=>
   let⟨g,n,_⟩:=ZeG.1 f;grind
structure Ck where
 h:Hp
 o1:List Ob
 o2:List Ob
 o3:List Ob
 o4:List Ob
 pm:List (Int×Int)
 lm:List (Int×(Int×Int))
def Ck.obs(s:Ck)(k:Int):List Ob:=if k=1 then s.o1 else if k=2 then s.o2 else if k=3 then s.o3 else s.o4
def ZT(s:Ck):List V:=[vu s.h.base,vi s.h.cap,vi s.h.to,.bool s.h.cycle,vi s.h.scan,.sl (s.h.low.map vu),.sl (s.h.high.map vu),.sl (s.h.old.map vu),.sl (s.h.far.map vu),.sl (s.h.roots.map vu),
 vu s.h.base,vi s.h.cap,vi s.h.to,vi (P s.h.low),vi (P s.h.high),vi (P s.h.old),vi (P s.h.far),
 .sl (s.o1.map ZL),.sl (s.o2.map ZL),.sl (s.o3.map ZL),.sl (s.o4.map ZL),Yd vi s.pm,Yd Wb s.lm]
def Xe(s:Ck):V:=.ptr (ZT s)
def R2:IntKind.i64.wrap 0=0:=by decide
def UR:IntKind.i64.wrap 1=1:=by decide
def VH:IntKind.i64.wrap 2=2:=by decide
def U2:IntKind.i64.wrap 3=3:=by decide
def NI{s k}(a:1<=k/\k<=4):VC Sol.prog 118 xh [Xe s,vi k] (.sl ((Zx s.h k).map vu)):=by
 refine ZU Sol.func118 follows Z2 Pz rfl ?_;have:k=1\/k=2\/k=3\/k=4:=Z0;obtain rfl|rfl|rfl|rfl:=this<;>simp[HM,Xe,ZT,Zx,Y5,R2,UR,VH,U2]
def YM(s:Ck)(w first last:Int):Bool:=decide (w=0)||(decide ((adr w).2=0)&&match ZY s.pm (adr w).1 with
 |some k=>decide (first<=k)&&decide (k<=last)
 |none=>xh)
def Kw{s w first last}(f:ZC w):VC Sol.prog 122 xh [Xe s,vu w,vi first,vi last] (.bool (YM s w first last)):=by
 refine ZU Sol.func122 follows Z2 PC rfl ?_;unfold YM;by_cases a:w=0;simp[AQ,a];simp[AQ,a,Xe,ZT];refine Zy (Js f) Z1 ?_;by_cases d:(adr w).2=0;case neg=>simp[d]
 simp[d,RH];cases g:ZY s.pm (adr w).1 with
 |none=>simp
 |some k=>
  simp_all
def Wm(h:Hp)(k:Int):List (Int×Int)->List Ob->List (Int×Int)
 |m,[]=>m
 |m,o::l=>Wm h k (XH m (Y1 (Zu h) k o.at_).1 k) l
def X9(h:Hp)(k:Int):List (Int×(Int×Int))->List Ob->List (Int×(Int×Int))
 |m,[]=>m
 |m,o::l=>X9 h k (if k=1 then XH m (Y1 (Zu h) k o.at_).1 (o.size,o.ptrs)else m) l
def Ck.put(s:Ck)(k:Int)(l:List Ob):Ck:=if k=1 then {s with o1:=l}else if k=2 then {s with o2:=l}else if k=3 then {s with o3:=l}else {s with o4:=l}
def XM(s:Ck)(k:Int)(l:List Ob):Ck:= {s.put k l with pm:=Wm s.h k s.pm l,lm:=X9 s.h k s.lm l}
def Kg{h k}:∀ {l:List Ob} {i:Nat} {o:Ob} {m:List (Int×Int)},l[i]?=xk o->Wm h k m (l.take (i+1))=XH (Wm h k m (l.take i)) (Y1 (Zu h) k o.at_).1 k
 | [],_,_,_,h=>Zdi
 |x::l,0,o,m,h=>by simp_all[Wm]
 |x::l,i+1,o,m,h=>by
  simp_all[Zh9,Wm,Kg]
def Kd{h k}:∀ {l:List Ob} {i:Nat} {o:Ob} {m:List (Int×(Int×Int))},l[i]?=xk o->X9 h k m (l.take (i+1))=if k=1 then XH (X9 h k m (l.take i)) (Y1 (Zu h) k o.at_).1 (o.size,o.ptrs)else X9 h k m (l.take i)
 | [],_,_,_,h=>Zdi
 |x::l,0,o,m,h=>by simp_all[X9]
 |x::l,i+1,o,m,h=>by
  simp_all[Zh9,X9,Kd]
abbrev LC:List CK:=[.fz,.fz,.fz,.fz,.fz,.fz,.fz,.fz,.fz,.fz,.fz,.fz,.fz,.fz,.fz,.fz,.fz,.fz,.fz,.fz,.fz,.own 84,.own 115]
@[simp]theorem Z5f(s:Ck)k l:(s.put k l).h=s.h:=by
 unfold Ck.put;split;rfl;split;rfl;split<;>rfl
def zK{l k x}:UG (.i .u64) (Yd vi l) (vu k) (vi x)=xk (Yd vi (XH l k x)):=K8
def zL{l k a b}:UG (.i .u64) (Yd Wb l) (vu k) (.agg [vi a,vi b])=xk (Yd Wb (XH l k (a,b))):=K8 (f:=Wb) (x:=(a,b))
def zR{s}(q:s.h.ok){k}(u:1<=k/\k<=4){l}(w:P l<=1000000):V6 Sol.prog 121 [.mem LC,.fz,.fz] [.agg (ZT s),vi k,.sl (l.map ZL)] (.tup [.tup [],.agg (ZT (XM s k l))]):=by
 refine Jg Sol.func121 follows Z2 PB Z2 ?_;have r:k=1\/k=2\/k=3\/k=4:=Z0;have t:∀k,({s.put k l with pm:=s.pm,lm:=s.lm}:Ck)=s.put k l:=by
  intro k;unfold Ck.put;split;rfl;split;rfl;split<;>rfl
 have o:=λk at_=>Dg q.lay (part:=k) (at_:=at_);unfold Zu X4 at o;obtain rfl|rfl|rfl|rfl:=r
 .simp[Ko,ZT,Y5,Ut,R2,UR,VH,U2,setCells];refine VK 3 (P l) (λi=>[(0,.m (ZT {s.put 1 l with pm:=Wm s.h 1 s.pm (l.take i),lm:=X9 s.h 1 s.lm (l.take i)})),(3,.v (vi i))]) (λ_=>True) (by simp[ZT,Ck.put,Wm,X9]) Z1 trivial ?_;intro i p _;have d:=Zz (i+1) Z0 Z0;by_cases a:i<P l
  .have f:=ZdG a;have g:=Kg (h:=s.h) (k:=1) (m:=s.pm) f;have j:=Kd (h:=s.h) (k:=1) (m:=s.lm) f;have n:=o 1 (l[i]).at_;simp[a,f,d,ZT,X3];refine Zy n Z1 ?_;simp[zK,zL,g,j,d,a];first|done|rfl|exact⟨rfl,rfl⟩
  have:i=P l:=Z0;subst this;simp[ZT,XM,ZeK]
 .simp[Ko,ZT,Y5,Ut,R2,UR,VH,U2,setCells];refine VK 3 (P l) (λi=>[(0,.m (ZT {s.put 2 l with pm:=Wm s.h 2 s.pm (l.take i),lm:=X9 s.h 2 s.lm (l.take i)})),(3,.v (vi i))]) (λ_=>True) (by simp[ZT,Ck.put,Wm,X9]) Z1 trivial ?_;intro i p _;have d:=Zz (i+1) Z0 Z0;by_cases a:i<P l
  .have f:=ZdG a;have g:=Kg (h:=s.h) (k:=2) (m:=s.pm) f;have j:=Kd (h:=s.h) (k:=2) (m:=s.lm) f;have n:=o 2 (l[i]).at_;simp[a,f,d,ZT,X3];refine Zy n Z1 ?_;simp[zK,zL,g,j,d,a];first|done|rfl|exact⟨rfl,rfl⟩
  have:i=P l:=Z0;subst this;simp[ZT,XM,ZeK]
 .simp[Ko,ZT,Y5,Ut,R2,UR,VH,U2,setCells];refine VK 3 (P l) (λi=>[(0,.m (ZT {s.put 3 l with pm:=Wm s.h 3 s.pm (l.take i),lm:=X9 s.h 3 s.lm (l.take i)})),(3,.v (vi i))]) (λ_=>True) (by simp[ZT,Ck.put,Wm,X9]) Z1 trivial ?_;intro i p _;have d:=Zz (i+1) Z0 Z0;by_cases a:i<P l
  .have f:=ZdG a;have g:=Kg (h:=s.h) (k:=3) (m:=s.pm) f;have j:=Kd (h:=s.h) (k:=3) (m:=s.lm) f;have n:=o 3 (l[i]).at_;simp[a,f,d,ZT,X3];refine Zy n Z1 ?_;simp[zK,zL,g,j,d,a];first|done|rfl|exact⟨rfl,rfl⟩
  have:i=P l:=Z0;subst this;simp[ZT,XM,ZeK]
 .simp[Ko,ZT,Y5,Ut,R2,UR,VH,U2,setCells];refine VK 3 (P l) (λi=>[(0,.m (ZT {s.put 4 l with pm:=Wm s.h 4 s.pm (l.take i),lm:=X9 s.h 4 s.lm (l.take i)})),(3,.v (vi i))]) (λ_=>True) (by simp[ZT,Ck.put,Wm,X9]) Z1 trivial ?_;intro i p _;have d:=Zz (i+1) Z0 Z0;by_cases a:i<P l
  .have f:=ZdG a;have g:=Kg (h:=s.h) (k:=4) (m:=s.pm) f;have j:=Kd (h:=s.h) (k:=4) (m:=s.lm) f;have n:=o 4 (l[i]).at_;simp[a,f,d,ZT,X3];refine Zy n Z1 ?_;simp[zK,zL,g,j,d,a];first|done|rfl|exact⟨rfl,rfl⟩
  have:i=P l:=Z0;subst this;simp[ZT,XM,ZeK]
end Vm
namespace Vm
open Go Go.Proofs
def VM(s:Ck):V:=.ptr [Xe s]
def Z6Q{s a w}(d:ZC w):VC Sol.prog 124 xh [vi a,vu w,VM s] (.bool (YM s w 1 2)):=by
 refine ZU Sol.func124 follows Z2 PE rfl ?_;have k:=Kw (s:=s) (first:=1) (last:=2) d;simp[HT,YP,V.one];refine Zy k Z1 ?_;simp
def Z6R{s a w}(d:ZC w):VC Sol.prog 125 xh [vi a,vu w,VM s] (.bool (decide (s.h.scan<=a)||YM s w 1 2)):=by
 refine ZU Sol.func125 follows Z2 PF rfl ?_;have k:=Kw (s:=s) (first:=1) (last:=2) d;unfold VM Xe at*;by_cases h:s.h.scan<=a;simp[AR,YP,V.one,ZT,h];simp[AR,YP,V.one,ZT,h];refine Zy k Z1 ?_;simp
def Z7M{s a w}(d:ZC w):VC Sol.prog 126 xh [vi a,vu w,VM s] (.bool (decide (a<s.h.scan)||YM s w 1 4)):=by
 refine ZU Sol.func126 follows Z2 PG rfl ?_;have k:=Kw (s:=s) (first:=1) (last:=4) d;unfold VM Xe at*;by_cases h:a<s.h.scan;simp[AS,YP,V.one,ZT,h];simp[AS,YP,V.one,ZT,h];refine Zy k Z1 ?_;simp
def Gb{s a w}(d:ZC w):VC Sol.prog 127 xh [vi a,vu w,VM s] (.bool (YM s w 3 4)):=by
 refine ZU Sol.func127 follows Z2 PH rfl ?_;have k:=Kw (s:=s) (first:=3) (last:=4) d;simp[HU,YP,V.one];refine Zy k Z1 ?_;simp
structure Ck.ok (s:Ck):Prop where
 h:s.h.ok
 ob:∀k,∀o∈s.obs k,Jp (P (Zx s.h k)) o/\ZC o.target
 len:∀k,P (s.obs k)<=1000000
def VI(ws:List Int)(k:Nat):Int:=(ws[k]?).getD 0
def obQ(s:Ck)(k:Int)(q:Int->Int->Bool)(o:Ob):Bool:=o.gone||(List.range o.ptrs.toNat).all λj=>q ((o.at_.toNat+1+j:Nat):Int) (VI (Zx s.h k) (o.at_.toNat+1+j))
def WG(s:Ck)(k:Int)(q:Int->Int->Bool):Bool:=(s.obs k).all (obQ s k q)
def Kv{s}(u:s.ok){k}(S:1<=k/\k<=4){f cs q}(W:∀a w,ZC w->VC Sol.prog f xh ([vi a,vu w]++cs) (.bool (q a w))):
  VC Sol.prog 123 xh [Xe s,vi k,.clo f cs] (.bool (WG s k q)):=by
 refine ZU Sol.func123 follows Z2 PD rfl ?_;simp[-List.all_eq_true,-List.all_eq_false,HR];refine Zy (NI S) Z1 ?_;have O:=u.len k;have D:=u.ob k;have Y:=(XE u.h k).1;have U:=(XE u.h k).2;have x:Y5 (.agg [.sl (s.o1.map ZL),.sl (s.o2.map ZL),.sl (s.o3.map ZL),.sl (s.o4.map ZL)]) (.int .i64 (IntKind.i64.wrap (k-1))) 4 1 xy=xk (.agg [.sl ((s.obs k).map ZL)]):=by
  have:k=1\/k=2\/k=3\/k=4:=Z0;obtain rfl|rfl|rfl|rfl:=this<;>simp[Y5,Ck.obs,R2,UR,VH,U2]
 unfold WG;generalize hL:s.obs k=L at*;generalize Q:Zx s.h k=r at*;simp[-List.all_eq_true,-List.all_eq_false,Xe,ZT,x];refine Ji 5 (xq L) (λi=>(L.take i).all (obQ s k q)=xy) Z1 Z1 Z1 ?_;intro i hi M;have Z:=Zz (i+1) Z0 Z0;by_cases l:i<xq L;have J:=ZdG l;let⟨⟨⟨a,K,N⟩,F⟩,_⟩:=D _ (Ze0 l);generalize L[i]=o at*;let⟨s1,s2,s3,s4⟩:=Yv.1 F;let⟨m,P⟩:=ZdV s3;have G:=Zz (a+1) Z0 Z0;have C:obQ s k q o=xy->(L.take (i+1)).all (obQ s k q)=xy:=λh=>by simp_all[Dl]
 have y:obQ s k q o=xh->L.all _=xh:=λg=>Dk J g;cases z:o.gone;have t:obQ s k q o=(List.range m).all λj=>q ((a+1+j:Nat):Int) (VI r (a+1+j)):=by
  unfold obQ;rw[P,K,Q,z];rfl
 simp[-List.all_eq_true,-List.all_eq_false,l,J,Yh J,X3,z,K,P];refine Ji 11 m (λj=>((List.range j).all λj=>q ((a+1+j:Nat):Int) (VI r (a+1+j)))=xy) Z1 Z1 Z1 ?_;intro j hj R;have a0:=Zz (j+1) Z0 Z0;by_cases A:j<m;obtain⟨w,d,X⟩:∃w,r[a+1+j]?=xk w/\ZC w:=⟨_,ZdG Z0,Y _ (Ze0 _)⟩;have I:VI r (a+1+j)=w:=by unfold VI;rw[d];rfl
 have p:((List.range (j+1)).all λj=>q ((a+1+j:Nat):Int) (VI r (a+1+j)))=(((List.range j).all λj=>q ((a+1+j:Nat):Int) (VI r (a+1+j)))&&q ((a+1+j:Nat):Int) w):=by
  rw[Zg0,ZhK];simp[I]
 have g:q ((a+1+j:Nat):Int) w=xh->L.all _=xh:=λg=>y (by
  grind)
 obtain⟨n,T⟩:∃n,a+1+j=n:=⟨_,rfl⟩;have B:a+1+j=(n:Int):=Z0;have H:=Zz n Z0 Z0;rw[T]at d p g;have kq:=W n w X;simp[-List.all_eq_true,-List.all_eq_false,A,G,B,H,d,Yh d,X3];refine Zy kq Z1 ?_;simp_all;have:j=m:=Z0;simp_all;have t:obQ s k q o=xy:=by unfold obQ;rw[z];rfl
 simp_all;have:i=xq L:=Z0;simp_all
@[simp]theorem Zbz l:(V.ptr l).one=xy:=rfl
@[simp]theorem Zbo l:YP (.ptr l)=xk (.ptr l):=rfl
@[simp]theorem Zbv f l:(V.clo f l).one=xy:=rfl
@[simp]theorem Zbk f l:YP (.clo f l)=xk (.clo f l):=rfl
@[simp]theorem Zbj s:YP (Xe s)=xk (Xe s):=rfl
@[simp]theorem Zbu s:(Xe s).one=xy:=rfl
@[simp]theorem Zc5 s:UP (Xe s)=xk (.agg (ZT s)):=rfl
@[simp]theorem Z9A s:(ZT s)[4]?=xk (vi s.h.scan):=rfl
@[simp]theorem Z9t s:(ZT s)[3]?=xk (.bool s.h.cycle):=rfl
@[simp]theorem Z9z s:(ZT s)[9]?=xk (.sl (s.h.roots.map vu)):=rfl
@[simp]theorem Z9x s:(ZT s)[5]?=xk (.sl (s.h.low.map vu)):=rfl
@[simp]theorem Z9v s:(ZT s)[6]?=xk (.sl (s.h.high.map vu)):=rfl
@[simp]theorem Z9y s:(ZT s)[7]?=xk (.sl (s.h.old.map vu)):=rfl
@[simp]theorem Z9u s:(ZT s)[8]?=xk (.sl (s.h.far.map vu)):=rfl
@[simp]theorem Z9s s:(ZT s)[1]?=xk (vi s.h.cap):=rfl
def Q2(s:Ck):Bool:=s.h.roots.all (λw=>YM s w 1 2)&&(WG s 2 (λ_ w=>YM s w 1 2)&&WG s 1 (λa w=>decide (s.h.scan<=a)||YM s w 1 2))
def Z6S{s}(n:s.ok):VC Sol.prog 107 xh [Xe s] (.bool (Q2 s)):=by
 refine ZU Sol.func107 follows Z2 Ps rfl ?_;have k1:=Kv n (k:=2) Z0 (f:=124) (cs:=[VM s]) (q:=λ_ w=>YM s w 1 2) (λa w l=>Z6Q l);have y:=Kv n (k:=1) Z0 (f:=125) (cs:=[VM s]) (q:=λa w=>decide _||YM s w 1 2) (λa w l=>Z6R l);have C:=λw (l:ZC w)=>Kw (s:=s) (first:=1) (last:=2) l;have A:=n.h.roots;have t:=n.h.rootsW;unfold Q2;unfold VM at k1 y;generalize WG s 2 (λ_ w=>YM s w 1 2)=z at*;generalize WG s 1 (λa w=>decide (s.h.scan<=a)||YM s w 1 2)=D at*;simp[-List.all_eq_true,-List.all_eq_false,Hw];refine Ji 3 (P s.h.roots) (λi=>(s.h.roots.take i).all (λw=>YM s w 1 2)=xy) Z1 Z1 Z1 ?_;intro i F g;have u:=Zz (i+1) Z0 Z0;by_cases j:i<P s.h.roots;have o:=ZdG j;have B:=t _ (Ze0 j);generalize s.h.roots[i]=w at*;have p:YM s w 1 2=xh->s.h.roots.all (λw=>YM s w 1 2)=xh:=λr=>Dk o r;have d:=Dl (q:=λw=>YM s w 1 2) o;rw[g]at d;simp[-List.all_eq_true,-List.all_eq_false,j,o,Yh o,X3];refine Zy (C w B) Z1 ?_;cases x:YM s w 1 2;simp[-List.all_eq_true,-List.all_eq_false,p x];rw[x]at d;simp[-List.all_eq_true,-List.all_eq_false,u,j,d];have:i=P s.h.roots:=Z0;subst this;rw[Zfa]at g;simp[-List.all_eq_true,-List.all_eq_false,g];refine Zy k1 (by simp[Wl,V.flatc]) ?_;cases z;simp;simp;refine Zy y (by simp[Wl,V.flatc]) ?_;simp
def Q5(s:Ck):Bool:=WG s 1 (λa w=>decide (a<s.h.scan)||YM s w 1 4)
def Z7N{s}(d:s.ok):VC Sol.prog 108 xh [Xe s] (.bool (Q5 s)):=by
 refine ZU Sol.func108 follows Z2 Pt rfl ?_;have k1:=Kv d (k:=1) Z0 (f:=126) (cs:=[VM s]) (q:=λa w=>decide _||YM s w 1 4) (λa w g=>Z7M g);unfold Q5;simp[Hx];refine Zy k1 (by simp[Wl,V.flatc]) ?_;simp
def RF(s:Ck):Bool:=WG s 3 (λ_ w=>YM s w 3 4)&&WG s 4 (λ_ w=>YM s w 3 4)
def Z2O{s}(g:s.ok):VC Sol.prog 109 xh [Xe s] (.bool (RF s)):=by
 refine ZU Sol.func109 follows Z2 Pu rfl ?_;have k1:=Kv g (k:=3) Z0 (f:=127) (cs:=[VM s]) (q:=λ_ w=>YM s w 3 4) (λa w d=>Gb d);have h:=Kv g (k:=4) Z0 (f:=127) (cs:=[VM s]) (q:=λ_ w=>YM s w 3 4) (λa w d=>Gb d);unfold RF;unfold VM at k1 h;generalize WG s 3 (λ_ w=>YM s w 3 4)=j at*;generalize WG s 4 (λ_ w=>YM s w 3 4)=l at*;simp[Hy];refine Zy k1 (by simp[Wl,V.flatc]) ?_;cases j;simp;simp;refine Zy h (by simp[Wl,V.flatc]) ?_;simp
end Vm
namespace Vm
open Go Go.Proofs
def Sm(s:Ck):Bool:=ZH (Zu s.h)&&(decide (P s.h.roots<=16)&&(decide (0<=s.h.scan)&&decide (s.h.scan<=P s.h.low)))
def Pi{s}(f:s.h.ok):VC Sol.prog 103 xh [Xe s] (.bool (Sm s)):=by
 refine ZU Sol.func103 follows Z2 Pn rfl ?_;have k:=KQ f.lay;unfold Sm;unfold Zu X4 at k;simp[Hu];simp[ZT];refine Zy k Z1 ?_;have e:ZH {base:=s.h.base,cap:=s.h.cap,to:=s.h.to,low:=(P s.h.low:Int),high:=(P s.h.high:Int),old:=(P s.h.old:Int),far:=(P s.h.far:Int)}=ZH (Zu s.h):=rfl;rw[e];cases ZH _;simp;by_cases d:P s.h.roots<=16;have a:(P s.h.roots:Int)<=16:=Z0;simp_all;have a:¬(P s.h.roots:Int)<=16:=Z0;simp[d,a]
def RX(s:Ck):Bool:=if s.h.cycle then decide (s.h.scan<P s.h.low)else decide (P s.h.old=0)&&(decide (P s.h.far=0)&&decide (s.h.scan=P s.h.low))
def Z61{s}:VC Sol.prog 104 xh [Xe s] (.bool (RX s)):=by
 refine ZU Sol.func104 follows Z2 Po rfl ?_;unfold RX;cases f:s.h.cycle;by_cases g:P s.h.old=0;have a:=ZfB.1 g;by_cases j:P s.h.far=0;have d:=ZfB.1 j;simp[Km,f,a,d];have d:¬s.h.far=[]:=λe=>j (by simp[e]);simp[Km,f,a,j,d];have a:¬s.h.old=[]:=λe=>g (by simp[e]);simp[Km,f,g,a];simp[Km,f]
def Q8(s:Ck):Nat:=Yx s.o3+Yx s.o4
@[simp]theorem Zba s:((ZT s).drop 17).take 4=[.sl (s.o1.map ZL),.sl (s.o2.map ZL),.sl (s.o3.map ZL),.sl (s.o4.map ZL)]:=rfl
@[simp]theorem Z9w s:P (ZT s)=23:=rfl
def Z7W{s}(t:s.ok):VC Sol.prog 52 xh [Xe s] (vi (Q8 s)):=by
 refine ZU Sol.func52 follows Z2 t8 rfl ?_;have p:=λk o l=>(t.ob k o l).1.2;have H:P s.o3<=1000000:=t.len 3;have I:P s.o4<=1000000:=t.len 4;have a:∀o∈s.o3,YJ o.size o.ptrs=xy:=p 3;have n:=p 4;have F:=Lb a;have A:Y5 (.agg [.sl (s.o1.map ZL),.sl (s.o2.map ZL),.sl (s.o3.map ZL),.sl (s.o4.map ZL)]) (.int .i64 2) 4 1 xy=xk (.agg [.sl (s.o3.map ZL)]):=by simp[Y5]
 have B:Y5 (.agg [.sl (s.o1.map ZL),.sl (s.o2.map ZL),.sl (s.o3.map ZL),.sl (s.o4.map ZL)]) (.int .i64 3) 4 1 xy=xk (.agg [.sl (s.o4.map ZL)]):=by simp[Y5]
 simp[Ih];refine Sg (λi=>[(2,.v (vi ((if 0<i then Yx s.o3 else 0)+(if 1<i then Yx s.o4 else 0):Nat))),(3,.v (vi ((i+3:Nat):Int)))]) (λi=>i<=2) (Xf 3 5) 0 Z1 Z1 ?_;rintro i J;have q:i=0\/i=1\/i=2:=Z0;obtain rfl|rfl|rfl:=q;simp[VH,A];refine VK 5 (P s.o3) (λj=>[(2,.v (vi (Yx (s.o3.take j)))),(5,.v (vi j))]) (λ_=>True) (by simp[Yx]) (λi=>Z1) trivial ?_;rintro j G-;have w:=Zz (j+1) Z0 Z0;by_cases g:j<P s.o3;have x:=ZdG g;have d:=a _ (Ze0 g);have u:=NQ x;generalize s.o3[j]=o at*;have r:Yx (s.o3.take j)<=256*P s.o3:=by
  refine Zeh (Lb λo l=>a o (ZeD l)) ?_;simp;omega
 let⟨g1,g2,C,D⟩:=Yv.1 d;let⟨z,y⟩:=ZdV g1;have w1:=Zz (1+z) Z0 Z0;have w2:=Zz ((Yx (s.o3.take j):Int)+(1+z)) Z0 Z0;cases h:o.gone;have f:WT o=1+z:=by simp[WT,h,y]
 simp_all;have f:WT o=0:=by simp[WT,h]
 simp_all;have:j=P s.o3:=Z0;subst this;rw[Zfa];simp[X3,Zz];exact⟨1,Z0,Z1,ZdB⟩;simp[U2,B];refine VK 5 (P s.o4) (λj=>[(2,.v (vi (Yx s.o3+Yx (s.o4.take j):Nat))),(5,.v (vi j))]) (λ_=>True) (by simp[Yx]) (λi=>Z1) trivial ?_;rintro j G-;have w:=Zz (j+1) Z0 Z0;by_cases g:j<P s.o4;have x:=ZdG g;have d:=n _ (Ze0 g);have u:=NQ x;generalize s.o4[j]=o at*;have r:Yx (s.o4.take j)<=256*P s.o4:=by
  refine Zeh (Lb λo l=>n o (ZeD l)) ?_;simp;omega
 let⟨g1,g2,C,D⟩:=Yv.1 d;let⟨z,y⟩:=ZdV g1;have w1:=Zz (1+z) Z0 Z0;have w2:=Zz ((Yx s.o3:Int)+Yx (s.o4.take j)+(1+z)) Z0 Z0;cases h:o.gone;have f:WT o=1+z:=by simp[WT,h,y]
 simp_all;omega;have f:WT o=0:=by simp[WT,h]
 simp_all;have:j=P s.o4:=Z0;subst this;rw[Zfa];simp[X3,Zz];exact⟨2,Z0,Z1,ZdB⟩;simp[Q8]
def Q0(s:Ck):Bool:=decide ((P s.h.low:Int)+P s.h.high+Q8 s<=s.h.cap)
def Z7U{s}(a:s.ok):Q8 s<=512*1000000:=by
 have f:=Lb (l:=s.o3) λo d=>(a.ob 3 o d).1.2;have g:=Lb (l:=s.o4) λo d=>(a.ob 4 o d).1.2;have h:P s.o3<=1000000:=a.len 3;have j:P s.o4<=1000000:=a.len 4;grind [Q8]
def Z66{s}(a:s.ok):VC Sol.prog 110 xh [Xe s] (.bool (Q0 s)):=by
 refine ZU Sol.func110 follows Z2 Pv rfl ?_;have d:=Z7U a;have f:=a.h.low;have g:=a.h.high;have w1:=Zz ((P s.h.low:Int)+P s.h.high) Z0 Z0;have w2:=Zz ((P s.h.low:Int)+P s.h.high+Q8 s) Z0 Z0;simp[Hz];refine Zy (Z7W a) Z1 ?_;simp[w1,w2,Q0]
end Vm
namespace Vm
open Go Go.Proofs
def Wz(lm:List (Int×(Int×Int)))(ws:List Int):Nat->Nat->List (Int×Int)->List (Int×Int)
 |0,_,a=>a
 |f+1,i,a=>
  match ws[i]? with
  |none=>a
  |some w=>if(adr w).2=0 then(match ZY lm (adr w).1 with|none=>a|some sh=>Wz lm ws f (i+1+sh.1.toNat) (a++[sh]))
   else if(ZP w).2.2=0 then Wz lm ws f (i+1+(ZP w).1.toNat) a else a
def Tn(lm:List (Int×(Int×Int)))(ws:List Int):List (Int×Int):=Wz lm ws (P ws+1) 0 []
def F6{α l k}{x:α}(h:ZY l k=xk x):(k,x)∈l:=by
 obtain⟨y,a,rfl⟩:=ZdI.1 h;grind
def Z6T{s}(D:∀x∈s.lm,YJ x.2.1 x.2.2=xy){ws}(K:P ws<=1000000)(J:∀w∈ws,ZC w):
  VC Sol.prog 120 xh [Xe s,.sl (ws.map vu)] (.sl ((Tn s.lm ws).map Wb)):=by
 refine ZU Sol.func120 follows Z2 PA rfl ?_;have C:∀k,Ud (.i .u64) (Yd Wb s.lm) (vu k) (.agg [vi 0,vi 0]) xy=match ZY s.lm k with
  |some x=>xk (.tup [Wb x,.bool xy])
  |none=>xk (.tup [.agg [vi 0,vi 0],.bool xh]):=λk=>by grind [RH,ZY]
 have B:(ZT s)[22]?=xk _:=rfl;simp[HP]
 refine Sg (λ(p:Nat×List _)=>[(3,.v (.sl (p.2.map Wb))),(4,.v (vi p.1))])
  (λp=>p.1<=P ws+256/\P p.2<=p.1/\∃f,P ws<f+p.1/\0<f/\Tn s.lm ws=Wz s.lm ws f p.1 p.2) (Xf 4 (P ws)) (0,[]) Z1 ⟨Z1,Z1,P ws+1,Z1,Z0,rfl⟩ ?_
 rintro⟨i,g⟩ ⟨I,r,f,G,H,a⟩;simp only at I r G a;cases f with
 |zero=>omega
 |succ f=>
 by_cases d:i<P ws;have y:=ZdG d;have F:=J _ (Ze0 d);generalize ws[i]=w at*;simp[Wz,y]at a;have u:P g+1<=Y4:=Zda;simp[d,y,Yh y,X3];refine Zy (Js F) Z1 ?_;by_cases A:(adr w).2=0;rw[if_pos A]at a;simp[A,B,C];cases t:ZY s.lm (adr w).1 with
 |none=>
  simp_all
 |some q=>
  rw[t]at a;simp only at a;have h:0<=q.1/\q.1<=255/\0<=q.2/\q.2<=q.1:=Yv.1 (D _ (F6 t));let⟨z,o⟩:=ZdV h.1;have l:=Zz (1+z) Z0 Z0;have n:=Zz (i+(1+z)) Z0 Z0;rw[o,ZdW]at a;simp[u,o,l,n];refine⟨i+1+z,g++[q],⟨Z0,ZcL,f,Z0,?_,a⟩,⟨by simp[Wb,o],Z0⟩,Zdx⟩;omega
 rw[if_neg A]at a;simp[A,y,Yh y,d,X3];refine Zy (Nl F) Z1 ?_;by_cases j:(ZP w).2.2=0;rw[if_pos j]at a;have h:=Yv.1 (Ct j);let⟨z,o⟩:=ZdV h.1;have l:=Zz (1+z) Z0 Z0;have n:=Zz (i+(1+z)) Z0 Z0;rw[o,ZdW]at a;simp[j,o,l,n];refine⟨i+1+z,g,⟨Z0,Z0,f,Z0,?_,a⟩,⟨rfl,Z0⟩,Zdx⟩;omega;simp_all;simp_all[ZeJ,Wz]
end Vm
namespace Vm
open Go Go.Proofs
def Wf(pm:List (Int×Int)):List Ob->List (Int×Bool)->Option (List (Int×Bool))
 | [],m=>xk m
 |o::l,m=>if o.gone=xy then(if(ZY pm o.target).getD 0=1/\(ZY m o.target).getD xh=xh then Wf pm l (XH m o.target xy)else xw)else Wf pm l m
def Rh(s:Ck):Bool:= !s.h.cycle||match(Wf s.pm s.o3 []).bind (Wf s.pm s.o4)with
 |none=>xh
 |some m=>decide (P m=P s.o1)
def GL{l k x}:UG (.i .u64) (Yd .bool l) (vu k) (.bool x)=xk (Yd .bool (XH l k x)):=K8
def QJ{l k}:Ud (.i .u64) (Yd .bool l) (vu k) (.bool xh) xh=xk (.bool ((ZY l k).getD xh)):=by
 grind [RH,ZY]
def QK{l k}:Ud (.i .u64) (Yd vi l) (vu k) (vi 0) xh=xk (vi ((ZY l k).getD 0)):=by
 grind [RH,ZY]
def Z3v{α}(f:α->V):Yd f []=.mp 0 [] []:=rfl
def Z0s{s}(t:s.ok):VC Sol.prog 106 xh [Xe s] (.bool (Rh s)):=by
 refine ZU Sol.func106 follows Z2 Pr rfl ?_;have G:P s.o3<=1000000:=t.len 3;have H:P s.o4<=1000000:=t.len 4;have A:=λo z=>(t.ob 3 o z).2;have I:=λo z=>(t.ob 4 o z).2;have D:Y5 (.agg [.sl (s.o1.map ZL),.sl (s.o2.map ZL),.sl (s.o3.map ZL),.sl (s.o4.map ZL)]) (.int .i64 2) 4 1 xy=xk (.agg [.sl (s.o3.map ZL)]):=by simp[Y5]
 have F:Y5 (.agg [.sl (s.o1.map ZL),.sl (s.o2.map ZL),.sl (s.o3.map ZL),.sl (s.o4.map ZL)]) (.int .i64 3) 4 1 xy=xk (.agg [.sl (s.o4.map ZL)]):=by simp[Y5]
 have C:Y5 (.agg [.sl (s.o1.map ZL),.sl (s.o2.map ZL),.sl (s.o3.map ZL),.sl (s.o4.map ZL)]) (.int .i64 0) 4 1 xy=xk (.agg [.sl (s.o1.map ZL)]):=by simp[Y5]
 have k:(ZT s)[21]?=xk _:=rfl;have y:=(Z3v V.bool).symm;unfold Rh;cases B:s.h.cycle;simp[AO,B];simp[AO,B,y]
 refine Sg (λp=>[(3,.v (Yd .bool p.2)),(4,.v (vi ((p.1+3:Nat):Int)))])
  (λp=>(p.1=0/\p.2=[])\/(p.1=1/\Wf s.pm s.o3 []=xk p.2)\/(p.1=2/\(Wf s.pm s.o3 []).bind (Wf s.pm s.o4)=xk p.2)) (Xf 4 5) (0,[]) Z1 Z1 ?_
 rintro⟨i,m⟩ (⟨rfl,rfl⟩|⟨rfl,x⟩|⟨rfl,x⟩);simp[VH,D];refine Sg (λ(p:Nat×List _)=>[(3,.v (Yd .bool p.2)),(6,.v (vi p.1))]) (λp=>p.1<=P s.o3/\Wf s.pm s.o3 []=Wf s.pm (s.o3.drop p.1) p.2) (Xf 6 (P s.o3)) (0,[]) Z1 Z1 ?_;rintro⟨j,r⟩ ⟨w,a⟩;simp only at w a;have d:=Zz (j+1) Z0 Z0;by_cases g:j<P s.o3;have f:=ZdG g;have u:=ZeF g;have J:=A _ (Ze0 g);generalize s.o3[j]=o at*;rw[u,Wf]at a;cases l:o.gone;rw[l]at a;rw[if_neg Z1]at a;simp[X3,g,f,Yh f,l,d];exact⟨j+1,r,⟨Z0,a⟩,⟨rfl,Z0⟩,Zdx⟩;rw[l]at a;rw[if_pos rfl]at a;by_cases n:(ZY s.pm o.target).getD 0=1;cases q:(ZY r o.target).getD xh;rw[if_pos ⟨n,q⟩]at a;simp[X3,g,f,Yh f,l,d,k,QK,QJ,Wl,V.flatc,n,q,GL];exact⟨j+1,XH r o.target xy,⟨Z0,a⟩,⟨rfl,Z0⟩,Zdx⟩;rw[if_neg (by simp[q])]at a;simp[X3,g,f,Yh f,l,d,k,QK,QJ,Wl,V.flatc,n,q,a];rw[if_neg (by simp[n])]at a;simp[X3,g,f,Yh f,l,d,k,QK,QJ,Wl,V.flatc,n,a];have:j=P s.o3:=Z0;subst this;rw[List.drop_length,Wf]at a;simp[Zz];exact⟨1,r,by simp[a],Z1,ZdB⟩;simp[U2,F];refine Sg (λ(p:Nat×List _)=>[(3,.v (Yd .bool p.2)),(6,.v (vi p.1))]) (λp=>p.1<=P s.o4/\Wf s.pm s.o4 m=Wf s.pm (s.o4.drop p.1) p.2) (Xf 6 (P s.o4)) (0,m) Z1 Z1 ?_;rintro⟨j,r⟩ ⟨w,a⟩;simp only at w a;have d:=Zz (j+1) Z0 Z0;by_cases g:j<P s.o4;have f:=ZdG g;have u:=ZeF g;generalize s.o4[j]=o at*;rw[u,Wf]at a;cases l:o.gone;rw[l]at a;rw[if_neg Z1]at a;simp[X3,g,f,Yh f,l,d];exact⟨j+1,r,⟨Z0,a⟩,⟨rfl,Z0⟩,Zdx⟩;rw[l]at a;rw[if_pos rfl]at a;by_cases n:(ZY s.pm o.target).getD 0=1;cases q:(ZY r o.target).getD xh;rw[if_pos ⟨n,q⟩]at a;simp[X3,g,f,Yh f,l,d,k,QK,QJ,Wl,V.flatc,n,q,GL];exact⟨j+1,XH r o.target xy,⟨Z0,a⟩,⟨rfl,Z0⟩,Zdx⟩;rw[if_neg (by simp[q])]at a;simp[X3,g,f,Yh f,l,d,k,QK,QJ,Wl,V.flatc,n,q,x,a];rw[if_neg (by simp[n])]at a;simp[X3,g,f,Yh f,l,d,k,QK,QJ,Wl,V.flatc,n,x,a];have:j=P s.o4:=Z0;subst this;rw[List.drop_length,Wf]at a;simp[Zz];exact⟨2,r,ZcJ,Z1,ZdB⟩;simp[R2,VH,C];grind
end Vm
namespace Vm
open Go Go.Proofs
def Qf:Prop:=∀a:List Int,P a<=1000000->(∀w∈a,ZC w)->VC Sol.prog 117 xy [.sl (a.map vu)] (.tup [.sl ((ZM a [] xh).1.map ZL),vi (ZM a [] xh).2])
def Qg:Prop:=∀(d:List Int) (a:List (Int×Int)),P d<=1000000->P a<=1000000->(∀w∈d,ZC w)->(∀x∈a,YJ x.1 x.2=xy)->
 VC Sol.prog 119 xy [.sl (d.map vu),.sl (a.map Wb)] (.tup [.sl ((ZM d a xy).1.map ZL),vi (ZM d a xy).2])
def Xm(s:Ck)(k:Int):List Ob×Int:=if k<=2 then ZM (Zx s.h k) [] xh else ZM (Zx s.h k) (Tn s.lm (Zx s.h k)) xy
def WL:List Int->Ck->Bool×Ck
 | [],s=>(xy,s)
 |k::l,s=>if(Xm s k).2=0 then WL l (XM s k (Xm s k).1)else(xh,s)
def XT(s:Ck):Bool×Ck:=WL [1,2,3,4] s
def RP s k l:(XM s k l).h=s.h:=Z5f s k l
def Z5c{α l k x}{y:Int×α}(h:y∈XH l k x):y=(k,x)\/y∈l:=by
 grind [XH,List.mem_or_eq_of_mem_set]
def QP{h k}:∀ {l} {m:List (Int×(Int×Int))},(∀o∈l,YJ o.size o.ptrs=xy)->(∀x∈m,YJ x.2.1 x.2.2=xy)->∀x∈X9 h k m l,YJ x.2.1 x.2.2=xy
 | [],m,_,a=>a
 |o::l,m,f,a=>by
  rw[X9];refine QP (λp g=>f p (Zei _ g)) ?_;split;intro x d;obtain rfl|d:=Z5c d;simp_all;grind;exact a
def L9{s}(a:s.h.ok){k}:(∀o∈(Xm s k).1,Jp (P (Zx s.h k)) o/\ZC o.target)/\(Xm s k).1.length<=P (Zx s.h k):=by
 unfold Xm;split;exact⟨Ny (XE a k).1,Nz⟩;exact⟨Ny (XE a k).1,Nz⟩
def BZ{lm ws}:∀ {f i} {a:List (Int×Int)},P a<=i->P a<=P ws->P (Wz lm ws f i a)<=P ws
 |0,i,a,_,h=>h
 |f+1,i,a,j,h=>by
  rw[Wz];cases g:ws[i]? with
  |none=>exact h
  |some w=>
   have d:=(ZdH.1 g).1;simp only;split;split;exact h;exact BZ ZcL ZcL;split;exact BZ Z0 h;exact h
def MM{lm ws}:P (Tn lm ws)<=P ws:=BZ Z1 Z1
def q8{lm ws}(d:∀x∈lm,YJ x.2.1 x.2.2=xy):∀ {f i} {a:List (Int×Int)},(∀x∈a,YJ x.1 x.2=xy)->∀x∈Wz lm ws f i a,YJ x.1 x.2=xy
 |0,i,a,h=>h
 |f+1,i,a,h=>by
  rw[Wz];cases g:ws[i]? with
  |none=>exact h
  |some w=>
   simp only;split;split;exact h;rename_i k j;refine q8 d ?_;intro x g;obtain g|g:=Ze8.1 g;grind;simp at g;subst g;exact d _ (F6 j);split;exact q8 d h;exact h
def qq:IntKind.i64.wrap 4=4:=by decide
def Z81(F:Qf)(B:Qg){s}(G:s.h.ok)(D:∀x∈s.lm,YJ x.2.1 x.2.2=xy):V6 Sol.prog 105 [.mem LC] [.agg (ZT s)] (.tup [.bool (XT s).1,.agg (ZT (XT s).2)]):=by
 refine Jg Sol.func105 follows Z2 Pq Z2 ?_;simp[Hv];refine Sg (λ(p:Nat×Ck)=>[(0,.m (ZT p.2)),(3,.v (vi p.1))]) (λp=>p.1<=4/\p.2.h=s.h/\(∀x∈p.2.lm,YJ x.2.1 x.2.2=xy)/\XT s=WL ([1,2,3,4].drop p.1) p.2) (Xf 3 4) (0,s) Z1 ⟨Z1,rfl,D,rfl⟩ ?_;rintro⟨i,q⟩ ⟨H,A,n,f⟩;simp only at H A n f;have d:=A▸G;have C:i=0\/i=1\/i=2\/i=3\/i=4:=Z0;have j:=λk I=>NI (s:=q) (k:=k) I;have w:=λk=>Z6T (s:=q) n (XE d k).2 (XE d k).1;obtain rfl|rfl|rfl|rfl|rfl:=C;replace j:=j 1 Z0;have st:=L9 d (k:=1);have t:=zR (s:=q) d (k:=1) Z0 (l:=(Xm q 1).1) (Zeh st.2 (XE d 1).2);have k1:=F _ (XE d 1).2 (XE d 1).1;have g:=QP (h:=q.h) (k:=1) (l:=(Xm q 1).1) (m:=q.lm) (λo y=>(st.1 o y).1.2) n;replace f:XT s=WL (1:: [2,3,4]) q:=f;rw[WL]at f;have r:Xm q 1=ZM _ [] xh:=rfl;rw[<-r]at k1;generalize Xm q 1=z at*;let⟨l,e⟩:=z;simp only at k1 t f g st;unfold Xe ZT at j;unfold ZT at t;simp[ZT,UR,VH,U2,qq];refine Zy j Z1 ?_;simp;refine Zy k1 Z1 ?_;simp;by_cases u:e=0;rw[if_pos u]at f;simp[u];refine VN t ?_;simp[Zz];exact⟨1,XM q 1 l,⟨Z0,by rw[RP,A],λa b c h=>g _ h,f⟩,⟨Z1,rfl⟩,ZdB⟩;simp_all;replace j:=j 2 Z0;have st:=L9 d (k:=2);have t:=zR (s:=q) d (k:=2) Z0 (l:=(Xm q 2).1) (Zeh st.2 (XE d 2).2);have k1:=F _ (XE d 2).2 (XE d 2).1;have g:=QP (h:=q.h) (k:=2) (l:=(Xm q 2).1) (m:=q.lm) (λo y=>(st.1 o y).1.2) n;replace f:XT s=WL (2:: [3,4]) q:=f;rw[WL]at f;have r:Xm q 2=ZM _ [] xh:=rfl;rw[<-r]at k1;generalize Xm q 2=z at*;let⟨l,e⟩:=z;simp only at k1 t f g st;unfold Xe ZT at j;unfold ZT at t;simp[ZT,UR,VH,U2,qq];refine Zy j Z1 ?_;simp;refine Zy k1 Z1 ?_;simp;by_cases u:e=0;rw[if_pos u]at f;simp[u];refine VN t ?_;simp[Zz];exact⟨2,XM q 2 l,⟨Z0,by rw[RP,A],λa b c h=>g _ h,f⟩,⟨Z1,rfl⟩,ZdB⟩;simp_all;replace j:=j 3 Z0;have st:=L9 d (k:=3);have t:=zR (s:=q) d (k:=3) Z0 (l:=(Xm q 3).1) (Zeh st.2 (XE d 3).2);have k1:=B _ _ (XE d 3).2 (Zeh MM (XE d 3).2) (XE d 3).1 (q8 n Z1);replace w:=w 3;have g:=QP (h:=q.h) (k:=3) (l:=(Xm q 3).1) (m:=q.lm) (λo y=>(st.1 o y).1.2) n;replace f:XT s=WL (3:: [4]) q:=f;rw[WL]at f;have r:Xm q 3=ZM _ _ xy:=rfl;rw[<-r]at k1;generalize Xm q 3=z at*;let⟨l,e⟩:=z;simp only at k1 t f g st;unfold Xe ZT at j w;unfold ZT at t;simp[ZT,UR,VH,U2,qq];refine Zy j Z1 ?_;simp;refine Zy j Z1 ?_;simp;refine Zy w Z1 ?_;simp;refine Zy k1 Z1 ?_;simp;by_cases u:e=0;rw[if_pos u]at f;simp[u];refine VN t ?_;simp[Zz];exact⟨3,XM q 3 l,⟨Z0,by rw[RP,A],λa b c h=>g _ h,f⟩,⟨Z1,rfl⟩,ZdB⟩;simp_all;replace j:=j 4 Z0;have st:=L9 d (k:=4);have t:=zR (s:=q) d (k:=4) Z0 (l:=(Xm q 4).1) (Zeh st.2 (XE d 4).2);have k1:=B _ _ (XE d 4).2 (Zeh MM (XE d 4).2) (XE d 4).1 (q8 n Z1);replace w:=w 4;have g:=QP (h:=q.h) (k:=4) (l:=(Xm q 4).1) (m:=q.lm) (λo y=>(st.1 o y).1.2) n;replace f:XT s=WL (4:: []) q:=f;rw[WL]at f;have r:Xm q 4=ZM _ _ xy:=rfl;rw[<-r]at k1;generalize Xm q 4=z at*;let⟨l,e⟩:=z;simp only at k1 t f g st;unfold Xe ZT at j w;unfold ZT at t;simp[ZT,UR,VH,U2,qq];refine Zy j Z1 ?_;simp;refine Zy j Z1 ?_;simp;refine Zy w Z1 ?_;simp;refine Zy k1 Z1 ?_;simp;by_cases u:e=0;rw[if_pos u]at f;simp[u];refine VN t ?_;simp[Zz];exact⟨4,XM q 4 l,⟨Z0,by rw[RP,A],λa b c h=>g _ h,f⟩,⟨Z1,rfl⟩,ZdB⟩;simp_all;replace f:XT s=(xy,q):=f;simp[f,ZT]
end Vm
namespace Vm
open Go Go.Proofs
def Z7S{P f ks cs r}(hv:VC P f xh [.ptr cs] r)(G:r.flatc=xy)(l:xq cs=xq ks)(u:cs.all V.one=xy)(D:ks.all (λk=> !(k==.dead))=xy):
  V6 P f [.mem ks] [.agg cs] (.tup [r,.agg cs]):=by
 let⟨N,O⟩:=hv;refine⟨N,λB w h vs a Q=> ?_⟩;let⟨a2,a1,C⟩:=Q;let⟨tk,j,z⟩:=C 0 _ _ rfl rfl;simp only[Wc]at j;rw[if_pos l]at j;simp[ZdF]at j;subst j;let⟨b,M,T,q,K,X,o⟩:=z;have n:∀(ks:List CK) cs,xq cs=xq ks->YA [] (((ks.zip cs).map λy=>(y.1,E.c y.2)).map (·.2))=xk cs:=by
  intro ks;induction ks with
  |nil=>simp
  |cons k ks ih=>
   intro cs Z;obtain _|⟨c,cs⟩:=cs;simp at Z;simp_all
 have hz:eval [] (.pt xw (((ks.zip cs).map λy=>(y.1,E.c y.2)).map (·.2)))=xk (.ptr cs):=by
  simp only[eval,n ks cs l,ZdQ,Kx,u,Zer]
 have U:Wi ((ks.zip cs).map λy=>(y.1,E.c y.2))=xh:=by
  rw[Wi,ZgI];intro x L;obtain⟨y,A,rfl⟩:=ZdX.1 L;have:=ZdR.1 D y.1 (List.of_mem_zip A).1;simpa using this
 have a0:=K6 (G':=λb=>h.F b\/∃t i,h.bl t i=xk b) q X o U hz (λb d=>.inl d) λi b d=>.inr ⟨0,i,d⟩;refine Zhn (O w (λb=>h.F b\/∃t i,h.bl t i=xk b) vs (λb d=> ?_) Z0 λi x L=> ?_) λe w' W=> ?_;obtain d|⟨t,i,d⟩:=d;exact a.f_lt b d;exact(a.b_lt t i b d).2.1;grind;obtain⟨v,rfl,g,J⟩:=W;have p:=g.size;have S:=λb d=>g.block b (a.f_lt b d);have R:=λt i b d=>g.block b (a.b_lt t i b d).2.1;have I:M.size=xq cs:=by
  have:=o.1;simp at this;omega
 refine⟨v,r,[.agg cs],h,rfl,g.mono a.base,λb d=>g.block b (a.k_lt b d),⟨Zeh a.base p,λb d=>ZdS (a.f_lt b d) p,a.f_or,a.g_F,λt i b d=> ?_,a.inj,λb d=>ZdS (a.k_lt b d) p,a.k_bl,a.k_F⟩,rfl,J.flat G,⟨rfl,λi k y H Y A=> ?_⟩,rfl⟩;let⟨q1,q2,q3⟩:=a.b_lt t i b d;grind;cases i with
 |zero=>
  simp at H A;subst H;subst A;refine⟨.mem _,by rw[Wc,if_pos l],b,M,T,q,K,?_,o.keep S (λ_ d=>d) (λ_=>rfl) λi b d=>R 0 _ b d⟩;grind
 |succ i=>simp at H
end Vm
namespace Vm
open Go Go.Proofs
def S7:List FuncId:=[103,104,105,106,107,108,109,110]
def jp(f:FuncId):V:=.agg [.fn f]
def Z6c:VC Sol.prog 82 xh [] (.sl (S7.map jp)):=by
 refine ZU Sol.func82 follows Z2 c82 rfl ?_;simp[Ir,S7,jp]
def S6(f:FuncId)(s:Ck):Bool×Ck:=
 if f=103 then(Sm s,s)else if f=104 then(RX s,s)else if f=105 then XT s
 else if f=106 then(Rh s,s)else if f=107 then(Q2 s,s)else if f=108 then(Q5 s,s)else if f=109 then(RF s,s)else(Q0 s,s)
structure Ck.okk (s:Ck):Prop where
 ok:s.ok
 lm:∀x∈s.lm,YJ x.2.1 x.2.2=xy
def Ck.obs_put(s:Ck)k l(a:1<=k/\k<=4)j:(s.put k l).obs j=if j=k\/(k=4/\¬(j=1\/j=2\/j=3))then l else s.obs j:=by
 have:k=1\/k=2\/k=3\/k=4:=Z0;obtain rfl|rfl|rfl|rfl:=this<;>simp[Ck.put,Ck.obs]<;>(split<;>simp_all)<;>(grind)<;>(grind)
def Z3O{s}(d:s.okk){k}(g:1<=k/\k<=4):(XM s k (Xm s k).1).okk:=by
 have st:=L9 d.ok.h (k:=k);have l:=(XE d.ok.h k).2;have a:∀j,(XM s k (Xm s k).1).obs j=((s.put k (Xm s k).1).obs j):=λj=>rfl;refine⟨⟨by rw[RP];exact d.ok.h,λj o f=> ?_,λj=> ?_⟩,QP (λo f=>(st.1 o f).1.2) d.lm⟩;rw[RP];rw[a,Ck.obs_put _ _ _ g]at f;split at f;rename_i h;have:Zx s.h j=Zx s.h k:=by
  obtain rfl|⟨rfl,h⟩:=h;rfl;simp_all[not_or,Zx]
 simp_all;exact d.ok.ob j o f;rw[a,Ck.obs_put _ _ _ g];split;omega;exact d.ok.len j
def NB:∀ {l} {s:Ck},(∀k∈l,1<=k/\k<=4)->s.okk->(WL l s).2.okk/\(WL l s).2.h=s.h
 | [],s,_,a=>⟨a,rfl⟩
 |k::l,s,d,a=>by
  rw[WL];split;simp_all[NB,Zei,Z3O,ZeL,trans,RP];simp_all
def Z7Z{s}(a:s.okk):(XT s).2.okk/\(XT s).2.h=s.h:=NB Z1 a
def Z6a{s}(a:s.okk){f}:(S6 f s).2.okk/\(S6 f s).2.h=s.h:=by
 unfold S6;repeat' split
 all_goals first|exact⟨a,rfl⟩|exact Z7Z a
def Z6b(j:Qf)(d:Qg){s}(a:s.okk){f}(g:f∈S7):V6 Sol.prog f [.mem LC] [.agg (ZT s)] (.tup [.bool (S6 f s).1,.agg (ZT (S6 f s).2)]):=by
 have go:∀ {f b},VC Sol.prog f xh [Xe s] _->V6 Sol.prog f [.mem LC] [.agg _] (.tup [.bool b,.agg _]):=λh=>Z7S h rfl rfl rfl rfl;simp[S7,Ze3,Zfj,ZgN]at g;obtain rfl|rfl|rfl|rfl|rfl|rfl|rfl|rfl:=g;exact go (Pi a.ok.h);exact go Z61;exact Z81 j d a.ok.h a.lm;exact go (Z0s a.ok);exact go (Z6S a.ok);exact go (Z7N a.ok);exact go (Z2O a.ok);exact go (Z66 a.ok)
def zy:List FuncId->Ck->Option Ck
 | [],s=>xk s
 |f::l,s=>if(S6 f s).1=xy then zy l (S6 f s).2 else xw
def X8(h:Hp):Ck:= {h:=h,o1:=[],o2:=[],o3:=[],o4:=[],pm:=[],lm:=[]}
def UD(h:Hp):Option Ck:=zy S7 (X8 h)
def Z2y{h}(a:h.ok):(X8 h).okk:=by
 have f:∀k,(X8 h).obs k=[]:=λk=>by simp[X8,Ck.obs]
 refine⟨⟨a,λk o g=> ?_,λk=> ?_⟩,λx d=>(by simp[X8]at d)⟩;simp_all;simp_all
def Gs(u:Qf)(k:Qg){h}(x:h.ok):VC Sol.prog 51 xh [ZJ h] (.tup [match UD h with|some s=>Xe s|none=>.nul 0,.bool (UD h).isSome]):=by
 refine ZU Sol.func51 follows Z2 t5 rfl ?_;have k1:=CW (h:=h);have B:=Z6c;have a:P S7=8:=rfl;unfold ZJ at k1;simp[Ig];refine Zy k1 Z1 ?_;simp;refine Zy B Z1 ?_;simp;refine Sg (λ(p:Nat×Ck)=>[(5,.m (ZT p.2)),(6,.v (vi p.1))]) (λp=>p.1<=8/\p.2.okk/\UD h=zy (S7.drop p.1) p.2) (Xf 6 8) (0,X8 h) Zdz ⟨Z1,Z2y x,rfl⟩ ?_;rintro⟨i,q⟩ ⟨y,n,g⟩;simp only at y n g;have A:=Zz (i+1) Z0 Z0;by_cases d:i<P S7;have r:=ZdG d;have w:=ZeF d;have z:=Ze0 d;generalize S7[i]=f at*;rw[w,zy]at g;have t:=Z6b u k n z;have l:=(Z6a n (f:=f)).1;rw[a]at d;have j:(i:Int)<8:=Z0;simp[X3,d,j,r,Yh r,a,jp,ZT];unfold ZT at t;refine VN t ?_;cases o:(S6 f q).1;rw[if_neg (by simp[o])]at g;simp[g];rw[if_pos o]at g;simp;exact⟨i+1,(S6 f q).2,⟨Z0,l,g⟩,⟨Z1,Z0⟩,Zdx⟩;have:i=8:=Z0;subst this;replace g:UD h=xk q:=g;simp[a,g,ZT,Xe]
def O2(d:Qf)(a:Qg){h}(f:h.ok):VC Sol.prog 25 xh [ZJ h] (.bool (UD h).isSome):=by
 refine ZU Sol.func25 follows Z2 PP rfl ?_;simp[I3];refine Zy (Gs d a f) Z1 ?_;simp
def Ki(h:Hp)(k:Int):List Ob×Int:=match UD h with
 |some s=>if 1<=k/\k<=4 then(s.obs k,0)else([],1)
 |none=>([],1)
def O0(l:Qf)(f:Qg){h}(n:h.ok){k}:VC Sol.prog 27 xh [ZJ h,vi k] (.tup [.sl ((Ki h k).1.map ZL),vi (Ki h k).2]):=by
 refine ZU Sol.func27 follows Z2 PQ rfl ?_;simp[I4];refine Zy (Gs l f n) Z1 ?_;unfold Ki;cases o:UD h with
 |none=>simp
 |some s=>
  by_cases g:1<=k;by_cases j:k<=4;have:k=1\/k=2\/k=3\/k=4:=Z0;obtain rfl|rfl|rfl|rfl:=this<;>simp[Y5,R2,UR,VH,U2,Ck.obs];have a:¬k<1:=Z0;have d:4<k:=Z0;simp[g,j,a,d];have a:k<1:=Z0;simp[g,a]
end Vm
end
section
namespace Vm
open Go Go.Proofs
structure Stands (ws:List Int) (old:Bool) (o:Ob):Prop where
 nat:0<=o.at_
 shape:YJ o.size o.ptrs=xy
 fits:o.at_+1+o.size<=P ws
 slots:XJ ((ws.drop (o.at_.toNat+1)).take o.size.toNat) o.gone o.ptrs 0=xy
 word:∃w,ws[o.at_.toNat]?=xk w/\(if o.gone then old=xy/\(adr w).2=0/\o.target=(adr w).1 else(old=xy->¬(adr w).2=0)/\ZP w=(o.size,o.ptrs,0)/\o.target=0)
def Tiles(ws:List Int)(old:Bool):Nat->List Ob->Prop
 |a,[]=>P ws<=a
 |a,o::l=>o.at_=a/\Stands ws old o/\Tiles ws old (a+1+o.size.toNat) l
def Z3S{ws:List Int}{shs:List (Int×Int)}{old:Bool}{a g t:Nat}{w:Int}{o:Ob}(k:ws[a]?=xk w)(f:XY shs old a g w=xk (o,t))(h:¬(P ws:Int)<a+1+o.size)
  (j:¬XJ ((ws.drop (a+1)).take o.size.toNat) o.gone o.ptrs 0=xh):o.at_=a/\Stands ws old o:=by
 have d:=zT f;refine⟨d.2,?_,d.1,?_,?_,w,?_,?_⟩;omega;omega;simp_all;simp_all;unfold XY at f;grind
def Nx{ws:List Int}{shs:List (Int×Int)}{old:Bool}:∀(f a j:Nat) (d l:List Ob),Xl ws shs old f a j d=(l,0)->∃r,l=d++r/\Tiles ws old a r
 |0,_,_,_,_,h=>by simp[Xl]at h
 |f+1,a,j,d,l,h=>by
  unfold Xl at h;split at h;rename_i p;split at h;grind;simp only[ZdU,and_true]at h;subst h;exact⟨[],Z1,ZfV.1 p⟩;rename_i w x;split at h;grind;rename_i o t q;split at h;grind;rename_i k;split at h;grind;rename_i n;obtain⟨r,rfl,u⟩:=Nx f _ _ _ _ h;have g:=Z3S x q k n;exact⟨o::r,Z1,g.1,g.2,u⟩
def Se{ws:List Int}{shs:List (Int×Int)}{old:Bool}{l:List Ob}(h:ZM ws shs old=(l,0)):Tiles ws old 0 l:=by
 obtain⟨r,a,d⟩:=Nx _ _ _ _ _ h;simp_all
def Tiles.stands{ws:List Int}{old:Bool}:∀ {a:Nat} {l:List Ob},Tiles ws old a l->∀o∈l,Stands ws old o/\(a:Int)<=o.at_
 |_,[],_,_,h=>Zdi
 |a,o::l,h,x,d=>by
  have f:=Yv.1 h.2.1.shape;obtain rfl|d:=Ze3.1 d;exact⟨h.2.1,by rw[h.1];omega⟩;have:=Tiles.stands h.2.2 x d;grind
def Tiles.apart{ws:List Int}{old:Bool}:∀ {a:Nat} {l:List Ob},Tiles ws old a l->∀o∈l,∀q∈l,o=q\/o.at_+1+o.size<=q.at_\/q.at_+1+q.size<=o.at_
 |_,[],_,_,h,_,_=>Zdi
 |a,x::l,h,o,f,q,d=>by
  have g:=Yv.1 h.2.1.shape;have e:=h.1;obtain rfl|f:=Ze3.1 f;obtain rfl|d:=Ze3.1 d;simp;have:=(Tiles.stands h.2.2 q d).2;omega;obtain d|d:=Ze3.1 d;have:=(Tiles.stands h.2.2 o f).2;grind;exact Tiles.apart h.2.2 o f q d
structure RightH (h:Hp) (p:Pts):Prop where
 parts:XF h=xk p
 num:Tg h=xy
 ok:S5 h p=xy
 low:Tiles h.low xh 0 p.low
 high:Tiles h.high xh 0 p.high
 old:Tiles h.old xy 0 p.old
 far:Tiles h.far xy 0 p.far
def Z62{h:Hp}(o:X5 h=xy):∃p,RightH h p:=by
 obtain⟨p,a,n,j⟩:=Z63 o;refine⟨p,a,j,n,?_,?_,?_,?_⟩;all_goals
  clear j;unfold XF at a;dsimp only at a;split at a;cases a;rename_i g;split at a;cases a;rename_i c2;cases a;have c3:(ZM h.low [] xh).2=0/\(ZM h.high [] xh).2=0:=by
   refine⟨ZeM λf=>g (.inl f),ZeM λf=>g (.inr f)⟩
  have c4:∀x:Int,¬x≠0->x=0:=λx d=>ZeM d;have k:=c4 _ (λd=>c2 (.inr (.inr (.inl d))));have l:=c4 _ (λd=>c2 (.inr (.inr (.inr d))));first|exact Se (Zg9 rfl c3.1)|exact Se (Zg9 rfl c3.2)|exact Se (Zg9 rfl k)|exact Se (Zg9 rfl l)
def RightH.tiles{h:Hp}{p:Pts}(r:RightH h p){k:Int}(a:1<=k/\k<=4):Tiles (Zx h k) (decide (2<k)) 0 (p.at k):=by
 have:k=1\/k=2\/k=3\/k=4:=Z0;obtain rfl|rfl|rfl|rfl:=this;exact r.low;exact r.high;exact r.old;exact r.far
def RightH.lay{h:Hp}{p:Pts}(r:RightH h p):ZH (Zu h)=xy:=by
 have:=r.num;simp_all[Tg,ZdJ]
def Y7(l:Ly)(k a:Int):Int:=2*(fstL l k+a)+1
theorem U3{l:Ly}(d:ZH l=xy){k a:Int}(f:0<=a):adr (Y7 l k a)=(fstL l k+a,0):=by
 have:=WN d k;unfold adr Y7;grind
theorem R8{l:Ly}(g:ZH l=xy){k a:Int}(f:1<=k/\k<=4)(d:0<=a/\a<YQ l k):Y1 l k a=(fstL l k+a,0):=by
 simp_all[Y1,if_neg]
theorem Qu{l:Ly}(g:ZH l=xy){k a:Int}(j:1<=k/\k<=4)(d:0<=a/\a<YQ l k):Ya l (fstL l k+a)=(k,a,0):=by
 have h:=Vg.1 g;have n:=qn g;unfold Ya X0;rw[if_neg (by simp[g])];simp only[ZdJ,Ze2];have f:k=1\/k=2\/k=3\/k=4:=Z0;obtain rfl|rfl|rfl|rfl:=f;grind;simp only[fstL,YQ]at d⊢;grind;simp only[fstL,YQ]at d⊢;grind;simp only[fstL,YQ]at d⊢;grind
end Vm
namespace Vm
open Go Go.Proofs
def F2{g:Hp}(a:ZH (Zu g)=xy):fwd g 0=(0,g,0):=by simp[fwd,a]
theorem yG{l:Ly}(f:ZH l=xy){k a:Int}(d:0<=a):¬Y7 l k a=0:=by
 grind [WN,Y7]
def fwd_here{g:Hp}(h:ZH (Zu g)=xy){k a:Int}(f:1<=k/\k<=2)(d:0<=a/\a< P (Zx g k)):fwd g (Y7 (Zu g) k a)=(Y7 (Zu g) k a,g,0):=by
 grind [yG,U3,Qu,UO,fwd]
def fwd_gone{g:Hp}(d:ZH (Zu g)=xy){k:Int}{a:Nat}(p:3<=k/\k<=4){u:Int}(f:(Zx g k)[a]?=xk u)(h:(adr u).2=0):fwd g (Y7 (Zu g) k a)=(u,g,0):=by
 have q:a< P (Zx g k):=(ZdH.1 f).1;have j:=yG d (k:=k) (a:=(a:Int)) Z0;have l:=U3 d (k:=k) (a:=(a:Int)) Z0;have n:=Qu d (k:=k) (a:=(a:Int)) Z0 (by rw[UO Z0];omega);have o:(Zx g k).getD a 0=u:=by simp[List.getD,f]
 unfold fwd;simp[-List.getD_eq_getElem?_getD,d,j,l,n,show ¬k<3 by omega,o,h]
def Yg(g:Hp)(k:Int)(a n:Nat):Hp:=Xi (Xn g k a n) k ((zr (Zx g k) a n).set a (Y7 (Zu g) 1 (P g.low)))
def QN{g:Hp}{k:Int}{a n:Nat}(d:a+n<=P (Zx g k)):Zu (Xn g k a n)= {Zu g with low:=(P g.low+n:Nat)}:=by
 simp_all[Zu,Xn,Ly.mk.injEq,true_and,and_true]
theorem GJ{g:Hp}(d:ZH (Zu g)=xy){k:Int}{a n:Nat}(f:a+n<=P (Zx g k))(l:(n:Int)<=Xo (Zu g)):ZH (Zu (Xn g k a n))=xy:=by
 rw[QN f];have h:=Vg.1 d;have e:Xo (Zu g)=(Zu g).cap- (Zu g).low- (Zu g).high:=by unfold Xo;rw[d];rfl
 have j:(Zu g).low=P g.low:=rfl;grind [Vg]
def Am{g:Hp}{k:Int}(f:3<=k/\k<=4){a n:Nat}(d:a+n<=P (Zx g k)):Zu (Yg g k a n)= {Zu g with low:=(P g.low+n:Nat)}:=by
 rw[<-QN d];unfold Yg;apply CF;rw[Zgx,qu];have:k=3\/k=4:=Z0;obtain rfl|rfl:=this<;>rfl
def Z3s{g:Hp}(j:ZH (Zu g)=xy){k:Int}(f:3<=k/\k<=4){a n:Nat}(d:a+n<=P (Zx g k))(h:(n:Int)<=Xo (Zu g)):ZH (Zu (Yg g k a n))=xy:=by
 rw[Am f d,<-QN d];grind [GJ]
def Z5N{g:Hp}{k:Int}(d:3<=k/\k<=4){a n:Nat}(f:a+n<=P (Zx g k))(j b:Int):Y7 (Zu (Yg g k a n)) j b=Y7 (Zu g) j b:=by
 rw[Am d f];rfl
def fwd_wait{g:Hp}(h:ZH (Zu g)=xy){k:Int}{a:Nat}(C:3<=k/\k<=4){u:Int}(B:(Zx g k)[a]?=xk u)(q:¬(adr u).2=0){n:Nat}{pt:Int}(p:ZP u=((n:Int),pt,0))
  (j:a+(n+1)<=P (Zx g k)) (A:((n+1:Nat):Int)<=Xo (Zu g)):fwd g (Y7 (Zu g) k a)=(Y7 (Zu g) 1 (P g.low),Yg g k a (n+1),0):=by
 have r:=yG h (k:=k) (a:=(a:Int)) Z0;have t:=U3 h (k:=k) (a:=(a:Int)) Z0;have w:=Qu h (k:=k) (a:=(a:Int)) Z0 (by grind [UO]);have x:(Zx g k).getD a 0=u:=by simp[List.getD,B]
 have f:=GJ h j A;have y:Y1 (Zu (Xn g k a (n+1))) 1 (P g.low)=(fstL (Zu g) 1+P g.low,0):=by
  have:=R8 f (k:=1) (a:=(P g.low:Int)) Z0 (by rw[QN j];simp only[YQ,Zer];omega);rw[this,QN j];rfl
 have d:=WN f 1;rw[QN j]at d;simp only[YQ,Zer]at d;have l:fstL {Zu g with low:=(P g.low+(n+1):Nat)} 1=fstL (Zu g) 1:=rfl;rw[l]at d;have z:XG (fstL (Zu g) 1+P g.low)=(Y7 (Zu g) 1 (P g.low),0):=by
  unfold XG Y7;rw[if_neg Z0]
 unfold fwd;have o:¬k<3:=Z0;simp only[h,r,t,w,if_neg o,Zfn,Zeu,ne_eq,Zht,ZdW,x,q,p];unfold TB;rw[if_neg Z0,if_neg Z0];simp only[y,z];rfl
theorem CN{ws:List Int}{a:Nat}:∀(n j:Nat),j<a\/a+n<=j->(zr ws a n)[j]?=ws[j]?
 |0,_,_=>rfl
 |n+1,j,h=>by
  unfold zr;rw[ZeS Z0];exact CN n j Z0
def Ap{g:Hp}{k:Int}(o:3<=k/\k<=4){a n:Nat}(p:0<n){j:Int}(l:3<=j/\j<=4){b:Nat}(h:j≠k\/b<a\/a+n<=b):(Zx (Yg g k a n) j)[b]?=(Zx g j)[b]? :=by
 have f:k=3\/k=4:=Z0;have d:j=3\/j=4:=Z0;obtain rfl|rfl:=f<;>obtain rfl|rfl:=d<;>simp only[Yg,Xn,Z82,Z83,Kr,Ks]
 grind [List.getElem?_set_ne,CN];grind [List.getElem?_set_ne,CN]
def An{g:Hp}{k:Int}(l:3<=k/\k<=4){a n:Nat}{j:Int}(h:3<=j/\j<=4):P (Zx (Yg g k a n) j)=P (Zx g j):=by
 have f:k=3\/k=4:=Z0;have d:j=3\/j=4:=Z0;obtain rfl|rfl:=f<;>obtain rfl|rfl:=d<;>simp[Yg,Xn]
def Z3r{g:Hp}{k:Int}(h:3<=k/\k<=4){a n:Nat}(f:a+n<=P (Zx g k)):(Yg g k a n).low.length=P g.low+n/\(Yg g k a n).high=g.high:=by
 have d:k=3\/k=4:=Z0;obtain rfl|rfl:=d<;>simp only[Kr,Ks]at f<;>simp[Yg,Xn]<;>omega
end Vm
namespace Vm
open Go Go.Proofs
def C1{h:Hp}{ws:List Int}{low:List Ob}:∀(f i:Nat) (d l:List (Int×Int)),WS h ws low f i d=xk l->∃r,l=d++r
 |0,_,_,_,a=>by simp[WS]at a
 |f+1,i,d,l,a=>by
  unfold WS at a;split at a;cases a;exact⟨[],Z1⟩;split at a;split at a;cases a;obtain⟨r,g⟩:=C1 f _ _ _ a;exact⟨_,by rw[g,Zew]⟩;split at a;exact C1 f _ _ _ a;cases a
def qa{h:Hp}{ws:List Int}{low:List Ob}:∀(f i:Nat) (d k:List (Int×Int)),WS h ws low f i d=xk k->∀(p:Nat) (g l:List Ob),Xl ws k xy p i (P d) g=(l,0)->
  ∃r,l=g++r/\∀o∈r,o.gone=xy->∃q,Yy h 1 low o.target=xk q/\q.size=o.size/\q.ptrs=o.ptrs
 |0,_,_,_,j=>by simp[WS]at j
 |f+1,i,d,k,j=>by
  intro p g l a;cases p with
  |zero=>simp[Xl]at a
  |succ p=>
   unfold WS at j;unfold Xl at a;cases x:ws[i]? with
   |none=>
    simp_all
   |some w=>
    simp only[x]at j a;by_cases t:(adr w).2=0;simp only[t,Zer]at j;cases C:Yy h 1 low (adr w).1 with
    |none=>simp_all
    |some q=>
     simp only[C]at j;obtain⟨r,D⟩:=C1 _ _ _ _ j;have F:k[P d]?=xk (q.size,q.ptrs):=by rw[D];simp
     unfold XY at a;rw[if_pos ⟨rfl,t⟩]at a;simp only[F]at a;by_cases u:YJ q.size q.ptrs=xy;rw[if_pos u]at a;simp only at a;split at a;simp at a;split at a;simp at a;have n:P d+1=P (d++[(q.size,q.ptrs)]):=Z1;rw[n]at a;obtain⟨G,z,A⟩:=qa f _ _ _ j _ _ _ a;grind;simp_all
    simp only[t,Zeu]at j;by_cases y:(ZP w).2.2=0;simp only[y,Zer]at j;unfold XY at a;rw[if_neg (λB=>t B.2),if_pos y]at a;simp only at a;split at a;simp at a;split at a;simp at a;obtain⟨G,z,A⟩:=qa f _ _ _ j _ _ _ a;simp_all;simp_all
def RightH.gone_low{h:Hp}{p:Pts}(r:RightH h p){k:Int}(D:3<=k/\k<=4){o:Ob}(d:o∈p.at k)(A:o.gone=xy):∃q∈p.low,YV h 1 q.at_=o.target/\q.size=o.size/\q.ptrs=o.ptrs:=by
 have a:=r.parts;unfold XF at a;dsimp only at a;split at a;cases a;split at a;cases a;rename_i c2
 have g:∀(f:List Int) (x:Option (List (Int×Int))),x=Vh h f (ZM h.low [] xh).1->¬x=xw->(ZM f (x.getD []) xy).2=0->o∈(ZM f (x.getD []) xy).1->
   ∃q∈(ZM h.low [] xh).1,YV h 1 q.at_=o.target/\q.size=o.size/\q.ptrs=o.ptrs:=by
  intro f x C F n d;obtain _|j:=x;simp_all;simp only[Zec]at n d;obtain⟨H,l,t⟩:=qa _ _ _ _ C.symm (P f+1) [] (ZM f j xy).1 (Zg9 rfl n);simp only[ZeA]at l;rw[l]at d;obtain⟨q,B,G⟩:=t o d A;have:=Zh8 B;grind [DD]
 have u:¬Vh h h.old (ZM h.low [] xh).1=xw:=λe=>c2 (.inl e);have w:¬Vh h h.far (ZM h.low [] xh).1=xw:=λe=>c2 (.inr (.inl e));have y:(ZM h.old ((Vh h h.old (ZM h.low [] xh).1).getD []) xy).2=0:=ZeM λe=>c2 (.inr (.inr (.inl e)));have z:(ZM h.far ((Vh h h.far (ZM h.low [] xh).1).getD []) xy).2=0:=ZeM λe=>c2 (.inr (.inr (.inr e)));cases a;have:k=3\/k=4:=Z0;obtain rfl|rfl:=this;exact g _ _ rfl u y ZcW;exact g _ _ rfl w z ZcW
def NP{l:List Ob}{o:Ob}(h:o∈l):WT o<=Yx l:=by
 unfold Yx;induction l with
 |nil=>simp at h
 |cons x l a=>
  grind
def Z7V{p:Pts}{k:Int}(a:3<=k/\k<=4){o:Ob}(h:o∈p.at k):WT o<=Wt p:=by
 have:k=3\/k=4:=Z0;unfold Wt;obtain rfl|rfl:=this;have:=NP (l:=p.old) h;omega;have:=NP (l:=p.far) h;omega
def Z5M{l:Ly}(d:ZH l=xy){k j a b:Int}(o:1<=k/\k<=4)(n:1<=j/\j<=4)(f:0<=a/\a<YQ l k)(g:0<=b/\b<YQ l j)(h:Y7 l k a=Y7 l j b):k=j/\a=b:=by
 have p:=Qu d o f;have q:=Qu d n g;have:fstL l k+a=fstL l j+b:=by unfold Y7 at h;omega
 simp_all
def NG{u a:Int}(d:(adr u).2=0)(h:(adr u).1=a):u=2*a+1:=by
 unfold adr at d h;grind
def OC{u:Int}(h:(ZP u).2.2=0):¬(adr u).2=0:=by
 unfold ZP at h;split at h;rename_i a;unfold adr;grind;grind
end Vm
namespace Vm
open Go Go.Proofs
end Vm
end
section
namespace Vm
open Go Go.Proofs
def Tiles.order{ws:List Int}{old:Bool}:∀ {a:Nat} {l:List Ob},Tiles ws old a l->l.Pairwise λx y=>x.at_<y.at_
 |_,[],_=>.nil
 |a,o::l,h=>by
  have f:=Yv.1 h.2.1.shape;refine .cons (λx d=> ?_) (Tiles.order h.2.2);have:=(Tiles.stands h.2.2 x d).2;have:=h.1;omega
def Cc{h:Hp}(f:ZH (Zu h)=xy){k:Int}(d:1<=k/\k<=4){old:Bool}{o:Ob}(a:Stands (Zx h k) old o):YV h k o.at_=fstL (Zu h) k+o.at_:=by
 have:=Yv.1 a.shape;have:=a.fits;have:=a.nat;grind [YV,R8,UO]
def Z7n{h:Hp}(f:ZH (Zu h)=xy){k:Int}(d:1<=k/\k<=4){old:Bool}{o:Ob}(a:Stands (Zx h k) old o):Ya (Zu h) (YV h k o.at_)=(k,o.at_,0):=by
 have:=Yv.1 a.shape;have:=a.fits;have:=a.nat;rw[Cc f d a];grind [Qu,UO]
def Tiles.starts{h:Hp}(f:ZH (Zu h)=xy){k:Int}(d:1<=k/\k<=4){old:Bool}{l:List Ob}(a:Tiles (Zx h k) old 0 l):l.Pairwise λx y=>YV h k x.at_≠YV h k y.at_:=by
 refine List.Pairwise.imp_of_mem ?_ a.order;intro x y j n g;rw[Cc f d (a.stands x j).1,Cc f d (a.stands y n).1];omega
def GT{h:Hp}{a:Int}:∀ {l:List Ob} {m:List (Int×(Int×Int))},(l.Pairwise λx y=>YV h 1 x.at_≠YV h 1 y.at_)->ZY (X9 h 1 m l) a=match Yy h 1 l a with
  |some o=>xk (o.size,o.ptrs)
  |none=>ZY m a
 | [],m,_=>rfl
 |o::l,m,f=>by
  obtain⟨g,d⟩:=Zhg.1 f;rw[X9,GT d];unfold Yy;rw[Zh7];cases j:l.find? (λo=>YV h 1 o.at_==a)with
  |some q=>
   grind
  |none=>
   simp only[Zer,QA];grind [YV,Y1,Zu]
def Az{h:Hp}{k:Int}(a:¬k=1):∀ {l:List Ob} {m:List (Int×(Int×Int))},X9 h k m l=m
 | [],m=>rfl
 |o::l,m=>by simp_all[X9,if_neg,Az]
def Ke{h:Hp}{k a:Int}:∀ {l:List Ob} {m:List (Int×Int)},ZY (Wm h k m l) a=if(Yy h k l a).isSome=xy then xk k else ZY m a
 | [],m=>rfl
 |o::l,m=>by
  rw[Wm,Ke];unfold Yy;rw[Zh7,QA];by_cases f:YV h k o.at_=a;have d:(Y1 (Zu h) k o.at_).1=a:=f;have:(YV h k o.at_==a)=xy:=ZcY;simp[this,d];have d:¬(Y1 (Zu h) k o.at_).1=a:=f;have:(YV h k o.at_==a)=xh:=ZcY;simp[this,d]
def C0{lm:List (Int×(Int×Int))}{ws:List Int}:∀(f i:Nat) (a:List (Int×Int)),∃r,Wz lm ws f i a=a++r
 |0,_,a=>⟨[],by simp[Wz]⟩
 |f+1,i,a=>by
  rw[Wz];cases ws[i]? with
  |none=>simp
  |some w=>
   simp only;split;split;simp;obtain⟨r,d⟩:=C0 (lm:=lm) (ws:=ws) f _ _;exact⟨_,by rw[d,Zew]⟩;split;exact C0 f _ _;simp
def yY{lm:List (Int×(Int×Int))}{h:Hp}{low:List Ob}(j:∀a,ZY lm a=(Yy h 1 low a).map λo=>(o.size,o.ptrs)){ws:List Int}:∀(f i:Nat) (g k:List (Int×Int)),WS h ws low f i g=xk k->Wz lm ws f i g=k
 |0,_,_,_,d=>by simp[WS]at d
 |f+1,i,g,k,d=>by
  rw[WS]at d;rw[Wz];cases r:ws[i]? with
  |none=>rw[r]at d;simpa using d
  |some w=>
   rw[r]at d;simp only at d⊢;by_cases l:(adr w).2=0;rw[if_pos l]at d⊢;rw[j];cases n:Yy h 1 low (adr w).1 with
   |none=>rw[n]at d;cases d
   |some o=>rw[n]at d;exact yY j _ _ _ _ d
   rw[if_neg l]at d⊢;by_cases q:(ZP w).2.2=0;rw[if_pos q]at d⊢;exact yY j _ _ _ _ d;rw[if_neg q]at d;cases d
def yZ{lm:List (Int×(Int×Int))}{h:Hp}{low:List Ob}(k:∀a,ZY lm a=(Yy h 1 low a).map λo=>(o.size,o.ptrs)){ws:List Int}:∀(f i:Nat) (d:List (Int×Int)),0<f->P ws<f+i->WS h ws low f i d=xw->
  ∀(l:Nat) (j:List Ob),(Xl ws (Wz lm ws f i d) xy l i (P d) j).2≠0
 |0,_,_,x,_,_=>Z0
 |f+1,i,d,x,F,g=>by
  intro l j;cases l with
  |zero=>simp[Xl]
  |succ l=>
   rw[WS]at g;rw[Wz,Xl];cases u:ws[i]? with
   |none=>simp_all
   |some w=>
    have y:=(ZdH.1 u).1;rw[u]at g;simp only at g⊢;by_cases q:(adr w).2=0;rw[if_pos q]at g⊢;rw[k];cases z:Yy h 1 low (adr w).1 with
    |none=>
     simp only[ZhU];have:XY d xy i (P d) w=xw:=by
      unfold XY;rw[if_pos ⟨rfl,q⟩];simp
     rw[this];simp
    |some o=>
     rw[z]at g;simp only[Ze4]at g⊢;obtain⟨r,A⟩:=C0 (lm:=lm) (ws:=ws) f (i+1+o.size.toNat) (d++[(o.size,o.ptrs)]);have D:=yZ k f (i+1+o.size.toNat) (d++[(o.size,o.ptrs)]) Z0 Z0 g l;generalize Wz lm ws f (i+1+o.size.toNat) (d++[(o.size,o.ptrs)])=n at*;have B:n[P d]?=xk (o.size,o.ptrs):=by rw[A];simp
     unfold XY;rw[if_pos ⟨rfl,q⟩,B];simp only;by_cases t:YJ o.size o.ptrs=xy;rw[if_pos t];simp only;split;simp;split;simp;simp_all;simp_all
    rw[if_neg q]at g⊢;by_cases C:(ZP w).2.2=0;rw[if_pos C]at g⊢;have D:=yZ k f (i+1+(ZP w).1.toNat) d Z0 Z0 g l;generalize Wz lm ws f (i+1+(ZP w).1.toNat) d=n at*;unfold XY;grind;simp_all[if_neg,XY]
structure Found (h:Hp) (s:Ck) (p:Pts):Prop where
 hp:s.h=h
 o1:s.o1=p.low
 o2:s.o2=p.high
 o3:s.o3=p.old
 o4:s.o4=p.far
 pm:s.pm=Wm h 4 (Wm h 3 (Wm h 2 (Wm h 1 [] p.low) p.high) p.old) p.far
def Z80{h:Hp}(C:ZH (Zu h)=xy):match XF h with
  |some p=>(XT (X8 h)).1=xy/\Found h (XT (X8 h)).2 p
  |none=>(XT (X8 h)).1=xh:=by
 unfold XT XF;dsimp only;have D:Xm (X8 h) 1=ZM h.low [] xh:=rfl;rw[WL,D];by_cases w:(ZM h.low [] xh).2=0;case neg=>simp_all
 rw[if_pos w];have B:Tiles h.low xh 0 (ZM h.low [] xh).1:=Se (ws:=h.low) (shs:=[]) (Zg9 rfl w);generalize (ZM h.low [] xh).1=d at*;have F:Xm (XM (X8 h) 1 d) 2=ZM h.high [] xh:=rfl;rw[WL,F];by_cases A:(ZM h.high [] xh).2=0;case neg=>simp_all
 rw[if_pos A,if_neg Z0];generalize (ZM h.high [] xh).1=n at*;have g:∀a,ZY (X9 h 1 [] d) a=(Yy h 1 d a).map λo=>(o.size,o.ptrs):=by
  intro a;rw[GT (Tiles.starts C (k:=1) Z0 (by simpa using B))];cases Yy h 1 d a<;>rfl
 have j:(XM (XM (X8 h) 1 d) 2 n).lm=X9 h 1 [] d:=Az Z0;have G:Xm (XM (XM (X8 h) 1 d) 2 n) 3=ZM h.old (Tn (X9 h 1 [] d) h.old) xy:=by
  rw[<-j];rfl
 rw[WL,G];cases x:Vh h h.old d with
 |none=>
  have:=yZ g (P h.old+1) 0 [] Z0 Z0 x (P h.old+1) [];have q:¬(ZM h.old (Tn (X9 h 1 [] d) h.old) xy).2=0:=this;rw[if_neg q,if_pos (.inl rfl)]
 |some shs=>
 have t:Tn (X9 h 1 [] d) h.old=shs:=yY g _ _ _ _ x;rw[t];simp only[Zec];by_cases q:(ZM h.old shs xy).2=0;case neg=>simp_all
 rw[if_pos q];generalize (ZM h.old shs xy).1=z at*;have l:(XM (XM (XM (X8 h) 1 d) 2 n) 3 z).lm=X9 h 1 [] d:=by
  rw[<-j];exact Az Z0
 have H:Xm (XM (XM (XM (X8 h) 1 d) 2 n) 3 z) 4=ZM h.far (Tn (X9 h 1 [] d) h.far) xy:=by
  rw[<-l];rfl
 rw[WL,H];cases y:Vh h h.far d with
 |none=>
  have:=yZ g (P h.far+1) 0 [] Z0 Z0 y (P h.far+1) [];have r:¬(ZM h.far (Tn (X9 h 1 [] d) h.far) xy).2=0:=this;rw[if_neg r,if_pos (.inr (.inl rfl))]
 |some f=>
 have u:Tn (X9 h 1 [] d) h.far=f:=yY g _ _ _ _ y;rw[u];simp only[Zec];by_cases r:(ZM h.far f xy).2=0;case neg=>simp_all
 rw[if_pos r,if_neg ZcJ];generalize (ZM h.far f xy).1=I at*;exact⟨rfl,rfl,rfl,rfl,rfl,rfl,rfl⟩
end Vm
namespace Vm
open Go Go.Proofs
def B4{h:Hp}{p:Pts}(a:XF h=xk p){k:Int}(n:1<=k/\k<=4):Tiles (Zx h k) (decide (2<k)) 0 (p.at k):=by
 have:k=1\/k=2\/k=3\/k=4:=Z0;unfold XF at a;dsimp only at a;split at a;cases a;rename_i g;split at a;cases a;rename_i c2;cases a;have c3:(ZM h.low [] xh).2=0/\(ZM h.high [] xh).2=0:=by
  refine⟨ZeM λf=>g (.inl f),ZeM λf=>g (.inr f)⟩
 have c4:∀x:Int,¬x≠0->x=0:=λx d=>ZeM d;have j:=c4 _ (λd=>c2 (.inr (.inr (.inl d))));have l:=c4 _ (λd=>c2 (.inr (.inr (.inr d))));obtain rfl|rfl|rfl|rfl:=this;exact Se (Zg9 rfl c3.1);exact Se (Zg9 rfl c3.2);exact Se (Zg9 rfl j);exact Se (Zg9 rfl l)
def Z4z{h:Hp}{p:Pts}(a:XF h=xk p){k:Int}(C:3<=k/\k<=4){o:Ob}(d:o∈p.at k)(z:o.gone=xy):∃q∈p.low,YV h 1 q.at_=o.target/\q.size=o.size/\q.ptrs=o.ptrs:=by
 unfold XF at a;dsimp only at a;split at a;cases a;split at a;cases a;rename_i c2
 have g:∀(f:List Int) (x:Option (List (Int×Int))),x=Vh h f (ZM h.low [] xh).1->¬x=xw->(ZM f (x.getD []) xy).2=0->o∈(ZM f (x.getD []) xy).1->
   ∃q∈(ZM h.low [] xh).1,YV h 1 q.at_=o.target/\q.size=o.size/\q.ptrs=o.ptrs:=by
  intro f x B D n d;obtain _|j:=x;simp_all;simp only[Zec]at n d;obtain⟨G,l,r⟩:=qa _ _ _ _ B.symm (P f+1) [] (ZM f j xy).1 (Zg9 rfl n);simp only[ZeA]at l;rw[l]at d;obtain⟨q,A,F⟩:=r o d z;have:=Zh8 A;grind [DD]
 have t:¬Vh h h.old (ZM h.low [] xh).1=xw:=λe=>c2 (.inl e);have u:¬Vh h h.far (ZM h.low [] xh).1=xw:=λe=>c2 (.inr (.inl e));have w:(ZM h.old ((Vh h h.old (ZM h.low [] xh).1).getD []) xy).2=0:=ZeM λe=>c2 (.inr (.inr (.inl e)));have y:(ZM h.far ((Vh h h.far (ZM h.low [] xh).1).getD []) xy).2=0:=ZeM λe=>c2 (.inr (.inr (.inr e)));cases a;have:k=3\/k=4:=Z0;obtain rfl|rfl:=this;exact g _ _ rfl t w ZcW;exact g _ _ rfl u y ZcW
theorem OU{h:Hp}(q:ZH (Zu h)=xy){p:Pts}(n:XF h=xk p){k:Int}(d:1<=k/\k<=4){a:Int}(l:(Yy h k (p.at k) a).isSome=xy):∃b,Ya (Zu h) a=(k,b,0):=by
 obtain⟨o,f⟩:=ZeP.1 l;have g:=Zgn f;have j:YV h k o.at_=a:=by have:=Zh8 f;simpa using this
 rw[<-j];exact⟨_,Z7n q d ((B4 n d).stands o g).1⟩
def DF{h:Hp}(o:ZH (Zu h)=xy){p:Pts}(n:XF h=xk p){k j:Int}(g:1<=k/\k<=4)(f:1<=j/\j<=4)(l:k≠j){a:Int}(d:(Yy h k (p.at k) a).isSome=xy):(Yy h j (p.at j) a).isSome=xh:=by
 grind [Yy,OU,Prod.mk.injEq]
section
variable {h:Hp}{s:Ck}{p:Pts}
theorem Found.obs(a:Found h s p){k:Int}:s.obs k=p.at k:=by
 unfold Ck.obs Pts.at;rw[a.o1,a.o2,a.o3,a.o4]
def Found.pm_at(d:Found h s p)(a:Int):ZY s.pm a=if(Yy h 4 (p.at 4) a).isSome=xy then xk 4 else if(Yy h 3 (p.at 3) a).isSome=xy then xk 3 else if(Yy h 2 (p.at 2) a).isSome=xy then xk 2 else if(Yy h 1 (p.at 1) a).isSome=xy then xk 1 else xw:=by
 rw[d.pm,Ke,Ke,Ke,Ke];rfl
def Found.points(r:Found h s p)(z:ZH (Zu h)=xy)(y:XF h=xk p)(w:Int):YM s w 1 2=Xs h p w 1 2/\YM s w 3 4=Xs h p w 3 4/\YM s w 1 4=(Xs h p w 1 2||Xs h p w 3 4):=by
 unfold YM Xs;by_cases d:w=0;simp[d];by_cases q:(adr w).2=0;case neg=>grind
 simp only[d,q,ZgT,Zgg,Zgh,Zgj];rw[r.pm_at];generalize (adr w).1=a;have o:=λk j u t x=>DF (k:=k) (j:=j) z y u t x (a:=a);have G:=o 4 3 Z0 Z0 Z0;have F:=o 4 2 Z0 Z0 Z0;have D:=o 4 1 Z0 Z0 Z0;have C:=o 3 2 Z0 Z0 Z0;have B:=o 3 1 Z0 Z0 Z0;have A:=o 2 1 Z0 Z0 Z0;clear o;generalize (Yy h 1 (p.at 1) a).isSome=f at*;generalize (Yy h 2 (p.at 2) a).isSome=g at*;generalize (Yy h 3 (p.at 3) a).isSome=l at*;generalize (Yy h 4 (p.at 4) a).isSome=n at*;cases f<;>cases g<;>cases l<;>cases n<;>simp_all
end
end Vm
namespace Vm
open Go Go.Proofs
def Xx(l:List Ob):List Int:=(l.filter (·.gone)).map (·.target)
def Z5d{α:Type}{l:List (Int×α)}{k:Int}{x:α}(h:ZY l k=xw):P (XH l k x)=P l+1:=by
 grind [ZY,Option.map_eq_none_iff,List.findIdx?_eq_none_iff,List.find?_eq_none,XH]
def LE{pm:List (Int×Int)}:∀ {l:List Ob} {m:List (Int×Bool)} {K:List Int},K.Nodup->(∀a,ZY m a=if a∈K then xk xy else xw)->P m=P K->
  match Wf pm l m with
  |some w=>(∀t∈Xx l,(ZY pm t).getD 0=1)/\(K++Xx l).Nodup/\P w=P (K++Xx l)/\∀a,ZY w a=if a∈K++Xx l then xk xy else xw
  |none=>¬((∀t∈Xx l,(ZY pm t).getD 0=1)/\(K++Xx l).Nodup)
 | [],m,K,q,f,u=>by simp only[Wf,Xx,List.filter_nil,Zfm,Zf5];exact⟨Z1,q,u,f⟩
 |o::l,m,K,q,f,u=>by
  rw[Wf];cases A:o.gone with
  |false=>
   rw[if_neg Z1];have:Xx (o::l)=Xx l:=by simp[Xx,A]
   rw[this];exact LE q f u
  |true=>
   rw[if_pos rfl];have d:Xx (o::l)=o.target::Xx l:=by simp[Xx,A]
   rw[d];by_cases k:(ZY pm o.target).getD 0=1;by_cases n:o.target∈K;rw[if_neg (by rw[f,if_pos n];simp)];rintro⟨_,D⟩;exact(ZgJ.1 D).2.2 _ n _ (ZeL ..) rfl;have j:ZY m o.target=xw:=by rw[f,if_neg n]
   rw[if_pos ⟨k,by rw[j];rfl⟩]
   have g:=LE (pm:=pm) (l:=l) (m:=XH m o.target xy) (K:=K++[o.target]) (by
     rw[ZgJ];refine⟨q,Z1,λa C b z=> ?_⟩;simp at z;subst z;intro e;subst e;exact n C) (λa=>by
     rw[QA,f];by_cases e:o.target=a;simp[e];have B:¬a=o.target:=λx=>e x.symm;simp[e,B]) (by rw[Z5d j,u];simp)
   rw[Zew,ZgR]at g;cases r:Wf pm l (XH m o.target xy)with
   |none=>
    rw[r]at g;rintro⟨y,F⟩;exact g ⟨λt d=>y t (Zei _ d),F⟩
   |some w=>
    rw[r]at g;refine⟨λt d=> ?_,g.2⟩;obtain rfl|d:=Ze3.1 d;exact k;exact g.1 t d
   rw[if_neg (λr=>k r.1)];rintro⟨y,_⟩;exact k (y _ (ZeL ..))
def Na{l:List Ob}{a:Int}:Xw l a=(Xx l).count a:=by
 unfold Xw Xx;induction l with
 |nil=>rfl
 |cons o l d=>
  grind
def Z46{T S:List Int}(g:S.Nodup)(f:T⊆S):(T.Nodup/\P T=P S)↔ ∀a∈S,T.count a=1:=by
 constructor;rintro⟨d,q⟩ a l;rw[d.count];by_cases n:a∈T;grind;have k:T⊆S.erase a:=λx j=>(g.mem_erase_iff).2 ⟨λe=>n (e▸j),f j⟩;have o:=d.length_le_of_subset k;grind;intro h;have d:T.Nodup:=List.nodup_iff_count.2 λa=>by
  grind
 refine⟨d,Nat.le_antisymm (d.length_le_of_subset f) (g.length_le_of_subset λa l=> ?_)⟩;grind
section
variable {h:Hp}{s:Ck}{p:Pts}
def Found.copied(f:Found h s p)(C:ZH (Zu h)=xy)(y:XF h=xk p):Rh s=(!h.cycle||p.low.all (R0 h p)):=by
 have G:=B4 y (k:=1) Z0;have F:(p.low.map λo=>YV h 1 o.at_).Nodup:=by
  have:=Tiles.starts C (k:=1) Z0 G;rw[List.nodup_iff_pairwise_ne,List.pairwise_map];exact this
 have n:∀t∈Xx s.o3++Xx s.o4,t∈p.low.map λo=>YV h 1 o.at_:=by
  intro t d;have:∃k,(3<=k/\k<=4)/\t∈Xx (p.at k):=by
   obtain d|d:=Ze8.1 d;exact⟨3,Z0,by rw[f.o3]at d;exact d⟩;exact⟨4,Z0,by rw[f.o4]at d;exact d⟩
  obtain⟨k,x,d⟩:=this;simp only[Xx,ZdX,Zgy]at d;obtain⟨o,⟨r,I⟩,rfl⟩:=d;obtain⟨q,z,B,_⟩:=Z4z y x r I;exact ZdX.2 ⟨q,z,B⟩
 have L:∀t∈Xx s.o3++Xx s.o4,(ZY s.pm t).getD 0=1:=by
  intro t d;obtain⟨q,z,B⟩:=ZdX.1 (n t d);have u:(Yy h 1 (p.at 1) t).isSome=xy:=by
   unfold Yy;rw[List.find?_isSome];exact⟨q,z,ZcJ⟩
  have o:=λk x J=>DF (k:=1) (j:=k) C y Z0 x J u;rw[f.pm_at,o 4 Z0 Z0,o 3 Z0 Z0,o 2 Z0 Z0,u];rfl
 unfold Rh;rw[f.hp];cases Q:h.cycle;rfl;simp only[Zgt,Zgh];have key:=Z46 F (T:=Xx s.o3++Xx s.o4) n;have g:p.low.all (R0 h p)=xy↔ ∀a∈(p.low.map λo=>YV h 1 o.at_),(Xx s.o3++Xx s.o4).count a=1:=by
  rw[ZdR];constructor;intro A a H;obtain⟨o,r,rfl⟩:=ZdX.1 H;have:=A o r;simp only[R0,Ze2,UQ,Na]at this;rw[List.count_append,f.o3,f.o4];exact this;intro A o r;have:=A _ (ZdX.2 ⟨o,r,rfl⟩);rw[List.count_append,f.o3,f.o4]at this;simp_all[R0,Ze2,UQ,Na]
 rw[Zek]at key;have w:=LE (pm:=s.pm) (l:=s.o3) (m:=[]) (K:=[]) Z1 (by simp[ZY]) rfl;simp only[ZeA]at w;rw[Zh4,g,<-key];cases u:Wf s.pm s.o3 []with
 |none=>
  grind
 |some m=>
  rw[u]at w;obtain⟨S,M,N,O⟩:=w;simp only[ZdQ];have c2:=LE (pm:=s.pm) (l:=s.o4) (m:=m) (K:=Xx s.o3) M O N;cases D:Wf s.pm s.o4 m with
  |none=>
   simp_all
  |some R=>
   rw[D]at c2;obtain⟨U,W,P,X⟩:=c2;simp only[Ze2,P,f.o1];simp_all
end
end Vm
namespace Vm
open Go Go.Proofs
def MU:∀ {l:List Int} {a:Int} {i:Nat},XJ l xy a i=xy->∀w∈l,w=0
 | [],_,_,_,w,d=>Zdn
 |x::l,a,i,h,w,d=>by
  simp only[XJ,ZdJ,Zgt,Zgh,Ze2]at h;obtain rfl|d:=Ze3.1 d;exact h.1.1;exact MU h.2 w d
def Ky{s:Ck}{k:Int}{q:Int->Int->Bool}:WG s k q=xy↔ ∀o∈s.obs k,o.gone=xh->∀j,j<o.ptrs.toNat->q ((o.at_.toNat+1+j:Nat):Int) (VI (Zx s.h k) (o.at_.toNat+1+j))=xy:=by
 unfold WG obQ;grind
def Z5b{h:Hp}{p:Pts}(u:XF h=xk p){k:Int}(r:1<=k/\k<=4):Wp h p k=xy↔ ∀o∈p.at k,o.gone=xh->∀j,j<o.ptrs.toNat->VX h p k (o.at_.toNat+1+j)=xy:=by
 unfold Wp zS;rw[ZdR];constructor;simp_all;intro y o t;rw[ZdR];intro j l;have l:=ZfW.1 l;cases q:o.gone;simp_all;have d:=((B4 u r).stands o t).1;have w:=Yv.1 d.shape;have f:=d.slots;rw[q]at f;have x:=MU f;have g:=d.fits;have n:=d.nat;have a:o.at_.toNat+1+j< P (Zx h k):=Z0;have z:(Zx h k)[o.at_.toNat+1+j]?=xk 0:=by
  rw[ZdG a];refine ZeX xk (x _ ?_);rw[ZgQ];refine⟨j,?_⟩;rw[Zej,if_pos Z0,Ze9,ZdG a]
 grind [Xs,VX]
section
variable {h:Hp}{s:Ck}{p:Pts}
def Found.ptrs(u:Found h s p)(I:ZH (Zu h)=xy)(G:XF h=xk p):(Q2 s&&(Q5 s&&RF s))=(h.roots.all (λw=>Xs h p w 1 2)&&Wp h p 1&&Wp h p 2&&Wp h p 3&&Wp h p 4):=by
 have g:=u.points I G;have t:s.h.roots.all (λw=>YM s w 1 2)=h.roots.all (λw=>Xs h p w 1 2):=by
  rw[u.hp];congr 1;funext w;exact(g w).1
 have l:=λk=>u.obs (k:=k);have r:∀(k:Int) (q:Nat->Int->Bool) (F:1<=k/\k<=4),(∀a,VX h p k a=q a (VI (Zx h k) a))->(Wp h p k=xy↔ ∀o∈p.at k,o.gone=xh->∀j,j<o.ptrs.toNat->q (o.at_.toNat+1+j) (VI (Zx h k) (o.at_.toNat+1+j))=xy):=by
  intro k q F H;rw[Z5b G F];simp only[H]
 have p2:=r 2 (λ_ w=>Xs h p w 1 2) Z0 (λa=>by simp[VX,VI]);have p3:=r 3 (λ_ w=>Xs h p w 3 4) Z0 (λa=>by simp[VX,VI]);have p4:=r 4 (λ_ w=>Xs h p w 3 4) Z0 (λa=>by simp[VX,VI]);have J:=r 1 (λa w=>if h.scan<=a then Xs h p w 1 2||Xs h p w 3 4 else Xs h p w 1 2) Z0 (λa=>by simp[VX,VI]);have L:WG s 2 (λ_ w=>YM s w 1 2)=xy↔Wp h p 2=xy:=by
  rw[p2,Ky,l,u.hp];simp only[(g _).1]
 have M:WG s 3 (λ_ w=>YM s w 3 4)=xy↔Wp h p 3=xy:=by
  rw[p3,Ky,l,u.hp];simp only[(g _).2.1]
 have N:WG s 4 (λ_ w=>YM s w 3 4)=xy↔Wp h p 4=xy:=by
  rw[p4,Ky,l,u.hp];simp only[(g _).2.1]
 have K:(WG s 1 (λa w=>decide (s.h.scan<=a)||YM s w 1 2)=xy/\WG s 1 (λa w=>decide (a<s.h.scan)||YM s w 1 4)=xy)↔Wp h p 1=xy:=by
  rw[J,Ky,Ky,l,u.hp];simp only[(g _).1,(g _).2.2];constructor;rintro⟨C,D⟩ o A y j z;have C:=C o A y j z;have D:=D o A y j z;generalize o.at_.toNat+1+j=n at*;by_cases x:h.scan<=(n:Int);have:¬(n:Int)<h.scan:=Z0;simpa[x,this]using D;simpa[x]using C;intro B;refine⟨λo A y j z=> ?_,λo A y j z=> ?_⟩;have B:=B o A y j z;generalize o.at_.toNat+1+j=n at*;by_cases x:h.scan<=(n:Int);simp[x];simpa[x]using B;have B:=B o A y j z;generalize o.at_.toNat+1+j=n at*;by_cases x:h.scan<=(n:Int);have:¬(n:Int)<h.scan:=Z0;simpa[x,this]using B;have:(n:Int)<h.scan:=Z0;simp[this]
 unfold Q2 Q5 RF;rw[t,Zh4];simp only[ZdJ];rw[L,M,N,<-K];constructor;rintro⟨⟨a,b,c⟩,d,e,f⟩;exact⟨⟨⟨⟨a,c,d⟩,b⟩,e⟩,f⟩;rintro⟨⟨⟨⟨a,c,d⟩,b⟩,e⟩,f⟩;exact⟨⟨a,b,c⟩,d,e,f⟩
def Found.roomy(a:Found h s p):Q0 s=decide ((P h.low:Int)+P h.high+Wt p<=h.cap):=by
 unfold Q0 Q8 Wt;rw[a.hp,a.o3,a.o4]
end
def Z3R(h:Hp):Tg h=(Sm (X8 h)&&RX (X8 h)):=by
 grind [Tg,Sm,RX,X8,ZH,Zu]
def Gp(h:Hp):(UD h).isSome=X5 h/\∀s,UD h=xk s->∃p,XF h=xk p/\Found h s p:=by
 have k:UD h=(if Sm (X8 h)=xy then if RX (X8 h)=xy then if(XT (X8 h)).1=xy then
   if Rh (XT (X8 h)).2=xy then if Q2 (XT (X8 h)).2=xy then if Q5 (XT (X8 h)).2=xy then if RF (XT (X8 h)).2=xy then if Q0 (XT (X8 h)).2=xy then
    xk (XT (X8 h)).2 else xw else xw else xw else xw else xw else xw else xw else xw):=rfl
 have t:=Z3R h;unfold X5;rw[t];cases a:Sm (X8 h);simp_all;have g:ZH (Zu h)=xy:=by
  unfold Sm at a;simp only[ZdJ]at a;exact a.1
 cases j:RX (X8 h);simp_all;have l:=Z80 g;cases f:XF h with
 |none=>
  simp_all
 |some p=>
  rw[f]at l;obtain⟨r,d⟩:=l;rw[a,j,r]at k;simp only[Zer]at k;generalize (XT (X8 h)).2=s at*;have n:=d.copied g f;have o:=d.ptrs g f;have q:=d.roomy;have u:S5 h p=(Rh s&&((Q2 s&&(Q5 s&&RF s))&&Q0 s)):=by
   rw[n,o,q];unfold S5;simp only[Bool.and_assoc]
  grind
def Z2Y(h:Hp)(k:Int):Ki h k=Ue h k:=by
 obtain⟨d,g⟩:=Gp h;unfold Ki Ue;cases f:UD h with
 |none=>
  simp_all
 |some s=>
  rw[f]at d;have a:X5 h=xy:=d.symm;obtain⟨p,l,j⟩:=g s f;simp only[a,true_and,l,Zec,j.obs]
end Vm
end
section
namespace Vm
open Go Go.Proofs Go.RowKit
section
def D6{α:Type}(F:Fence)(n:Nat)(P:Z5)(g:Nat)(lb:Za)(d:α->Array Value)(k:World->World->Prop)(S:List α->World->Prop)(o:List PanicEntry->List α->World->Prop)(N:Nat)(bt:ZcI)(j:World->Prop)(w:Z4):Prop:=
 ∀(l:Nat) (J:List α->World->Prop) (W:Z4),Below (U (R w)) w W->(∀pre W,J pre W->j W)->(∀s A B row,J s A->A.grownBy B row->(∀r,row=xk r->xk r=bt)->J s B)->
  (∀pre x f,J pre f->xq pre<N->YieldAt F (n-1) P l (d x) f λe a=>e=.returned (.bool xy)/\J (pre++[x]) a/\k f a)->
  J [] W->
  CallsIn F n P g (#[.func (.yield l) #[] #[]]++lb) W λe a=>(∃v h,e=.returned v/\S h a/\J h a)\/(∃chain pre,e=.panicked chain/\o chain pre a/\J pre a)
def Z55{α:Type}(B:Nat)(d:World->World->Prop)(I:List α->World->Prop)(xs:List α)(W:Z4):Exit->Act->World->Prop
 |.normal,_,a=>KeepsFrom B W a/\d W a/\I xs a
 |_,_,_=>False
def OwnP{β:Type}(bt:ZcI)(B:Nat)(I:β->World->Prop):Prop:=
 ∀s X Y row,I s X->X.grownBy Y row->(∀r,row=xk r->xk r=bt\/(B<=r/\∃o:Obj,X.heap[r]?=xk o/\o.isCells=xh))->I s Y
def OwnP.putObj{β:Type}{bt:ZcI}{B:Nat}{I:β->World->Prop}(h:OwnP bt B I){s:β}{W:Z4}{l:Nat}{o:Obj}(a:Obj)(d:I s W)(f:B<=l)(g:W.heap[l]?=xk o)(j:o.isCells=xh):I s (W.putObj l a):=
 h s W _ (xk l) d (Zgd W l a) (λr e=>ZcK)
def OwnP.alloc{β:Type}{bt:ZcI}{B:Nat}{I:β->World->Prop}(h:OwnP bt B I){s:β}{W:Z4}(o:Obj)(a:I s W):I s (W.alloc o):=
 h s W _ xw a (Zf4 W o xw) (λr e=>by cases e)
variable {F:Fence}{n:Nat}{P:Z5}
def Z8a{α:Type}{g:Operand}{ps:Array Tmp}{assign body:Code}{Q:Zh}{a:Act}{w:Z4}
  (c8:F.round=xw) (h1:1<=n) {gf:Nat} {lb:Za} (hg:a.eval g=.func (.func gf) #[] lb) (c9:F.fn gf) (eg:∀args w,(callFunc gf args).run P w=.ok (.enter gf args) w)
  {f:α->Array Value} {M:World->World->Prop} {S:List α->World->Prop} {Pp:List PanicEntry->List α->World->Prop} {N:Nat} {bt:ZcI} {Ex:World->Prop} {w0:Z4} (a7:D6 F (n-1) P gf lb f M S Pp N bt Ex w0)
  (b4:∀r,bt=xk r->r<xz (xj w))
  (T:∀ {A B C:Z4},M A B->M B C->M A C) (a0:∀(W:Z4) (l:Nat) (o o':Obj),xz (xj w)<=l->W.heap[l]?=xk o->o.isCells=xh->o.isWalk=xh->M W (W.putObj l o')) (a1:Below (xz (xj w0)) w0 w) (d0:∀x,(f x).size=ps.size)
  (I:List α->World->Prop) (hI:OwnP bt (xz (xj w)) I) (a9:∀pre W,I pre W->Ex W) (h0:I [] w) (hS:OwnP xw (xz (xj w)) S) (Ax:α->Act->World->Prop) (a8:∀x G,OwnP xw (xz (xj w)) (λ(_:Unit) W=>Ax x G W))
  (q:∀(l:Nat) (pre:List α) (x:α) (W:Z4) (K:Act->World->Prop),I pre W->(∀G W',KeepsFrom (xz (xj w)) W W'->M W W'->I pre W'->Ax x G W'->K G W')->
   assign.wpIn (F.inRound l) (n-1-1) P (Exit.then K (λ_ _ _=>False)) {tmps:=(ps.zip (f x)).foldl (λt (p,v)=>t.setIfInBounds p v) a.tmps,defers:=[]} W)
  (U:∀(l:Nat) (pre:List α) (x:α) (G:Act) (W:Z4),I pre W->Ax x G W->xq pre<N->body.wpIn (F.inRound l) (n-1-1) P (Z55 (xz (xj w)) M I (pre++[x]) W) G W)
  (X:∀(D:Nat) (xs:List α) (W:Z4),xz (xj w)<=D->S xs W->I xs W->W.heap[D]?=xk (.deferred (xk []))->Q .normal {a with defers:= {target:=.collected D,args:=#[]}::a.defers} W)
  (L:∀(D:Nat) (chain:List PanicEntry) (pre:List α) (W:Z4),xz (xj w)<=D->Pp chain pre W->I pre W->W.heap[D]?=xk (.deferred (xk []))->Q (.panic chain) {a with defers:= {target:=.collected D,args:=#[]}::a.defers} W):
  (Code.rangeFunc g ps assign body).wpIn F n P Q a w:=by
 refine wpIn_rangeFunc λfn b6=> ?_;rw[c8];obtain⟨d,z⟩:∃d:LoopState->Option Code->Loop,d=λst pe=> {state:=st,pending:=pe,fn,tmps:=a.tmps,params:=ps,assign,body,defers:=xz (xj w)}:=⟨_,rfl⟩;obtain⟨H,J⟩:∃H,(w.alloc (.deferred (xk []))).alloc (.loop (d .ready xw))=H:=⟨_,rfl⟩;have b1:H.heap[xz (xj w)+1]?=xk (.loop (d .ready xw)):=by
  have:=ZeY (w.alloc (.deferred (xk []))) (.loop (d .ready xw));rw[Zg3]at this;rw[<-J];exact this
 have b0:H.heap[xz (xj w)]?=xk (.deferred (xk [])):=by
  rw[<-J];exact(ZdN _ _ _ Z1).trans (ZeY w _)
 have b3:Below (xz (xj w0)) w0 H:=by
  rw[<-J];exact a1.trans ((((Zef _ w).alloc (ZdL _) _).alloc Z1 _).mono a1.size)
 refine⟨xz (xj w)+1,[{target:=.collected (xz (xj w)),args:=#[]}],H,{target:=.fn (.func gf) lb,args:=#[.func (.yield (xz (xj w)+1)) #[] #[]]},H,gf,
  #[.func (.yield (xz (xj w)+1)) #[] #[]]++lb,H,?_,?_,?_,?_,λ_=>h1,?_⟩
 simp_all[run_enterLoop_outer]
 .simp only[resolve,hg];simp[go_sem]
 simp_all[Target.leads];simp_all[invoke];have R:∀ {A B:Z4} {row:ZcI} {k:Nat} {o:Obj},A.grownBy B row->(∀r,row=xk r->xk r=bt)->xz (xj w)<=k->A.heap[k]?=xk o->B.heap[k]?=xk o:=by
  intro A B row k o u hr hk ho;refine(u.block k (ZdM.1 ho).1 λe=> ?_).trans ho;have:=b4 k (hr k e.symm).symm;omega
 refine(a7 (xz (xj w)+1) (λpre W=>I pre W/\W.heap[xz (xj w)+1]?=xk (.loop (d .ready xw))/\W.heap[xz (xj w)]?=xk (.deferred (xk []))) H b3 (λpre W h=>a9 pre W h.1)
  (λs A B row hs u hr=>⟨hI s A B row hs.1 u (λr e=>.inl (hr r e)),R u hr Z0 hs.2.1,R u hr (ZdL _) hs.2.2⟩) ?_ ⟨by rw[<-J];exact hI.alloc _ (hI.alloc _ h0),b1,b0⟩).mono ?_
 rintro pre x W ⟨hi,Y,hk⟩ a6;have hy:=run_yield (P:=P) (args:=f x) Y ZcK;rw[z]at hy;refine⟨fn,_,assign,body,hy,roundIn_of_wpIn b6 (q _ pre x W _ hi ?_)⟩;intro G V a4 c1 b8 b2;have y:=a4.same _ _ Z0 Y rfl;have c0:=a4.same _ _ (ZdL _) hk rfl;have c6:xz (xj w)+1<xz (xj V):=(ZdM.1 y).1;refine⟨_,run_beginRound y (by rw[z]),?_⟩;have c5:(V.putObj (xz (xj w)+1) (.loop {d .ready xw with state:=.busy})).heap[xz (xj w)+1]?=xk (.loop {d .ready xw with state:=.busy}):=Zg7 c6;have b9:(V.putObj (xz (xj w)+1) (.loop {d .ready xw with state:=.busy})).heap[xz (xj w)]?=xk (.deferred (xk [])):=(Zen Z0).trans c0;have c7:M V (V.putObj (xz (xj w)+1) (.loop {d .ready xw with state:=.busy})):=a0 _ _ _ _ Z0 y rfl rfl;refine wpIn_mono (U _ pre x G _ (hI.putObj _ b8 Z0 y rfl) ((a8 x G).putObj (s:=()) _ b2 Z0 y rfl) a6) ?_;rintro e a3 W3 O;cases e with
 |normal=>
  obtain⟨a2,a5,b7⟩:=O;have Z:=a2.same _ _ Z0 c5 rfl;have b5:=a2.same _ _ (ZdL _) b9 rfl;have j:=run_endRound (P:=P) xw Z;refine⟨_,_,j,rfl,⟨hI.putObj _ b7 Z0 Z rfl,?_,(Zen Z0).trans b5⟩,T c1 (T (T c7 a5) (a0 _ _ _ _ Z0 Z rfl rfl))⟩;grind [World.putObj_heap_same,Array.getElem?_eq_some_iff]
 |ret=>exact O.elim
 |exit id=>exact O.elim
 |goto t=>exact O.elim
 |panic ch=>exact O.elim
 |outgrown=>exact O.elim
 rintro e W2 (⟨v,xs,rfl,hs,hi,Y,hk⟩|⟨chain,pre,rfl,O,hi,Y,hk⟩);have j:=run_endLoop (P:=P) Y ZcK;rw[z]at j;exact⟨xw,_,j,X _ xs _ (ZdL _) (hS.putObj _ hs Z0 Y rfl) (hI.putObj _ hi Z0 Y rfl) ((Zen Z0).trans hk)⟩;exact L _ chain pre _ (ZdL _) O hi hk
end
end Vm
end
section
namespace Vm
open Go
open Go.Proofs
def HW:Fn:=⟨4,[0,2,3,4],
pQ [pR [pV 1 pF],pC [pK 4 44 [.s 0]] [pV 2 (.ext (.s 4) 0),pV 3 (.ext (.s 4) 1)],.reg ⟨[.lt 5 [] (.bin .eql (.s 0) (pU 0))],[([(5,xh)],.bin .eql (.s 3) (pI 0))],[pV 1 (.ite (.s 5) pT (.bin .eql (.s 3) (pI 0)))]⟩] .ret,[(1,.v)]⟩
def PI:ZK Sol.prog fresh sig [.fz] [] Try.f135=xk HW:=Z2
end Vm
end
section
namespace Vm
open Go Go.Proofs Go.RowKit
def Z54{x:Int}(hx:ZC x):VC Sol.prog 135 xh [vu x] (.bool (Vv x)):=by
 refine ZU Sol.func135 follows Z2 PI rfl ?_;simp[HW];refine Zy (Js hx) Z1 ?_;simp_all[Vv]
def IL{x:Int}(hx:ZC x)(w:World):Calls Sol.prog 135 #[.int .u64 x] w λe a=>e=.returned (.bool (Vv x))/\Below (U (R w)) w a:=
 Tv (Z54 hx) rfl rfl w
structure Words (w:World) (ws:List Int) (g o cap:Nat):Prop where
 at_:∀(i:Nat) (x:Int),ws[i]?=xk x->w.cell? ⟨g,o+i,xw⟩=xk (.int .u64 x)
 le:P ws<=cap
 cap:cap<=maxLen
 len:P ws<=1000000
 u64:∀x∈ws,ZC x
def V5(e:Int):List PanicEntry:=[{v:=.iface 189 (.agg #[.int .i64 e]),recovered:=xh}]
def Ww(o:Ob):Value:=.agg #[.int .i64 o.at_,.int .i64 o.size,.int .i64 o.ptrs,.bool o.gone,.int .u64 o.target]
def z9(ws:List Int)(o:Ob):Ending:=
 if(P ws:Int)<o.at_+1+o.size then .panicked (V5 2)else if XJ ((ws.drop (o.at_.toNat+1)).take o.size.toNat) o.gone o.ptrs 0=xh then .panicked (V5 3)else .returned (.tuple #[])
def Z1k(w:World)(ws:List Int)(g o cap:Nat)(C:Words w ws g o cap)(Y:g<xz (xj w))(t:Ob)(a:Nat)(L:t.at_=a)(A:a<xq ws)(B:YJ t.size t.ptrs=xy):
  Calls Sol.prog 134 #[.slice (xk ⟨g,o,xw⟩) (xq ws) cap,Ww t] w λe w'=>e=z9 ws t/\Below (xz (xj w)) w w':=by
 have hl:=C.len;have hc:=C.le;have hm:=C.cap;obtain⟨at_,size,ptrs,gone,target⟩:=t;simp only at L B;subst L;obtain⟨s1,s2,s3,s4⟩:=Yv.1 B;obtain⟨m,rfl⟩:=ZdV s1;have J:=ZdP C;have r:z9 ws ⟨a,m,ptrs,gone,target⟩=if(xq ws:Int)<a+1+m then .panicked (V5 2)else if XJ ((ws.drop (a+1)).take m) gone ptrs 0=xh then .panicked (V5 3)else .returned (.tuple #[]):=rfl
 generalize z9 ws ⟨a,m,ptrs,gone,target⟩=E at*;unfold Ww;dsimp only;by_cases l:(xq ws:Int)<a+1+m
 .rw[if_pos l]at r;have u:=ZdP r;clear r;have Q:((xq ws- (a+1):Nat):Int)<m:=Z0;go_enter Sol.func134,Try.ntmps134;go_wp2;all_goals exact⟨rfl,u.out.symm,(Zef _ _).alloc (ZdL _) _⟩
 .rw[if_neg l]at r;have u:=ZdP r;clear r;have N:(m:Int)<=((xq ws- (a+1):Nat):Int):=Z0;have O:m<=xq ws- (a+1):=Z0;have R:(xq ws- (a+1)<m)=False:=Zgl Z0;have X:m<=cap- (a+1):=Z0;have Z:m<=255:=Z0;clear C l;by_cases z:cap=a+1
  .have I:m=0:=Z0;subst I;subst z;go_enter Sol.func134,Try.ntmps134;go_wp2;go_loopw [26] (λi wr=>i=.int .i64 0/\Hid (Below (xz (xj w)) w wr)) (λi _=>0)
   case atStart=>exact⟨rfl,ZdP ((Zef _ _).alloc (ZdL _) _)⟩
   case round=>
    obtain⟨rfl,T⟩:=hrel;go_wp2;go_end0
    exact⟨u.out.symm,T.out⟩
  .go_enter Sol.func134,Try.ntmps134;go_wp2
   go_loopw [26] (λi wr=>∃k:Nat,i=.int .i64 k/\k<=m/\Hid (Below (xz (xj w)) w wr/\wr.heap[xz (xj w)]?=xk (.cells #[.int .i64 a,.int .i64 m,.int .i64 ptrs,.bool gone,.int .u64 target] 59 (0,0))/\
     XJ ((ws.drop (a+1)).take m) gone ptrs 0=XJ (((ws.drop (a+1)).take m).drop k) gone ptrs k)) (λi _=>m- (intOf i).toNat)
   case atStart=>exact⟨0,rfl,Z0,ZdP ⟨(Zef _ _).alloc (ZdL _) _,Ze7 w _,rfl⟩⟩
   case round=>
    obtain⟨k,rfl,hk,d⟩:=hrel;by_cases A:k<m
    .obtain⟨x,D⟩:∃x,ws[a+1+k]?=xk x:=⟨_,ZdG Z0⟩;have S:ZC x:=J.out.u64 x (ZdO D);have K:((ws.drop (a+1)).take m)[k]?=xk x:=by
      rw[Zej,if_pos A,Ze9];exact D
     have c0:wr.cell? ⟨g,o+(a+1)+k,xw⟩=xk (.int .u64 x):=by
      rw[ZeZ];exact(d.out.1.cell (p:=⟨g,o+(a+1+k),xw⟩) Y).trans (J.out.at_ _ _ D)
     have c1:wr.cell? ⟨xz (xj w),1,xw⟩=xk (.int .i64 m):=Zdm;have c2:wr.cell? ⟨xz (xj w),2,xw⟩=xk (.int .i64 ptrs):=Zdm;have c3:wr.cell? ⟨xz (xj w),3,xw⟩=xk (.bool gone):=Zdm;have q:=Z7c (gone:=gone) (ptrs:=ptrs) K;have P:(k:Int)<m:=Z0;have G:=Yf d.out.2.1;clear D K;have stop:XJ (((ws.drop (a+1)).take m).drop k) gone ptrs k=xh->E=.panicked (V5 3):=λh=>by
      rw[u.out,d.out.2.2,h,if_pos rfl]
     cases gone
     .by_cases hp:(k:Int)<ptrs
      .cases H:Vv x
       .have f:=ZdP (stop ZcK);clear stop q;go_wp2_with (go_at_call 135;refine(IL S _).mono ?_;rintro e w1 ⟨rfl,j⟩;have n:=ZdP j;clear j)
        exact⟨rfl,f.out.symm,d.out.1.trans (n.out.mono d.out.1.size)⟩
       .have y:=ZdP (q.trans (by simp[H]:_=XJ (((ws.drop (a+1)).take m).drop (k+1)) xh ptrs (k+1)));clear stop q;go_wp2_with (go_at_call 135;refine(IL S _).mono ?_;rintro e w1 ⟨rfl,j⟩;have n:=ZdP j;clear j)
        go_wp2;go_roundw
        case rel=>
         exact⟨k+1,by go_num,Z0,ZdP ⟨d.out.1.trans (n.out.mono d.out.1.size),(n.out.block _ G).trans d.out.2.1,d.out.2.2.trans y.out⟩⟩
        case measure=>grind [intOf]
      .have y:=ZdP (q.trans (by simp[hp]:_=XJ (((ws.drop (a+1)).take m).drop (k+1)) xh ptrs (k+1)));clear stop q;go_wp2;go_roundw
       case rel=>exact⟨k+1,by go_num,Z0,ZdP ⟨d.out.1,d.out.2.1,d.out.2.2.trans y.out⟩⟩
       case measure=>grind [intOf]
     .by_cases U:x=0
      .subst U;have y:=ZdP (q.trans (by simp[Vv]:_=XJ (((ws.drop (a+1)).take m).drop (k+1)) xy ptrs (k+1)));clear stop q;go_wp2;go_roundw
       case rel=>exact⟨k+1,by go_num,Z0,ZdP ⟨d.out.1,d.out.2.1,d.out.2.2.trans y.out⟩⟩
       case measure=>grind [intOf]
      .have f:=ZdP (stop ZcK);clear stop q;go_wp2;exact⟨rfl,f.out.symm,d.out.1⟩
    .have:k=m:=Z0;subst this;have F:=d.out.2.2;have M:((ws.drop (a+1)).take k).drop k=[]:=Zft ZcK;rw[M]at F;have f:=ZdP (u.out.trans (by rw[F];rfl:_=Ending.returned (.tuple #[])));clear F M;go_wp2;go_end0
     exact⟨f.out.symm,d.out.1⟩
end Vm
namespace Vm
open Go Go.Proofs Go.RowKit
def Z3C(w:World):Sem.run Sol.prog (binOp .neq 190 .nilFunc .nilFunc) w=.ok (.bool xh) w:=Zdz
def Aq(w:World)(f:FuncId)(vs:Array Value):Sem.run Sol.prog (binOp .neq 190 (.func (.func f) #[] vs) .nilFunc) w=.ok (.bool xy) w:=Zdz
def yM{w:World}{b:Nat}{T:TypeId}{v0 v1 d f v4:Value}(h:w.heap[b]?=xk (.cells #[v0,v1,d,f,v4] T (0,0)))(O:Obj):
  ((w.alloc O).cell? ⟨b,0,xw⟩=xk v0/\(w.alloc O).cell? ⟨b,1,xw⟩=xk v1/\(w.alloc O).cell? ⟨b,2,xw⟩=xk d/\(w.alloc O).cell? ⟨b,3,xw⟩=xk f/\(w.alloc O).cell? ⟨b,4,xw⟩=xk v4)/\
  (w.alloc O).frozen? ⟨b,0,xw⟩=xh/\(w.alloc O).frozen? ⟨b,1,xw⟩=xh/\(w.alloc O).frozen? ⟨b,2,xw⟩=xh/\(w.alloc O).frozen? ⟨b,3,xw⟩=xh/\(w.alloc O).frozen? ⟨b,4,xw⟩=xh:=by
 have a:(w.alloc O).heap[b]?=xk (.cells #[v0,v1,d,f,v4] T (0,0)):=(ZdN _ _ _ (Yf h)).trans h;refine⟨⟨?_,?_,?_,?_,?_⟩,Yz a,Yz a,Yz a,Yz a,Yz a⟩<;>(rw[ZdT _ _ _ _ _ _ a];rfl)
def Sl(a:Nat)(x:Int):Ending:=if(ZP x).2.2=0 then .returned (Ww ⟨a,(ZP x).1,(ZP x).2.1,xh,0⟩)else .panicked (V5 3)
def P7(w:World)(ws:List Int)(g o cap:Nat)(n:Words w ws g o cap)(J:g<xz (xj w))(a:Nat)(x:Int)(hx:ws[a]?=xk x):
  Calls Sol.prog 133 #[.slice (xk ⟨g,o,xw⟩) (xq ws) cap,.int .i64 a,.nilFunc] w λe L=>e=Sl a x/\Below (xz (xj w)) w L:=by
 have T:=n.len;have S:=n.le;have U:=n.cap;have K:a<xq ws:=(ZdH.1 hx).1;have A:(a:Int)<xq ws:=Z0;have q:ZC x:=n.u64 x (ZdO hx);have C:=n.at_ a x hx;have z:∀W,Below (xz (xj w)) w W->W.cell? ⟨g,o+a,xw⟩=xk (.int .u64 x):=λW I=>(I.cell (p:=⟨g,o+a,xw⟩) J).trans C;have l:Sl a x=if(ZP x).2.2=0 then .returned (Ww ⟨a,(ZP x).1,(ZP x).2.1,xh,0⟩)else .panicked (V5 3):=rfl
 generalize Sl a x=E at*;have y:=ZdP z;have B:=Z3C;clear n hx z;by_cases t:(ZP x).2.2=0
 .rw[if_pos t]at l;have r:=ZdP l;clear l;go_enter Sol.func133,Try.ntmps133
  go_wp2_with (first
   |(go_at_call 44;refine(VL q _).mono ?_;rintro e w1 ⟨rfl,f⟩;have d:=ZdP f;have D:=y.out w1 (((((Zef _ w).alloc (ZdL _) _).alloc (by simp) _).trans (f.mono (by simp;omega))));clear f)
   | (go_at_call 69;refine(Je q _).mono ?_;rintro e w2 ⟨rfl,h⟩;have j:=ZdP h
      have H:=d.out.block;have r0:w2.heap[xz (xj w)]?=xk (.cells #[.int .i64 0,.int .i64 0,.int .i64 0,.bool xh,.int .u64 0] 59 (0,0)):=(h.block _ Zde).trans ((d.out.block _ ZcL).trans ((ZdN _ _ _ Z1).trans (Ze7 w _)));have u:w2.heap[xz (xj w)+1]?=xk (.cells #[.int .i64 a,.int .i64 0,.int .i64 0,.bool xh,.int .u64 0] 59 (0,0)):=(h.block _ Zde).trans ((d.out.block _ Z1).trans ZcP);obtain⟨⟨M,N,O,P,Q⟩,y0,y1,y2,y3,y4⟩:=yM r0 (.cells #[.int .i64 (ZP x).1,.int .i64 (ZP x).2.1] 52);obtain⟨⟨X,Y,p2,p3,p4⟩,Z,q1,q2,q3,q4⟩:=yM u (.cells #[.int .i64 (ZP x).1,.int .i64 (ZP x).2.1] 52);have R:=ZdP (And.intro r0 u);clear h H r0 u))
  refine Zey (v:=Ww ⟨a,(ZP x).1,(ZP x).2.1,xh,0⟩) ?_ rfl ⟨r.out.symm,?_⟩
  .simp[results,Try.results133,go_sem,Ww,M,N,O,P,Q]
  have k:=(((Zef _ w).alloc (ZdL _) (.cells #[.int .i64 0,.int .i64 0,.int .i64 0,.bool xh,.int .u64 0] 59)).alloc Z1 (.cells #[.int .i64 a,.int .i64 0,.int .i64 0,.bool xh,.int .u64 0] 59)).trans (d.out.mono ZcL);have G:=(k.trans (j.out.mono (by have:=k.size;omega))).alloc (by have:=k.size;have:=j.out.size;omega) (.cells #[.int .i64 (ZP x).1,.int .i64 (ZP x).2.1] 52);exact((((((G.setCell (p:=⟨xz (xj w)+1,1,xw⟩) Z1 _).setCell (p:=⟨xz (xj w)+1,2,xw⟩) Z1 _).setCell (p:=⟨xz (xj w),0,xw⟩) (ZdL _) _).setCell (p:=⟨xz (xj w),1,xw⟩) (ZdL _) _).setCell (p:=⟨xz (xj w),2,xw⟩) (ZdL _) _).setCell (p:=⟨xz (xj w),3,xw⟩) (ZdL _) _).setCell (p:=⟨xz (xj w),4,xw⟩) (ZdL _) _
 .rw[if_neg t]at l;have r:=ZdP l;clear l;have F:((ZP x).2.2=0)=False:=Zgl t;go_enter Sol.func133,Try.ntmps133
  go_wp2_with (first
   |(go_at_call 44;refine(VL q _).mono ?_;rintro e w1 ⟨rfl,f⟩;have d:=ZdP f;have D:=y.out w1 (((((Zef _ w).alloc (ZdL _) _).alloc (by simp) _).trans (f.mono (by simp;omega))));clear f)
   |(go_at_call 69;refine(Je q _).mono ?_;rintro e w2 ⟨rfl,h⟩;have j:=ZdP h;clear h))
  refine⟨rfl,r.out.symm,?_⟩;have k:=(((Zef _ w).alloc (ZdL _) (.cells #[.int .i64 0,.int .i64 0,.int .i64 0,.bool xh,.int .u64 0] 59)).alloc Z1 (.cells #[.int .i64 a,.int .i64 0,.int .i64 0,.bool xh,.int .u64 0] 59)).trans (d.out.mono ZcL);exact(k.trans (j.out.mono (by have:=k.size;omega))).alloc (by have:=k.size;have:=j.out.size;omega) _
end Vm
namespace Vm
open Go Go.Proofs Go.RowKit
def ML(s p:Int)(w:World):Calls Sol.prog 94 #[.agg #[.int .i64 s,.int .i64 p]] w λe a=>e=.returned (.bool (YJ s p))/\Below (U (R w)) w a:=
 Tv Mi rfl rfl w
structure Shps (w:World) (shs:List (Int×Int)) (bs:Nat) (v:Value):Prop where
 box:w.heap[bs]?=xk (.cells #[v] 180 (0,0))
 val:(∃g o cap,v=.slice (xk ⟨g,o,xw⟩) (P shs) cap/\P shs<=cap/\cap<=maxLen/\g<U (R w)/\∀(i:Nat) (x:Int×Int),shs[i]?=xk x->w.cell? ⟨g,o+i*2,xw⟩=xk (.int .i64 x.1)/\w.cell? ⟨g,o+i*2+1,xw⟩=xk (.int .i64 x.2))\/
  (∃a cap,v=.slice a 0 cap/\shs=[])
def Z1a(w:World)(shs:List (Int×Int))(bt h:Nat)(v:Value)(x:P shs<=1000000)(d:Shps w shs h v)(f:w.heap[bt]?=xk (.cells #[.int .i64 (P shs)] 3 (0,0))):
  Calls Sol.prog 129 #[.pointer (xk ⟨bt,0,xw⟩),.pointer (xk ⟨h,0,xw⟩)] w λe p=>e=.panicked (V5 3)/\Below (U (R w)) w p:=by
 have k:w.cell? ⟨bt,0,xw⟩=xk (.int .i64 (P shs)):=by rw[ZdT _ _ _ _ _ _ f];rfl
 have n:=Yf f;have j:=Yf d.box;have q:w.cell? ⟨h,0,xw⟩=xk v:=by rw[ZdT _ _ _ _ _ _ d.box];rfl
 obtain⟨g,o,cap,rfl,r,t,u,l⟩|⟨a,cap,rfl,rfl⟩:=d.val
 .clear l d f;go_enter Sol.func129,Try.ntmps129;go_wp2;exact⟨rfl,rfl,(Zef _ _).alloc (ZdL _) _⟩
 .clear d f;simp only[Zfg]at k;go_enter Sol.func129,Try.ntmps129;go_wp2;exact⟨rfl,rfl,(Zef _ _).alloc (ZdL _) _⟩
def Z19(w:World)(shs:List (Int×Int))(bt j t:Nat)(v:Value)(x:Int×Int)(I:P shs<=1000000)(f:Shps w shs j v)(k:w.heap[bt]?=xk (.cells #[.int .i64 t] 3 (0,0)))(hx:shs[t]?=xk x)(r:YJ x.1 x.2=xh):
  Calls Sol.prog 129 #[.pointer (xk ⟨bt,0,xw⟩),.pointer (xk ⟨j,0,xw⟩)] w λe A=>e=.panicked (V5 3)/\Below (U (R w)) w A:=by
 have B:w.cell? ⟨bt,0,xw⟩=xk (.int .i64 t):=by rw[ZdT _ _ _ _ _ _ k];rfl
 have u:=Yf k;have p:=Yf f.box;have y:t<P shs:=(ZdH.1 hx).1;have z:¬t=P shs:=Z0;have q:(t:Int)<P shs:=Z0;have C:w.cell? ⟨j,0,xw⟩=xk v:=by rw[ZdT _ _ _ _ _ _ f.box];rfl
 obtain⟨g,o,cap,rfl,F,G,H,n⟩|⟨a,cap,rfl,rfl⟩:=f.val
 .obtain⟨D,d1⟩:=n t x hx;have l:=ML x.1 x.2;rw[r]at l;clear n f k hx r;go_enter Sol.func129,Try.ntmps129;go_wp2_with (go_at_call 94;refine(l _).mono ?_;rintro e w1 ⟨rfl,d⟩;have h:=ZdP d;clear d)
  exact⟨rfl,rfl,((Zef _ w).alloc (ZdL _) _).trans (h.out.mono Z1)⟩
 grind
def Z1b(w:World)(shs:List (Int×Int))(bt f t:Nat)(v:Value)(x:Int×Int)(hl:xq shs<=1000000)(y:Shps w shs f v)(l:w.heap[bt]?=xk (.cells #[.int .i64 t] 3 (0,0)))(hx:shs[t]?=xk x)(J:YJ x.1 x.2=xy)(q:f≠bt)
  (r:∀g o cap,v=.slice (xk ⟨g,o,xw⟩) (xq shs) cap->g≠bt):
  Calls Sol.prog 129 #[.pointer (xk ⟨bt,0,xw⟩),.pointer (xk ⟨f,0,xw⟩)] w λe K=>e=.returned (.agg #[.int .i64 x.1,.int .i64 x.2])/\w.grownBy K (xk bt)/\K.heap[bt]?=xk (.cells #[.int .i64 ((t+1:Nat):Int)] 3 (0,0)):=by
 have L:w.cell? ⟨bt,0,xw⟩=xk (.int .i64 t):=by rw[ZdT _ _ _ _ _ _ l];rfl
 have h:=Yf l;have n:=Yf y.box;have P:t<xq shs:=(ZdH.1 hx).1;have u:¬t=xq shs:=Z0;have I:(t:Int)<xq shs:=Z0;have M:w.cell? ⟨f,0,xw⟩=xk v:=by rw[ZdT _ _ _ _ _ _ y.box];rfl
 have hf:=Yz (o:=0) l;have G:¬f=bt:=q;have H:¬bt=f:=λe=>q e.symm;obtain⟨g,o,cap,rfl,Y,Z,D,F⟩|⟨a,cap,rfl,rfl⟩:=y.val
 .obtain⟨N,d1⟩:=F t x hx;have hg:=r g o cap rfl;have C:=ML x.1 x.2;rw[J]at C;have B:=ZdP l;clear F y l hx J r;go_enter Sol.func129,Try.ntmps129
  go_wp2_with (go_at_call 94;refine(C _).mono ?_;rintro e w1 ⟨rfl,d⟩
               have z:=ZdP d;have s1:=d.size;have k0:w1.cell? ⟨bt,0,xw⟩=xk (.int .i64 t):=(d.cell (p:=⟨bt,0,xw⟩) ZcL).trans ((Zfb _ _ _ h).trans L);have k1:w1.frozen? ⟨bt,0,xw⟩=xh:=Yz ((d.block bt ZcL).trans ((ZdN _ _ _ h).trans B.out));have k2:w1.cell? ⟨f,0,xw⟩=xk (.slice (xk ⟨g,o,xw⟩) (xq shs) cap):=(d.cell (p:=⟨f,0,xw⟩) ZcL).trans ((Zfb _ _ _ n).trans M);have k3:w1.cell? ⟨g,o+t*2,xw⟩=xk (.int .i64 x.1):=(d.cell (p:=⟨g,o+t*2,xw⟩) ZcL).trans ((Zfb _ _ _ D).trans N);have k4:w1.cell? ⟨g,o+t*2+1,xw⟩=xk (.int .i64 x.2):=(d.cell (p:=⟨g,o+t*2+1,xw⟩) ZcL).trans ((Zfb _ _ _ D).trans d1);have r0:w1.heap[xz (xj w)]?=xk (.cells #[.int .i64 0,.int .i64 0] 52 (0,0)):=(d.block _ Z1).trans (Ze7 w _);have T:w1.cell? ⟨xz (xj w),0,xw⟩=xk (.int .i64 0):=by rw[ZdT _ _ _ _ _ _ r0];rfl
               have U:w1.cell? ⟨xz (xj w),1,xw⟩=xk (.int .i64 0):=by rw[ZdT _ _ _ _ _ _ r0];rfl
               have y0:=Yz (o:=0) r0;have y1:=Yz (o:=1) r0;have R:¬xz (xj w)=bt:=Z0;have S:¬bt=xz (xj w):=Z0;have X:=ZdP r0;clear d r0)
  have j:Below (xz (xj w)) w w1:=((Zef _ w).alloc (ZdL _) (.cells #[.int .i64 0,.int .i64 0] 52)).trans (z.out.mono Z1);have Q:w1.heap[bt]?=xk (.cells #[.int .i64 t] 3 (0,0)):=(j.block bt h).trans B.out;refine Zey (v:=.agg #[.int .i64 x.1,.int .i64 x.2]) ?_ rfl ⟨rfl,⟨j.os,j.tape,j.output,?_,λk O u=> ?_⟩,?_⟩
  .simp[results,Try.results129,go_sem,T,U,R,S]
  simp[World.setCell];exact j.size;have A:k≠bt:=λe=>u (by rw[e]);rw[Ze5 _ _ _ _ ZcJ,Ze5 _ _ _ _ ZcJ,Ze5 _ _ _ _ A];exact j.block k O;simp_all[Ze5,World.setCell,Zep]
 grind
end Vm
namespace Vm
open Go Go.Proofs Go.RowKit
def P8(w:World)(f:FuncId)(vs:Array Value)(ws:List Int)(g o cap:Nat)(q:Words w ws g o cap)(M:g<xz (xj w))(a:Nat)(x:Int)(hx:ws[a]?=xk x)(y:¬(adr x).2=0):
  Calls Sol.prog 133 #[.slice (xk ⟨g,o,xw⟩) (xq ws) cap,.int .i64 a,.func (.func f) #[] vs] w λe O=>e=Sl a x/\Below (xz (xj w)) w O:=by
 have Y:=q.len;have X:=q.le;have Z:=q.cap;have N:a<xq ws:=(ZdH.1 hx).1;have C:(a:Int)<xq ws:=Z0;have r:ZC x:=q.u64 x (ZdO hx);have F:=q.at_ a x hx;have B:∀W,Below (xz (xj w)) w W->W.cell? ⟨g,o+a,xw⟩=xk (.int .u64 x):=λW K=>(K.cell (p:=⟨g,o+a,xw⟩) M).trans F;have n:Sl a x=if(ZP x).2.2=0 then .returned (Ww ⟨a,(ZP x).1,(ZP x).2.1,xh,0⟩)else .panicked (V5 3):=rfl
 generalize Sl a x=E at*;have A:=ZdP B;have L:=λW=>Aq W f vs;have D:((adr x).2=0)=False:=Zgl y;clear q hx B;by_cases u:(ZP x).2.2=0
 .rw[if_pos u]at n;have t:=ZdP n;clear n;go_enter Sol.func133,Try.ntmps133
  go_wp2_with (first
   |(go_at_call 44;refine(VL r _).mono ?_;rintro e w1 ⟨rfl,h⟩;have d:=ZdP h;have G:=A.out w1 (((((Zef _ w).alloc (ZdL _) _).alloc (by simp) _).trans (h.mono (by simp;omega))));clear h)
   | (go_at_call 69;refine(Je r _).mono ?_;rintro e w2 ⟨rfl,j⟩;have k:=ZdP j
      have J:=d.out.block;have r0:w2.heap[xz (xj w)]?=xk (.cells #[.int .i64 0,.int .i64 0,.int .i64 0,.bool xh,.int .u64 0] 59 (0,0)):=(j.block _ Zde).trans ((d.out.block _ ZcL).trans ((ZdN _ _ _ Z1).trans (Ze7 w _)));have z:w2.heap[xz (xj w)+1]?=xk (.cells #[.int .i64 a,.int .i64 0,.int .i64 0,.bool xh,.int .u64 0] 59 (0,0)):=(j.block _ Zde).trans ((d.out.block _ Z1).trans ZcP);obtain⟨⟨P,Q,R,S,T⟩,y0,y1,y2,y3,y4⟩:=yM r0 (.cells #[.int .i64 (ZP x).1,.int .i64 (ZP x).2.1] 52);obtain⟨⟨p0,p1,p2,p3,p4⟩,q0,q1,q2,q3,q4⟩:=yM z (.cells #[.int .i64 (ZP x).1,.int .i64 (ZP x).2.1] 52);have U:=ZdP (And.intro r0 z);clear j J r0 z))
  refine Zey (v:=Ww ⟨a,(ZP x).1,(ZP x).2.1,xh,0⟩) ?_ rfl ⟨t.out.symm,?_⟩
  .simp[results,Try.results133,go_sem,Ww,P,Q,R,S,T]
  have l:=(((Zef _ w).alloc (ZdL _) (.cells #[.int .i64 0,.int .i64 0,.int .i64 0,.bool xh,.int .u64 0] 59)).alloc Z1 (.cells #[.int .i64 a,.int .i64 0,.int .i64 0,.bool xh,.int .u64 0] 59)).trans (d.out.mono ZcL);have I:=(l.trans (k.out.mono (by have:=l.size;omega))).alloc (by have:=l.size;have:=k.out.size;omega) (.cells #[.int .i64 (ZP x).1,.int .i64 (ZP x).2.1] 52);exact((((((I.setCell (p:=⟨xz (xj w)+1,1,xw⟩) Z1 _).setCell (p:=⟨xz (xj w)+1,2,xw⟩) Z1 _).setCell (p:=⟨xz (xj w),0,xw⟩) (ZdL _) _).setCell (p:=⟨xz (xj w),1,xw⟩) (ZdL _) _).setCell (p:=⟨xz (xj w),2,xw⟩) (ZdL _) _).setCell (p:=⟨xz (xj w),3,xw⟩) (ZdL _) _).setCell (p:=⟨xz (xj w),4,xw⟩) (ZdL _) _
 .rw[if_neg u]at n;have t:=ZdP n;clear n;have H:((ZP x).2.2=0)=False:=Zgl u;go_enter Sol.func133,Try.ntmps133
  go_wp2_with (first
   |(go_at_call 44;refine(VL r _).mono ?_;rintro e w1 ⟨rfl,h⟩;have d:=ZdP h;have G:=A.out w1 (((((Zef _ w).alloc (ZdL _) _).alloc (by simp) _).trans (h.mono (by simp;omega))));clear h)
   |(go_at_call 69;refine(Je r _).mono ?_;rintro e w2 ⟨rfl,j⟩;have k:=ZdP j;clear j))
  refine⟨rfl,t.out.symm,?_⟩;have l:=(((Zef _ w).alloc (ZdL _) (.cells #[.int .i64 0,.int .i64 0,.int .i64 0,.bool xh,.int .u64 0] 59)).alloc Z1 (.cells #[.int .i64 a,.int .i64 0,.int .i64 0,.bool xh,.int .u64 0] 59)).trans (d.out.mono ZcL);exact(l.trans (k.out.mono (by have:=l.size;omega))).alloc (by have:=l.size;have:=k.out.size;omega) _
def DJ(w:World)(vs:Array Value)(ws:List Int)(g o cap:Nat)(h:Words w ws g o cap)(G:g<U (R w))(a:Nat)(x:Int)(hx:ws[a]?=xk x)(A:(adr x).2=0)
  (d:∀W,Below (U (R w)) w W->Calls Sol.prog 129 vs W λe W'=>e=.panicked (V5 3)/\Below (U (R W)) W W'):
  Calls Sol.prog 133 #[.slice (xk ⟨g,o,xw⟩) (P ws) cap,.int .i64 a,.func (.func 129) #[] vs] w λe C=>e=.panicked (V5 3)/\Below (U (R w)) w C:=by
 have H:=h.len;have F:=h.le;have I:=h.cap;have z:a<P ws:=(ZdH.1 hx).1;have t:(a:Int)<P ws:=Z0;have B:ZC x:=h.u64 x (ZdO hx);have D:=h.at_ a x hx;have y:=λW=>Aq W 129 vs;have u:=ZdP d;clear h hx d;go_enter Sol.func133,Try.ntmps133
 go_wp2_with (first
  | (go_at_call 44;refine(VL B _).mono ?_;rintro e w1 ⟨rfl,f⟩
     have r:Below (U (R w)) w w1:=((((Zef _ w).alloc (ZdL _) _).alloc Z1 _).trans (f.mono ZcL));have k:w1.heap[U (R w)+1]?=xk (.cells #[.int .i64 a,.int .i64 0,.int .i64 0,.bool xh,.int .u64 0] 59 (0,0)):=(f.block _ Z1).trans ZcP;have p3:w1.cell? ⟨U (R w)+1,3,xw⟩=xk (.bool xh):=by rw[ZdT _ _ _ _ _ _ k];rfl
     have p4:w1.cell? ⟨U (R w)+1,4,xw⟩=xk (.int .u64 0):=by rw[ZdT _ _ _ _ _ _ k];rfl
     have J:=Yz (o:=3) k;have K:=Yz (o:=4) k;have n:=ZdP r;clear f r k)
  |(go_at_call 129;refine(u.out _ ?_).mono ?_;rotate_left;rintro e w2 ⟨rfl,j⟩;have l:=ZdP j;clear j))
 case refine_1=>exact(n.out.setCell (p:=⟨U (R w)+1,3,xw⟩) Z1 _).setCell (p:=⟨U (R w)+1,4,xw⟩) Z1 _
 case refine_2=>
  have q:=(n.out.setCell (p:=⟨U (R w)+1,3,xw⟩) Z1 (.bool xy)).setCell (p:=⟨U (R w)+1,4,xw⟩) Z1 (.int .u64 (adr x).1);exact⟨rfl,rfl,q.trans (l.out.mono q.size)⟩
theorem Z1d{w W:World}{r:Option Nat}(h:w.grownBy W r){p:Addr}(f:U (R w)<=p.block)(u:Value):w.grownBy (W.setCell p u) r:=
 ⟨h.os,h.tape,h.output,by simpa[World.setCell]using h.size,λk d a=>(Ze5 _ _ _ _ Z0).trans (h.block k d a)⟩
def P6(w:World)(vs:Array Value)(ws:List Int)(g o cap:Nat)(r:Words w ws g o cap)(Z:g<xz (xj w))(a:Nat)(x:Int)(hx:ws[a]?=xk x)(N:(adr x).2=0)
  (bt:Nat) (O:Obj) (s p:Int) (J:bt<xz (xj w))
  (f:∀W,Below (xz (xj w)) w W->Calls Sol.prog 129 vs W λe W'=>e=.returned (.agg #[.int .i64 s,.int .i64 p])/\W.grownBy W' (xk bt)/\W'.heap[bt]?=xk O):
  Calls Sol.prog 133 #[.slice (xk ⟨g,o,xw⟩) (xq ws) cap,.int .i64 a,.func (.func 129) #[] vs] w λe H=>e=.returned (Ww ⟨a,s,p,xy,(adr x).1⟩)/\w.grownBy H (xk bt)/\H.heap[bt]?=xk O:=by
 have hl:=r.len;have Y:=r.le;have hm:=r.cap;have M:a<xq ws:=(ZdH.1 hx).1;have G:(a:Int)<xq ws:=Z0;have P:ZC x:=r.u64 x (ZdO hx);have X:=r.at_ a x hx;have K:=λW=>Aq W 129 vs;have I:=ZdP f;clear r hx f;go_enter Sol.func133,Try.ntmps133
 go_wp2_with (first
  | (go_at_call 44;refine(VL P _).mono ?_;rintro e w1 ⟨rfl,j⟩
     have D:Below (xz (xj w)) w w1:=((((Zef _ w).alloc (ZdL _) _).alloc Z1 _).trans (j.mono ZcL));have t:w1.heap[xz (xj w)+1]?=xk (.cells #[.int .i64 a,.int .i64 0,.int .i64 0,.bool xh,.int .u64 0] 59 (0,0)):=(j.block _ Z1).trans ZcP;have p3:w1.cell? ⟨xz (xj w)+1,3,xw⟩=xk (.bool xh):=by rw[ZdT _ _ _ _ _ _ t];rfl
     have p4:w1.cell? ⟨xz (xj w)+1,4,xw⟩=xk (.int .u64 0):=by rw[ZdT _ _ _ _ _ _ t];rfl
     have q3:=Yz (o:=3) t;have q4:=Yz (o:=4) t;have r0:w1.heap[xz (xj w)]?=xk (.cells #[.int .i64 0,.int .i64 0,.int .i64 0,.bool xh,.int .u64 0] 59 (0,0)):=(j.block _ ZcL).trans ((ZdN _ _ _ Z1).trans (Ze7 w _));have z:=ZdP (And.intro r0 t);have C:=ZdP D;clear j D r0 t)
  | (go_at_call 129;refine(I.out _ ?_).mono ?_;rotate_left;rintro e w2 ⟨rfl,l,u⟩
     have d:=ZdP l;have A:=ZdP u;have n:w2.heap[xz (xj w)+1]?=xk (.cells #[.int .i64 a,.int .i64 0,.int .i64 0,.bool xy,.int .u64 (adr x).1] 59 (0,0)):=(l.block _ (by simp[World.setCell];exact Yf z.out.2) ZcL).trans (by simp[World.setCell,Zep,z.out.2]);have h:w2.heap[xz (xj w)]?=xk (.cells #[.int .i64 0,.int .i64 0,.int .i64 0,.bool xh,.int .u64 0] 59 (0,0)):=(l.block _ (by simp[World.setCell];exact Yf z.out.1) ZcL).trans (by simp[World.setCell,Zep,z.out.1]);have s0:w2.cell? ⟨xz (xj w)+1,0,xw⟩=xk (.int .i64 a):=Zd7;have s1:w2.cell? ⟨xz (xj w)+1,1,xw⟩=xk (.int .i64 0):=Zd7;have s2:w2.cell? ⟨xz (xj w)+1,2,xw⟩=xk (.int .i64 0):=Zd7;have s3:w2.cell? ⟨xz (xj w)+1,3,xw⟩=xk (.bool xy):=Zd7;have s4:w2.cell? ⟨xz (xj w)+1,4,xw⟩=xk (.int .u64 (adr x).1):=Zd7;have Q:w2.cell? ⟨xz (xj w),0,xw⟩=xk (.int .i64 0):=Zd6;have R:w2.cell? ⟨xz (xj w),1,xw⟩=xk (.int .i64 0):=Zd6;have S:w2.cell? ⟨xz (xj w),2,xw⟩=xk (.int .i64 0):=Zd6;have T:w2.cell? ⟨xz (xj w),3,xw⟩=xk (.bool xh):=Zd6;have U:w2.cell? ⟨xz (xj w),4,xw⟩=xk (.int .u64 0):=Zd6;have u1:=Yz (o:=1) n;have u2:=Yz (o:=2) n;have v0:=Yz (o:=0) h;have v1:=Yz (o:=1) h;have v2:=Yz (o:=2) h;have v3:=Yz (o:=3) h;have v4:=Yz (o:=4) h;clear l u h n))
 case refine_1=>exact(C.out.setCell (p:=⟨xz (xj w)+1,3,xw⟩) Z1 _).setCell (p:=⟨xz (xj w)+1,4,xw⟩) Z1 _
 next=>
  have q:=(C.out.setCell (p:=⟨xz (xj w)+1,3,xw⟩) Z1 (.bool xy)).setCell (p:=⟨xz (xj w)+1,4,xw⟩) Z1 (.int .u64 (adr x).1);have L:w.grownBy w2 (xk bt):=⟨d.out.os.trans q.os,d.out.tape.trans q.tape,d.out.output.trans q.output,Zeh q.size d.out.size,λk F B=>(d.out.block k (ZdS F q.size) B).trans (q.block k F)⟩;have k1:bt≠xz (xj w)+1:=Z0;have y:bt≠xz (xj w):=Z0;clear q;refine Zey (v:=Ww ⟨a,s,p,xy,(adr x).1⟩) ?_ rfl ⟨rfl,?_,?_⟩
  .simp[results,Try.results133,go_sem,Ww,Q,R,S,T,U]
  grind [Z1d];rw[Ze5 _ _ _ _ y,Ze5 _ _ _ _ y,Ze5 _ _ _ _ y,Ze5 _ _ _ _ y,Ze5 _ _ _ _ y,Ze5 _ _ _ _ k1,Ze5 _ _ _ _ k1];exact A.out
end Vm
namespace Vm
open Go Go.Proofs Go.RowKit Go.Shelf
def Uj(W:World)(bl:Nat):Option Nat:=(W.cell? ⟨bl,0,xw⟩).bind Value.ownBlock
structure KpW (bl base:Nat) (A B:World):Prop where
 size:U (R A)<=U (R B)
 same:∀k o,A.heap[k]?=xk o->o.isCells=xy->k≠bl->(k<base\/Uj A bl≠xk k)->B.heap[k]?=xk o
 row:∀k,k<U (R A)->Uj B bl=xk k->Uj A bl=xk k
theorem KpW.trans{bl base:Nat}{A B C:World}(h:KpW bl base A B)(k:KpW bl base B C):KpW bl base A C:=
 ⟨Zeh h.size k.size,λi o a j l d=>k.same i o (h.same i o a j l d) j l (d.imp id λf e=>f (h.row i (Yf a) e)),λi a d=>h.row i a (k.row i (ZdS a h.size) d)⟩
theorem KpW.put{bl base:Nat}{W:World}{l:Nat}{o:Obj}(d:Obj)(n:W.heap[l]?=xk o)(p:o.isCells=xh)(h:bl≠l):KpW bl base W (W.putObj l d):=by
 have a:(W.putObj l d).cell? ⟨bl,0,xw⟩=W.cell? ⟨bl,0,xw⟩:=ZeC (Zen Z0);refine⟨(Zgd W l d).size,λk r j f _ _=> ?_,λk _ q=> ?_⟩;grind [World.putObj_heap_other,trans];simp_all[Uj]
def Le(ws:List Int)(g o cap:Nat)(gv:Value)(shs:List (Int×Int))(old:Bool)(bt:Option Nat)(K:Nat->World->Prop):Prop:=
 ∀(W:World) (a t:Nat) (x:Int),Words W ws g o cap->g<U (R W)->K t W->ws[a]?=xk x->
  Calls Sol.prog 133 #[.slice (xk ⟨g,o,xw⟩) (P ws) cap,.int .i64 a,gv] W λe W'=>W.grownBy W' bt/\match XY shs old a t x with
   |some (d,f)=>e=.returned (Ww d)/\K f W'
   |none=>e=.panicked (V5 3)
def LF(ws:List Int)(shs:List (Int×Int))(old:Bool)(K:Nat->World->Prop)(xs:List Ob)(W:World):Prop:=
 ∃t,K t W/\ZM ws shs old=(if t<(P shs) then([],3)else(xs,0))
def Z0B(ws:List Int)(shs:List (Int×Int))(old:Bool)(chain:List PanicEntry)(pre:List Ob)(W:World):Prop:=
 ∃e,(e=2\/e=3)/\chain=V5 e/\ZM ws shs old=([],e)
structure Stat6 (ws:List Int) (g o cap:Nat) (sv:Value) (bw bg base bl:Nat) (bt:Option Nat) (gv:Value) (W:World):Prop where
 words:Words W ws g o cap
 sv_:sv=.slice (xk ⟨g,o,xw⟩) (P ws) cap\/(ws=[]/\∃a c,sv=.slice a 0 c)
 hbw:W.heap[bw]?=xk (.cells #[sv] 35 (0,0))
 hbg:W.heap[bg]?=xk (.cells #[gv] 190 (0,0))
 gb:ws≠[]->∃ob,W.heap[g]?=xk ob/\ob.isCells=xy
 lt:g<base/\bw<base/\bg<base/\base<=U (R W)
 ne:g≠bl/\bw≠bl/\bg≠bl
 nt:xk g≠bt/\xk bw≠bt/\xk bg≠bt
section
variable {ws:List Int}{g o cap bw bg base bl:Nat}{bt:Option Nat}{sv gv:Value}{W W':World}
theorem Stat6.of(h:Stat6 ws g o cap sv bw bg base bl bt gv W)(n:U (R W)<=U (R W'))(d:∀k a,W.heap[k]?=xk a->a.isCells=xy->k<base->k≠bl->xk k≠bt->W'.heap[k]?=xk a):Stat6 ws g o cap sv bw bg base bl bt gv W':=by
 refine⟨⟨λi x p=> ?_,h.words.le,h.words.cap,h.words.len,h.words.u64⟩,h.sv_,d _ _ h.hbw rfl h.lt.2.1 h.ne.2.1 h.nt.2.1,d _ _ h.hbg rfl h.lt.2.2.1 h.ne.2.2 h.nt.2.2,λj=> ?_,⟨h.lt.1,h.lt.2.1,h.lt.2.2.1,Zeh h.lt.2.2.2 n⟩,h.ne,h.nt⟩;have j:ws≠[]:=λe=>ZcK;obtain⟨a,l,f⟩:=h.gb j;have q:=d _ _ l f h.lt.1 h.ne.1 h.nt.1;rw[<-h.words.at_ i x p];grind [World.cell?_of_block];obtain⟨a,l,f⟩:=h.gb j;exact⟨a,d _ _ l f h.lt.1 h.ne.1 h.nt.1,f⟩
def Stat6.grown(h:Stat6 ws g o cap sv bw bg base bl bt gv W)(a:W.grownBy W' bt):Stat6 ws g o cap sv bw bg base bl bt gv W':=
 h.of a.size λk j d _ _ _ f=>(a.block k (Yf d) f).trans d
def Stat6.kp(h:Stat6 ws g o cap sv bw bg base bl bt gv W)(j:KpW bl base W W'):Stat6 ws g o cap sv bw bg base bl bt gv W':=
 h.of j.size λk n a l d f _=>j.same k n a l f (.inl d)
end
def Uz{W W':World}(a:Below (U (R W)) W W')(r:Option Nat):W.grownBy W' r:=⟨a.os,a.tape,a.output,a.size,λk d _=>a.block k d⟩
def P4{ws:List Int}{g o cap:Nat}:Le ws g o cap .nilFunc [] xh xw (λt _=>t=0):=by
 intro W a t x h f k j;refine(P7 W ws g o cap h f a x j).mono ?_;rintro e W' ⟨rfl,d⟩;refine⟨Uz d xw,?_⟩;unfold XY Sl;grind
def Shps.grown{W W':World}{shs:List (Int×Int)}{d:Nat}{v:Value}{r:Option Nat}(h:Shps W shs d v)(j:W.grownBy W' r)(f:xk d≠r)(k:shs≠[]->∀g o cap,v=.slice (xk ⟨g,o,xw⟩) (P shs) cap->xk g≠r):Shps W' shs d v:=by
 refine⟨(j.block _ (Yf h.box) f).trans h.box,?_⟩;obtain⟨g,o,cap,rfl,n,p,l,q⟩|⟨a,cap,rfl,rfl⟩:=h.val;refine .inl ⟨g,o,cap,rfl,n,p,ZdS l j.size,λi x u=> ?_⟩;have t:=j.block g l (k (λe=>ZcK) _ _ _ rfl);grind [World.cell?_of_block,trans];simp
def KOld(shs:List (Int×Int))(bt a:Nat)(v:Value)(t:Nat)(W:World):Prop:=W.heap[bt]?=xk (.cells #[.int .i64 t] 3 (0,0))/\Shps W shs a v/\t<=P shs
def P5{ws:List Int}{g o cap:Nat}{shs:List (Int×Int)}{bt k:Nat}{v:Value}(B:P shs<=1000000)(n:k≠bt)(q:shs≠[]->∀g o cap,v=.slice (xk ⟨g,o,xw⟩) (P shs) cap->g≠bt):
  Le ws g o cap (.func (.func 129) #[] #[.pointer (xk ⟨bt,0,xw⟩),.pointer (xk ⟨k,0,xw⟩)]) shs xy (xk bt) (KOld shs bt k v):=by
 intro W a t x y w F z;obtain⟨A,D,K⟩:=F;have p:xk k≠xk bt:=λe=>n ZcJ;have r:shs≠[]->∀g o cap,v=.slice (xk ⟨g,o,xw⟩) (P shs) cap->xk g≠xk bt:=λJ g o cap e M=>q J g o cap e ZcJ;have h:∀W',Below (U (R W)) W W'->Shps W' shs k v:=λW' d=>D.grown (Uz d xw) Z1 (λ_ _ _ _ _=>Z1);have f:∀W',Below (U (R W)) W W'->W'.heap[bt]?=xk (.cells #[.int .i64 t] 3 (0,0)):=λW' d=>(d.block _ (Yf A)).trans A;by_cases l:(adr x).2=0;unfold XY;rw[if_pos ⟨rfl,l⟩];cases j:shs[t]? with
 |none=>
  have:t=P shs:=by have:=ZfV.1 j;omega
  subst this;refine(DJ W _ ws g o cap y w a x z l λW' d=>Z1a W' shs bt k v B (h W' d) (f W' d)).mono ?_;rintro e W' ⟨rfl,d⟩;exact⟨Uz d _,rfl⟩
 |some s=>
  simp only;cases u:YJ s.1 s.2;refine(DJ W _ ws g o cap y w a x z l λW' d=>Z19 W' shs bt k t v s B (h W' d) (f W' d) j u).mono ?_;rintro e W' ⟨rfl,d⟩;exact⟨Uz d _,Z1⟩;refine(P6 W _ ws g o cap y w a x z l bt _ s.1 s.2 (Yf A) λW' d=>Z1b W' shs bt k t v s B (h W' d) (f W' d) j u n (q (λe=>ZcK))).mono ?_;rintro e W' ⟨rfl,C,G⟩;have I:=(ZdH.1 j).1;refine⟨C,?_⟩;simp only[Zer];exact⟨trivial,G,D.grown C p r,Z0⟩
 refine(P8 W _ _ ws g o cap y w a x z l).mono ?_;rintro e W' ⟨rfl,d⟩;refine⟨Uz d _,?_⟩;unfold XY Sl;rw[if_neg (λH=>l H.2)];by_cases L:(ZP x).2.2=0;simp only[L,Zer];exact⟨trivial,f W' d,h W' d,K⟩;simp_all
end Vm
end
section
namespace Vm
open Go Go.Proofs Go.RowKit Go.Shelf
def D5(a:Nat)(W:World):Prop:=∀k,Uj W a=xk k->k<U (R W)
def TC{A B C:World}{r:Option Nat}(h:A.grownBy B r)(k:B.grownBy C r):A.grownBy C r:=
 ⟨k.os.trans h.os,k.tape.trans h.tape,k.output.trans h.output,Zeh h.size k.size,λi a d=>(k.block i (ZdS a h.size) d).trans (h.block i a d)⟩
def Z7X(ws:List Int)(shs:List (Int×Int))(old:Bool){a t g:Nat}{x:Int}{d:Ob}(hx:ws[a]?=xk x)(h:XY shs old a t x=xk (d,g)){f:Nat}{pre:List Ob}:
  Xl ws shs old (f+1) a t pre=if(P ws:Int)<a+1+d.size then([],2)else if XJ ((ws.drop (a+1)).take d.size.toNat) d.gone d.ptrs 0=xh then([],3)else Xl ws shs old f (a+1+d.size.toNat) g (pre++[d]):=by
 simp_all[Xl]
def Z0x(n:Nat){w:World}{ws:List Int}{g o cap bw bg base z:Nat}{bt:Option Nat}{sv gv:Value}{shs:List (Int×Int)}{old:Bool}{K:Nat->World->Prop}(c9:Stat6 ws g o cap sv bw bg base z bt gv w)
  (e5:z<base) (b0:xk z≠bt) (a7:Le ws g o cap gv shs old bt K) (c6:K 0 w) (a4:∀t W W',K t W->Below (xz (xj W)) W W'->K t W') (c7:∀t W W',K t W->KpW z base W W'->K t W'):
  D6 Fence.wide n Sol.prog 132 #[.pointer (xk ⟨bw,0,xw⟩),.pointer (xk ⟨bg,0,xw⟩)] (λd:Ob=> #[Ww d]) (KpW z base) (LF ws shs old K) (Z0B ws shs old) (xq ws) bt (D5 z) w:=by
 intro l J W hW c5 hJ hY h0;refine callsIn_of_wp Sol.func132 rfl trivial ?_ rfl;simp only[Try.ntmps132,ZeW,Zf2,Zfg,Nat.reduceAdd,Nat.reduceSub,Zfy,Zfz,ZfZ,ZfG,ZeA,ZeT];have b9:=ZdP (c9.grown (Uz hW bt));have b7:=ZdP (a4 0 w W c6 hW);have b5:=ZdP h0;clear h0;gi_wp2
 gi_loopw [4] (λp wr=>∃(a t f:Nat) (pre:List Ob),p=.int .i64 a/\Hid (J pre wr/\K t wr/\Stat6 ws g o cap sv bw bg base z bt gv wr/\xq ws<f+a/\0<f/\a<=xq ws/\xq pre<=a/\ZM ws shs old=Xl ws shs old f a t pre))
  (λp _=>xq ws- (intOf p).toNat)
 case atStart=>exact⟨0,0,xq ws+1,[],rfl,ZdP ⟨b5.out,b7.out,b9.out,Z0,Z0,Z0,Z1,rfl⟩⟩
 case round=>
  obtain⟨a,t,f,pre,rfl,j⟩:=hrel;have k:=j.out.2.2.1;have Z:=k.sv_;have c1:wr.cell? ⟨bw,0,xw⟩=xk sv:=by rw[ZdT _ _ _ _ _ _ k.hbw];rfl
  have c2:wr.cell? ⟨bg,0,xw⟩=xk gv:=by rw[ZdT _ _ _ _ _ _ k.hbg];rfl
  have d6:=k.words.len;clear k;by_cases a9:a<xq ws
  .obtain⟨x,hx⟩:∃x,ws[a]?=xk x:=⟨_,ZdG a9⟩;obtain rfl:sv=.slice (xk ⟨g,o,xw⟩) (xq ws) cap:=Z.resolve_right (λh=>ZcK);clear Z;have d7:((a:Int)<xq ws)=True:=ZgE Z0;have hb:=a7 wr a t x j.out.2.2.1.words (by have:=j.out.2.2.1.lt;omega) j.out.2.1 hx;cases ho:XY shs old a t x with
   |none=>
    rw[ho]at hb;have HX:=ZdP hb;clear hb;gi_wp2
    refine⟨trivial,λh=>ZcZ,(ZfQ.2 HX.out).mono ?_⟩;rintro e w1 ⟨y,rfl⟩;have H:=ZdP y;clear y;gi_wp2
    refine⟨rfl,.inr ⟨_,pre,rfl,⟨3,.inr rfl,rfl,?_⟩,hJ _ _ _ _ j.out.1 H.out (λr e=>e.symm)⟩⟩;obtain⟨_,_,_,hf,M,_,_,I⟩:=j.out;cases f with
    |zero=>omega
    |succ f=>
     simp_all[Xl]
   |some q=>
    obtain⟨d,t'⟩:=q;rw[ho]at hb;have HX:=ZdP hb;clear hb;obtain⟨Y,B⟩:=zT ho;gi_wp2
    refine⟨trivial,λh=>ZcZ,(ZfQ.2 HX.out).mono ?_⟩;rintro e w1 ⟨y,rfl,a8⟩;have H:=ZdP y;have b8:=ZdP a8;have L:=j.out.2.2.1.grown y;have e3:=ZdP L;have e1:∀O,(w1.alloc O).cell? ⟨bw,0,xw⟩=xk (.slice (xk ⟨g,o,xw⟩) (xq ws) cap):=λO=>by
     rw[Zfb _ _ _ (Yf L.hbw),ZdT _ _ _ _ _ _ L.hbw];rfl
    have X:wr.grownBy (w1.alloc (.cells #[.int .i64 a,.int .i64 d.size,.int .i64 d.ptrs,.bool d.gone,.int .u64 d.target] 59)) bt:=TC y (Zf4 _ _ _);have a6:=ZdP (j.out.2.2.1.grown X);have hh:=Z1k (w1.alloc (.cells #[.int .i64 a,.int .i64 d.size,.int .i64 d.ptrs,.bool d.gone,.int .u64 d.target] 59)) ws g o cap a6.out.words (by have:=a6.out.lt;omega) d a B a9 Y;unfold Ww at hh;rw[B]at hh;have b3:=ZdP X;have Q:=ZdP hh;have G:∀f pre,Xl ws shs old (f+1) a t pre=_:=λf pre=>Z7X ws shs old hx ho (f:=f) (pre:=pre);have R:=ZdP G;clear y a8 L X hh G hx;unfold Ww;gi_wp2
    refine⟨trivial,λh=>ZcZ,(ZfQ.2 Q.out).mono ?_⟩;rintro e w2 ⟨rfl,C⟩;have A:wr.grownBy w2 bt:=TC b3.out (Uz C bt);have P:=ZdP A;have b1:=ZdP C;unfold z9;by_cases S:(xq ws:Int)<d.at_+1+d.size
    .rw[if_pos S];rw[B]at S;clear C A;gi_wp2
     refine⟨rfl,.inr ⟨_,pre,rfl,⟨2,.inl rfl,rfl,?_⟩,hJ _ _ _ _ j.out.1 P.out (λr e=>e.symm)⟩⟩;obtain⟨_,_,_,hf,M,_,_,I⟩:=j.out;obtain⟨f,rfl⟩:∃f',f=f'+1:=⟨f-1,Z0⟩;rw[I,R.out,if_pos S]
    .rw[if_neg S];by_cases T:XJ ((ws.drop (d.at_.toNat+1)).take d.size.toNat) d.gone d.ptrs 0=xh
     .rw[if_pos T];rw[B]at S T;clear C A;gi_wp2
      refine⟨rfl,.inr ⟨_,pre,rfl,⟨3,.inr rfl,rfl,?_⟩,hJ _ _ _ _ j.out.1 P.out (λr e=>e.symm)⟩⟩;obtain⟨_,_,_,hf,M,_,_,I⟩:=j.out;obtain⟨f,rfl⟩:∃f',f=f'+1:=⟨f-1,Z0⟩;rw[I,R.out,if_neg Z0];simp_all
     .rw[if_neg T];rw[B]at S T;simp only[ZdW]at T;have b4:=ZdP (And.intro S T);have U:=hJ _ _ _ _ j.out.1 A (λr e=>e.symm);have e0:=ZdP U;have c0:=ZdP (j.out.2.2.1.grown A);have u:w2.heap[xz (xj w1)]?=xk (.cells #[.int .i64 a,.int .i64 d.size,.int .i64 d.ptrs,.bool d.gone,.int .u64 d.target] 59 (0,0)):=(C.block _ Z1).trans (Ze7 w1 _);have b2:=ZdP u;obtain⟨fn,d9,assign,d5,hy,I⟩:=hY pre d w2 U (by have:=j.out.2.2.2.2.2.2.1;omega);unfold Ww at hy;rw[B]at hy;have d0:w2.cell? ⟨xz (xj w1),0,xw⟩=xk (.int .i64 a):=Zd8;have d1:w2.cell? ⟨xz (xj w1),1,xw⟩=xk (.int .i64 d.size):=Zd8;have d2:w2.cell? ⟨xz (xj w1),2,xw⟩=xk (.int .i64 d.ptrs):=Zd8;have d3:w2.cell? ⟨xz (xj w1),3,xw⟩=xk (.bool d.gone):=Zd8;have d4:w2.cell? ⟨xz (xj w1),4,xw⟩=xk (.int .u64 d.target):=Zd8;clear C A U u;gi_wp2
      refine⟨λh=>ZcZ,I.mono ?_⟩;rintro e W3 ⟨rfl,a1,D⟩;have b6:=ZdP a1;have e2:=ZdP D;have F:Uj w2 z≠xk (xz (xj w1)):=by
       intro e;have c8:z<xz (xj wr):=by have:=j.out.2.2.1.lt.2.2.2;omega
       have:Uj w2 z=Uj wr z:=by
        unfold Uj;rw[ZeC (a:=⟨z,0,xw⟩) (P.out.block z c8 b0)]
       rw[this]at e;have:=c5 _ _ j.out.1 _ e;have:=H.out.size;omega
      have N:=D.same _ _ b2.out rfl (by have:=j.out.2.2.1.lt.2.2.2;have:=H.out.size;omega) (.inr F);have f1:W3.cell? ⟨xz (xj w1),1,xw⟩=xk (.int .i64 d.size):=by rw[ZdT _ _ _ _ _ _ N];rfl
      have a5:=c0.out.kp D;have a2:K t' w2:=a4 _ _ _ b8.out (((Zef _ _).alloc (ZdL _) _).trans (b1.out.mono Z1));have a3:=c7 _ _ _ a2 D;have a0:=ZdP (And.intro a5 a3);obtain⟨m,hm⟩:∃m:Nat,d.size=m:=⟨d.size.toNat,by have:=(Yv.1 Y).1;omega⟩;rw[hm]at f1;have e7:(m:Int)<=255:=by have:=(Yv.1 Y);omega
      have q1:IntKind.i64.wrap (1+(m:Int))=((1+m:Nat):Int):=ZcX;have q2:IntKind.i64.wrap ((a:Int)+((1+m:Nat):Int))=((a+(1+m):Nat):Int):=ZcX;clear a1 D N a5 a2 a3 F;clear T;gi_wp2
      obtain⟨_,_,_,hf,M,e4,e8,I⟩:=j.out;obtain⟨f,rfl⟩:∃f',f=f'+1:=⟨f-1,Z0⟩;rw[R.out,if_neg Z0,if_neg b4.out.2]at I;have e6:a+1+m<=xq ws:=Z0;refine⟨⟨a+(1+m),t',f,pre++[d],Z1,ZdP ⟨b6.out,a0.out.2,a0.out.1,Z0,Z0,Z0,ZcL,?_⟩⟩,by grind [intOf]⟩;grind
  .have d8:((a:Int)<xq ws)=False:=Zgl Z0
   have HE:Hid (LF ws shs old K pre wr):=ZdP (by
    obtain⟨_,hK,_,hf,M,_,_,I⟩:=j.out;refine⟨t,hK,?_⟩;cases f with
    |zero=>omega
    |succ f=>
     simp_all[Xl,ZeJ])
   obtain⟨sa,sc,rfl⟩:∃sa sc,sv=.slice sa (xq ws) sc:=by
    grind
   clear Z;gi_wp2
   go_end0
   exact .inl ⟨_,pre,rfl,HE.out,j.out.1⟩
end Vm
namespace Vm
open Go Go.Proofs Go.RowKit Go.Shelf
def Z0y(w:World)(g d:Value)(k:∃a n c,g=.slice a n c)(h:d=.nilFunc\/∃f vs,d=.func (.func f) #[] vs):
  Calls Sol.prog 131 #[g,d] w λe l=>e=.returned (.func (.func 132) #[] #[.pointer (xk ⟨U (R w),0,xw⟩),.pointer (xk ⟨U (R w)+1,0,xw⟩)])/\
   l=(w.alloc (.cells #[g] 35)).alloc (.cells #[d] 190):=by
 have j:∀(fn:Go.Fn) (first cap:Array Value) (w:World),(Instr.makeFunc fn first cap).run Sol.prog w=.ok (.func fn first cap) w:=λ_ _ _ _=>rfl;obtain⟨a,n,c,rfl⟩:=k;obtain rfl|⟨f,vs,rfl⟩:=h
 .go_enter Sol.func131,Try.ntmps131;go_wp2;exact Zey (results_tmp rfl _ _ _) rfl ⟨rfl,rfl⟩
 .go_enter Sol.func131,Try.ntmps131;go_wp2;exact Zey (results_tmp rfl _ _ _) rfl ⟨rfl,rfl⟩
def Z3A(w:World):Sem.run Sol.prog (binOp .neq 20 .nilIface .nilIface) w=.ok (.bool xh) w:=Zdz
def Z3B(w:World)(T:TypeId)(v:Value):Sem.run Sol.prog (binOp .neq 20 (.iface T v) .nilIface) w=.ok (.bool xy) w:=Zdz
def Z7z(w:World)(x:Int):Sem.run Sol.prog (Instr.typeAssert (.iface 189 (.agg #[.int .i64 x])) 20 189 xy) w=.ok (.tuple #[.agg #[.int .i64 x],.bool xy]) w:=Zdz
def Z0e(n:Nat)(p q:Addr)(w:World):
  CallsDIn Fence.wide n Sol.prog 130 #[.pointer (xk p),.pointer (xk q)] .returning w λe f g=>e=.returned (.tuple #[])/\f=.returning/\g=w:=by
 have j:=Z3A;refine callsDIn_of_wpSIn Sol.func130 rfl trivial λa h d=> ?_;simp only[Try.ntmps130,ZeW,Zf2,Zfg,Nat.reduceAdd,Nat.reduceSub,Zfy,Zfz,ZfZ,ZfG,ZeA,ZeT];apply wpSIn_seq;apply wpSIn_region;simp[wpOpsSIn,go_sem,recoverD,d,Exit.thenS];refine wpSIn_of_wpIn rfl ?_;gi_wp2
 cases a;simp_all [bodyPostS,results,Try.results130]
def Z0f(n:Nat)(a d:Nat)(x:Int)(w:World)(z l:Value)(f:Boxed w a 55 z)(g:Boxed w d 32 l)(h:a≠d):
  CallsDIn Fence.wide n Sol.prog 130 #[.pointer (xk ⟨a,0,xw⟩),.pointer (xk ⟨d,0,xw⟩)] (.panicking (V5 x)) w λe y j=>
   e=.returned (.tuple #[])/\y=.panicking [{v:=.iface 189 (.agg #[.int .i64 x]),recovered:=xy}]/\
   Boxed j a 55 (.slice xw 0 0)/\Boxed j d 32 (.int .i64 x)/\(xz (xj w)<=xz (xj j)/\∀k,k<xz (xj w)->k≠a->k≠d->j.heap[k]?=w.heap[k]?)/\j.os=w.os/\j.tape=w.tape/\j.output=w.output:=by
 have C:=Z3B;have D:=Z7z;have N:=(f.alloc (.cells #[.int .i64 x] 189)).cell;have p2:=(f.alloc (.cells #[.int .i64 x] 189)).frozen;have O:=(g.alloc (.cells #[.int .i64 x] 189)).cell;have P:=(g.alloc (.cells #[.int .i64 x] 189)).frozen;have p3:=f.cell;have p4:=f.frozen;have Q:=g.cell;have R:=g.frozen;have H:=f.lt;have I:=g.lt;have t:¬a=d:=h;have u:¬d=a:=λe=>h e.symm;have J:¬a=xz (xj w):=Z0;have K:¬xz (xj w)=a:=Z0;have L:¬d=xz (xj w):=Z0;have M:¬xz (xj w)=d:=Z0;have o:=ZdP (And.intro f g);clear f g h;refine callsDIn_of_wpSIn Sol.func130 rfl trivial λB A r=> ?_;simp only[Try.ntmps130,ZeW,Zf2,Zfg,Nat.reduceAdd,Nat.reduceSub,Zfy,Zfz,ZfZ,ZfG,ZeA,ZeT];apply wpSIn_seq;apply wpSIn_region;simp[wpOpsSIn,go_sem,recoverD,r,V5,Exit.thenS];refine wpSIn_of_wpIn rfl ?_;gi_wp2
 gi_region
 all_goals gi_wp2
 obtain⟨f,g⟩:=o.out;have p:Boxed ((w.setCell ⟨a,0,xw⟩ (.slice xw 0 0)).setCell ⟨d,0,xw⟩ (.int .i64 x)) a 55 (.slice xw 0 0):=(Ze5 _ ⟨d,0,xw⟩ _ a t).trans (f.set _);have q:Boxed ((w.setCell ⟨a,0,xw⟩ (.slice xw 0 0)).setCell ⟨d,0,xw⟩ (.int .i64 x)) d 32 (.int .i64 x):=Boxed.set _ (show Boxed (w.setCell ⟨a,0,xw⟩ (.slice xw 0 0)) d 32 l from(Ze5 _ ⟨a,0,xw⟩ _ d u).trans g);refine⟨rfl,_,rfl,_,by simp[results,Try.results130],rfl,rfl,p.alloc _,q.alloc _,⟨?_,λk F k1 G=> ?_⟩,rfl,rfl,rfl⟩;simp;show(World.alloc _ _).heap[k]?=_;grind [Below.heap_alloc,World.setCell,Below.heap_setCell]
end Vm
namespace Vm
open Go Go.Proofs Go.RowKit Go.Shelf
def Th(a:Ob):List Value:=[.int .i64 a.at_,.int .i64 a.size,.int .i64 a.ptrs,.bool a.gone,.int .u64 a.target]
def Wx(l:List Ob):List Value:=l.flatMap Th
def Z3U(l:List Ob)(x:Ob):Wx (l++[x])=Wx l++Th x:=by simp[Wx]
structure WIv (w:World) (bt:Option Nat) (pre:List Ob) (W:World):Prop where
 row:∃v,Boxed W (U (R w)) 55 v/\W.ownsRow (U (R w)+4) 59 5 v (P pre) (Wx pre)
 e:Boxed W (U (R w)+1) 32 (.int .i64 0)
 gr:w.grownBy W bt
 size:U (R w)+4<=U (R W)
def UA{w X Y:World}{bt row:Option Nat}(h:w.grownBy X bt)(k:X.grownBy Y row)(f:∀r,row=xk r->xk r=bt\/U (R w)<=r):w.grownBy Y bt:=
 ⟨k.os.trans h.os,k.tape.trans h.tape,k.output.trans h.output,Zeh h.size k.size,λi a d=>
  (k.block i (ZdS a h.size) (λe=>ZcJ)).trans (h.block i a d)⟩
theorem yN{W:World}{b:Nat}{t:TypeId}{v:Value}(h:Boxed W b t v):Uj W b=v.ownBlock:=by
 unfold Uj;rw[h.cell];rfl
def WIv.rowIn{w:World}{bt:Option Nat}{pre:List Ob}{W:World}(h:WIv w bt pre W):D5 (U (R w)) W:=by
 obtain⟨v,f,d⟩:=h.row;intro k a;rw[yN f]at a;exact(d.lt k a).2
def WIv.own{w:World}{bt:Option Nat}(y:∀r,bt=xk r->r<U (R w)):OwnP bt (U (R w)+4) (WIv w bt):=by
 intro s X Y row h d l;have f:∀k,U (R w)<=k->k<U (R w)+4->xk k≠row:=by
  intro k u x e;obtain n|⟨n,_⟩:=l k e.symm;grind;omega
 obtain⟨v,A,a⟩:=h.row;refine⟨⟨v,A.kept d (f _ (ZdL _) Z0),a.kept d ?_⟩,h.e.kept d (f _ Z0 Z0),UA h.gr d λr e=>(l r e).imp id λx=>Z0,Zeh h.size d.size⟩;cases p:v.ownBlock with
 |none=>simp
 |some b=>
  refine .inr λe=> ?_;have u:=a.lt b p;obtain n|⟨_,o,q,z⟩:=l b e.symm;grind;obtain⟨rfl,_⟩|⟨g,cap,t,rfl,_,j,_⟩:=a.2;simp[Value.ownBlock]at p;obtain rfl:g=b:=by grind [Value.ownBlock]
  rw[j]at q;cases q;cases z
def WIv.appended{w W w1:World}{bt:Option Nat}{pre:List Ob}{x:Ob}{v v':Value}{tmp:Obj}(C:∀r,bt=xk r->r<U (R w))(h:WIv w bt pre W)(A:Boxed W (U (R w)) 55 v)
  (g:W.ownsRow (U (R w)+4) 59 5 v (P pre) (Wx pre)) (d:w1.ownsRow (U (R w)+4) 59 5 v' (P pre+1) (Wx pre++Th x))
  (a:(W.alloc tmp).grownBy w1 v.ownBlock) (f:v'.ownBlock=v.ownBlock\/v'.ownBlock=xk (U (R (W.alloc tmp)))):
  Boxed w1 (U (R w)) 55 v/\KeepsFrom (U (R w)+4) W (w1.setCell ⟨U (R w),0,xw⟩ v')/\KpW (U (R w)) (U (R w)+4) W (w1.setCell ⟨U (R w),0,xw⟩ v')/\WIv w bt (pre++[x]) (w1.setCell ⟨U (R w),0,xw⟩ v'):=by
 have u:=h.size;obtain⟨y,l,F,j,B⟩:=A.appended (by decide) (ye g (B':=U (R w)) Z0) Z0 (ZdL _) (ye d (B':=U (R w)) Z0) a;have z:∀b,v.ownBlock=xk b->U (R w)+4<=b:=λb p=>(g.lt b p).1
 have t:(w1.setCell ⟨U (R w),0,xw⟩ v').ownsRow (U (R w)+4) 59 5 v' (P pre+1) (Wx pre++Th x):=d.kept (Zg4 w1 (U (R w)) v') (by
  cases p:v'.ownBlock with
  |none=>simp
  |some b=>exact .inr λe=>by have G:=(d.lt b p).1;grind)
 refine⟨y,j.from _,⟨j.size,λk o n H D I=> ?_,λk n e=> ?_⟩,⟨v',l,?_⟩,?_,?_,Zeh u j.size⟩;rw[Ze5 _ _ _ _ D,a.block k (by have:=Yf n;simp;omega) (λe=> ?_),ZdN _ _ _ (Yf n),n];grind [yN,trans];rw[yN l]at e;rw[yN A];obtain f|f:=f;simp_all;rw[f]at e;simp at e;omega;simp_all[Zes,Z3U];have q:Boxed w1 (U (R w)+1) 32 (.int .i64 0):=(h.e.alloc tmp).kept a (λe=>ZcJ);exact(Ze5 _ _ _ _ Z1).trans q;refine UA (UA (UA h.gr (Zf4 W tmp xw) Z1) a λr e=>.inr ?_) (Zg4 w1 (U (R w)) v') λr e=>.inr ?_;grind;simp_all
def KpW.alloc{a base:Nat}{W:World}(o:Obj)(f:a<U (R W)):KpW a base W (W.alloc o):=by
 refine⟨Z1,λk h d _ _ _=>(ZdN _ _ _ (Yf d)).trans d,λk _ g=> ?_⟩;simp_all[Uj,Zfb]
end Vm
namespace Vm
open Go Go.Proofs Go.RowKit Go.Shelf
attribute [local go_sem] Oper.semAt_some
def Z2w:(Sol.prog.info? 59).map (λi=>(i.zero,i.size,i.bytes))=xk (xk (.agg #[.int .i64 0,.int .i64 0,.int .i64 0,.bool xh,.int .u64 0]),5,40):=Z2
def unO:Sol.prog.underlying 55=xk (.slice 59):=Z2
def Z0j(w:World)(a b c d e:Value)(t:TypeId):∀j u,[a,b,c,d,e][j]?=xk u->(w.alloc (.cells #[a,b,c,d,e] t)).cell? ((⟨U (R w),0,xw⟩:Addr).add j)=xk u:=by
 intro j u h;have:=ZdT _ _ j _ _ _ (Ze7 w (.cells #[a,b,c,d,e] t));grind [add,Addr.add]
def Db(w:World)(ws:List Int)(shs:List (Int×Int))(old:Bool)(bt:Option Nat)(K:Nat->World->Prop)(e:Ending)(W:World):Prop:=
 ∃v n a,e=.returned (.tuple #[v,.int .i64 n])/\w.grownBy W bt/\W.ownsRow (U (R w)+4) 59 5 v (P a) (Wx a)/\((n=0/\LF ws shs old K a W)\/((n=2\/n=3)/\a=[]/\ZM ws shs old=([],n)))
def NA{w:World}{ws:List Int}{g o cap:Nat}{bt:Option Nat}{p j:Value}{shs:List (Int×Int)}{old:Bool}{K:Nat->World->Prop}(hw:Words w ws g o cap)
  (a9:p=.slice (xk ⟨g,o,xw⟩) (xq ws) cap\/(ws=[]/\∃a c,p=.slice a 0 c)) (hg:(ws≠[]->g<xz (xj w))/\g<xz (xj w)+4/\g≠xz (xj w)) (c5:j=.nilFunc\/∃f vs,j=.func (.func f) #[] vs)
  (T:∀r,bt=xk r->r<xz (xj w)) (c0:xk g≠bt) (a4:Le ws g o cap j shs old bt K) (b4:K 0 w)
  (z:∀t A B row,K t A->A.grownBy B row->(∀r,row=xk r->xz (xj w)<=r)->K t B)
  (b6:∀bl base t A B,xz (xj w)<=bl->xz (xj w)<=base->K t A->KpW bl base A B->K t B):
  Calls Sol.prog 128 #[p,j] w (Db w ws shs old bt K):=by
 refine(ZfQ (n:=5)).1 ?_;have f3:∀(fn:Go.Fn) (first cap:Array Value) (w:World),(Instr.makeFunc fn first cap).run Sol.prog w=.ok (.func fn first cap) w:=λ_ _ _ _=>rfl;have c9:∃a n c,p=.slice a n c:=by
  obtain rfl|⟨_,a,c,rfl⟩:=a9;simp;simp
 refine callsIn_of_wp_marks Sol.func128 rfl trivial ?_ rfl;simp only[Try.ntmps128,ZeW,Zf2,Zfg,Nat.reduceAdd,Nat.reduceSub,Zfy,Zfz,ZfZ,ZfG,ZeA,ZeT];have he:=λW=>Z0y W p j c9 c5;gi_wp2
 refine⟨trivial,(ZfQ.2 (he _)).mono ?_⟩;rintro e w1 ⟨rfl,rfl⟩;gi_wp2
 have a0:∀b:Nat,b<xz (xj w)->((((w.alloc (Obj.cells #[.slice xw 0 0] 55)).alloc (.cells #[.int .i64 0] 32)).alloc (.cells #[p] 35)).alloc (.cells #[j] 190)).heap[b]?=w.heap[b]? :=λb hb=>by
  grind [Below.heap_alloc]
 have b0:Boxed ((((w.alloc (Obj.cells #[.slice xw 0 0] 55)).alloc (.cells #[.int .i64 0] 32)).alloc (.cells #[p] 35)).alloc (.cells #[j] 190)) (xz (xj w)) 55 (.slice xw 0 0):=(((Boxed.new w _ _).alloc _).alloc _).alloc _;have b1:Boxed ((((w.alloc (Obj.cells #[.slice xw 0 0] 55)).alloc (.cells #[.int .i64 0] 32)).alloc (.cells #[p] 35)).alloc (.cells #[j] 190)) (xz (xj w)+1) 32 (.int .i64 0):=by
  have:=((Boxed.new (w.alloc (Obj.cells #[.slice xw 0 0] 55)) 32 (.int .i64 0)).alloc (.cells #[p] 35)).alloc (.cells #[j] 190);rwa[Zg3]at this
 have b2:Boxed ((((w.alloc (Obj.cells #[.slice xw 0 0] 55)).alloc (.cells #[.int .i64 0] 32)).alloc (.cells #[p] 35)).alloc (.cells #[j] 190)) (xz (xj w)+2) 35 p:=by
  have:=(Boxed.new ((w.alloc (Obj.cells #[.slice xw 0 0] 55)).alloc (.cells #[.int .i64 0] 32)) 35 p).alloc (.cells #[j] 190);simp_all
 have b3:Boxed ((((w.alloc (Obj.cells #[.slice xw 0 0] 55)).alloc (.cells #[.int .i64 0] 32)).alloc (.cells #[p] 35)).alloc (.cells #[j] 190)) (xz (xj w)+3) 190 j:=by
  have:=Boxed.new (((w.alloc (Obj.cells #[.slice xw 0 0] 55)).alloc (.cells #[.int .i64 0] 32)).alloc (.cells #[p] 35)) 190 j;simp_all
 have I:w.grownBy ((((w.alloc (Obj.cells #[.slice xw 0 0] 55)).alloc (.cells #[.int .i64 0] 32)).alloc (.cells #[p] 35)).alloc (.cells #[j] 190)) bt:=⟨rfl,rfl,rfl,ZcL,λk Z _=>a0 k Z⟩;have N:xz (xj ((((w.alloc (Obj.cells #[.slice xw 0 0] 55)).alloc (.cells #[.int .i64 0] 32)).alloc (.cells #[p] 35)).alloc (.cells #[j] 190)))=xz (xj w)+4:=Z1;generalize e9:(((w.alloc (Obj.cells #[.slice xw 0 0] 55)).alloc (.cells #[.int .i64 0] 32)).alloc (.cells #[p] 35)).alloc (.cells #[j] 190)=W0 at*;have d5:Stat6 ws g o cap p (xz (xj w)+2) (xz (xj w)+3) (xz (xj w)+4) (xz (xj w)) bt j W0:=by
  refine⟨⟨λi x F=> ?_,hw.le,hw.cap,hw.len,hw.u64⟩,a9,b2,b3,λhn=> ?_,⟨Z0,Z0,Z0,Z0⟩,⟨Z0,Z0,Z0⟩,c0,?_,?_⟩;rw[<-hw.at_ i x F];grind [World.cell?_of_block];obtain⟨x,F⟩:∃x,ws[0]?=xk x:=by cases ws with|nil=>simp_all|cons x l=>simp
  have:=hw.at_ 0 x F;rw[a0 g (hg.1 hn)];unfold World.cell? at this;cases hh:w.heap[g]? with
  |none=>simp_all
  |some ob=>
   refine⟨ob,rfl,?_⟩;grind [Obj.isCells]
  grind;grind
 have a3:K 0 W0:=z 0 w W0 xw b4 ⟨I.os,I.tape,I.output,I.size,λk Z _=>a0 k Z⟩ Z1;have a8:=Z0x 4 d5 Z0 (λe=>ZcJ) a4 a3 (λt A B hA M=>z t A B xw hA ⟨M.os,M.tape,M.output,M.size,λk Z _=>M.block k Z⟩ Z1) (λt A B hA M=>b6 _ _ t A B (ZdL _) Z0 hA M)
 refine Z8a rfl Z0 (gf:=132) (lb:=#[.pointer (xk ⟨xz (xj w)+2,0,xw⟩),.pointer (xk ⟨xz (xj w)+3,0,xw⟩)]) rfl trivial (enters_of Sol.func132 Z2 rfl)
  a8 (λr e=>ZcJ) KpW.trans (λW l o o' h1 h2 h3 _=>KpW.put o' h2 h3 Z0) (Zef _ _) (λ_=>rfl)
  (WIv w bt) (N▸WIv.own T) (λpre W h=>h.rowIn) ⟨⟨_,b0,Zf7 _ _ _ _⟩,b1,I,Z0⟩ ?hS
  (λx a' W=>∃y,xz (xj w)+4<=y/\W.heap[y]?=xk (.cells #[.int .i64 x.at_,.int .i64 x.size,.int .i64 x.ptrs,.bool x.gone,.int .u64 x.target] 59 (0,0))/\
   a'= {tmps:=#[p,j,undef,undef,.pointer (xk ⟨xz (xj w),0,xw⟩),.pointer (xk ⟨xz (xj w)+1,0,xw⟩),.pointer (xk ⟨y,0,xw⟩),
    .func (.func 130) #[] #[.pointer (xk ⟨xz (xj w),0,xw⟩),.pointer (xk ⟨xz (xj w)+1,0,xw⟩)],p,j,.func (.func 132) #[] #[.pointer (xk ⟨xz (xj w)+2,0,xw⟩),.pointer (xk ⟨xz (xj w)+3,0,xw⟩)],Ww x,undef,undef,undef,undef,undef],defers:=[]})
  ?hAx ?assign ?body ?done ?panic
 case hS=>
  rintro u X Y row ⟨t,hK,hR⟩ J d;exact⟨t,z t X Y row hK J λr e=>(d r e).elim (λe2=>by cases e2) (λe2=>Z0),hR⟩
 case hAx=>
  rintro x a' s X Y row ⟨y,M,F,ha⟩ J d;refine⟨y,M,(J.block y (Yf F) λe=> ?_).trans F,ha⟩;obtain e2|⟨_,o2,h2,h3⟩:=d y e.symm;cases e2;rw[F]at h2;cases h2;cases h3
 case assign=>
  rintro l pre x W K2 q b5;simp only[List.zip_cons_cons,Array.zip,Ww];gi_wp2
  exact b5 _ _ ((KeepsOthers.alloc W _).from _) (KpW.alloc _ (by have:=q.size;omega)) ((WIv.own T).alloc _ q) ⟨xz (xj W),q.size,Ze7 W _,rfl⟩
 case body=>
  rintro l pre x a' W q ⟨y,e8,F,rfl⟩ a6;obtain⟨v,O,d⟩:=q.row;obtain⟨i0,c6,d6,d7,d8⟩:=info_parts Z2w;obtain⟨G,H,rfl⟩:=Yw d;have c1:=O.cell;have c2:=O.frozen;have d0:W.cell? ⟨y,0,xw⟩=xk (.int .i64 x.at_):=Zd5;have d1:W.cell? ⟨y,1,xw⟩=xk (.int .i64 x.size):=Zd5;have d2:W.cell? ⟨y,2,xw⟩=xk (.int .i64 x.ptrs):=Zd5;have d3:W.cell? ⟨y,3,xw⟩=xk (.bool x.gone):=Zd5;have d4:W.cell? ⟨y,4,xw⟩=xk (.int .u64 x.target):=Zd5;have f4:xq pre<=1000000:=Zeh (Nat.le_of_lt a6) hw.len;have e7:=q.size;have HA:=λtmp w1 v'=>WIv.appended (W:=W) (w1:=w1) (x:=x) (v':=v') (tmp:=tmp) T q O d;gi_wp2_with (gi_at_builtin;refine wpListIn_append_own_at _ rfl _ _ 55 rfl (xz (xj w)+4) 59 i0 _ 5 40 unO c6 d6 d7 d8 rfl (by decide) _ _ _ rfl (d.alloc _) ⟨xz (xj W),0,xw⟩ 1 1 (Th x) rfl rfl (Z0j _ _ _ _ _ _ _) (by simp[Th,Value.oneCell']) Zdw Z0 ZcL ?_;intro v' w1 L U _ b8;obtain⟨g',e0,rfl⟩:=ownsRow_succ L;obtain⟨e1,e2,e3,e4⟩:=HA _ _ _ L U b8;have e5:=e1.cell;have e6:=e1.frozen)
  rw[N];exact⟨e2,e3,e4⟩
 case done=>
  rintro D u W hD hS q S;obtain⟨v,O,d⟩:=q.row;obtain⟨G,H,rfl⟩:=Yw d;have c1:=O.cell;have c2:=O.frozen;have c3:=q.e.cell;have c4:=q.e.frozen;rw[N]at hD;gi_wp2
  have a2:((W.setCell ⟨xz (xj w),0,xw⟩ (.slice G (xq u) H)).setCell ⟨xz (xj w)+1,0,xw⟩ (.int .i64 0)).heap[D]?=xk (.deferred (xk [])):=by
   rw[Ze5 _ _ _ _ ZcJ,Ze5 _ _ _ _ ZcJ];exact S
  have f0:Boxed ((W.setCell ⟨xz (xj w),0,xw⟩ (.slice G (xq u) H)).setCell ⟨xz (xj w)+1,0,xw⟩ (.int .i64 0)) (xz (xj w)) 55 (.slice G (xq u) H):=
   (Ze5 _ _ _ _ Z1).trans (O.set _)
  have f1:Boxed ((W.setCell ⟨xz (xj w),0,xw⟩ (.slice G (xq u) H)).setCell ⟨xz (xj w)+1,0,xw⟩ (.int .i64 0)) (xz (xj w)+1) 32 (.int .i64 0):=
   Boxed.set _ (show Boxed (W.setCell ⟨xz (xj w),0,xw⟩ (.slice G (xq u) H)) (xz (xj w)+1) 32 (.int .i64 0)from(Ze5 _ _ _ _ Z1).trans q.e)
  have g1:=Zg4 W (xz (xj w)) (.slice G (xq u) H);have g2:=Zg4 (W.setCell ⟨xz (xj w),0,xw⟩ (.slice G (xq u) H)) (xz (xj w)+1) (.int .i64 0);have P:=d.lt
  have r2:=(d.kept g1 (by
   cases hb:(Value.slice G (xq u) H).ownBlock with
   |none=>simp
   |some b=>exact .inr λe=>by have:=(P b hb).1;grind)).kept g2 (by
   cases hb:(Value.slice G (xq u) H).ownBlock with
   |none=>simp
   |some b=>exact .inr λe=>by have:=(P b hb).1;grind)
  generalize f2:(W.setCell ⟨xz (xj w),0,xw⟩ (.slice G (xq u) H)).setCell ⟨xz (xj w)+1,0,xw⟩ (.int .i64 0)=W2 at*;have g3:=Zgd W2 D (.deferred xw);have Q:Boxed (W2.putObj D (.deferred xw)) (xz (xj w)) 55 (.slice G (xq u) H):=(Zen Z0).trans f0;have R:Boxed (W2.putObj D (.deferred xw)) (xz (xj w)+1) 32 (.int .i64 0):=(Zen Z0).trans f1;have k0:=Q.cell;have k1:=R.cell;refine⟨Z1,.inl ⟨D,_,rfl,ZgV a2,?_⟩⟩;refine⟨Z1,.inr ⟨λh=>ZcZ,.func 130,_,130, #[.pointer (xk ⟨xz (xj w),0,xw⟩),.pointer (xk ⟨xz (xj w)+1,0,xw⟩)],rfl,Zdz,λ_ _=>trivial,?_⟩⟩;refine(Z0e _ _ _ _).mono ?_;rintro e u' d9 ⟨rfl,rfl,rfl⟩;refine⟨.tuple #[.slice G (xq u) H,.int .i64 0],by simp[results,Try.results128,go_sem,k0,k1],?_⟩;obtain⟨t,hK,hR⟩:=hS;refine⟨_,0,u,rfl,UA (UA (UA q.gr g1 λr e=>.inr ?_) g2 λr e=>.inr ?_) g3 λr e=>.inr ?_,ownsRow_putObj r2 _ a2 rfl,.inl ⟨rfl,t,z t _ _ _ (z t _ _ _ (z t _ _ _ hK g1 λr e=> ?_) g2 λr e=> ?_) g3 λr e=> ?_,hR⟩⟩;all_goals (grind)
 case panic=>
  rintro D chain pre W hD ⟨e,b9,rfl,b7⟩ q S;rw[N]at hD;obtain⟨v,O,d⟩:=q.row;have g3:=Zgd W D (.deferred xw);have Q:Boxed (W.putObj D (.deferred xw)) (xz (xj w)) 55 v:=(Zen Z0).trans O;have R:Boxed (W.putObj D (.deferred xw)) (xz (xj w)+1) 32 (.int .i64 0):=(Zen Z0).trans q.e;have C:w.grownBy (W.putObj D (.deferred xw)) bt:=UA q.gr g3 λr e=>.inr ZcJ;refine⟨Z1,.inl ⟨D,_,rfl,ZgV S,?_⟩⟩;refine⟨Z1,.inr ⟨λh=>ZcZ,.func 130,_,130, #[.pointer (xk ⟨xz (xj w),0,xw⟩),.pointer (xk ⟨xz (xj w)+1,0,xw⟩)],rfl,Zdz,λ_ _=>trivial,?_⟩⟩;refine(Z0f _ (xz (xj w)) (xz (xj w)+1) e _ _ _ Q R Z0).mono ?_;rintro e' u' d9 ⟨rfl,rfl,h0,h1,⟨c8,Z⟩,c7,a1,a7⟩;have k0:=h0.cell;have k1:=h1.cell;refine⟨.tuple #[.slice xw 0 0,.int .i64 e],by simp[results,Try.results128,go_sem,k0,k1],?_⟩;refine⟨_,e,[],rfl,⟨c7.trans C.os,a1.trans C.tape,a7.trans C.output,Zeh C.size c8,λk a5 hn=> ?_⟩,Zf7 _ _ _ _,.inr ⟨b9,rfl,b7⟩⟩;exact(Z k (ZdS a5 C.size) Z0 Z0).trans (C.block k a5 hn)
end Vm
namespace Vm
open Go Go.Proofs Go.RowKit Go.Shelf
theorem TV{w:World}{G:Nat->Prop}{k:IntKind}{n:Int}{v:Value}(r:Rd w G (.int k n) v):v=.int k n:=by cases r;rfl
theorem M3{w:World}{G:Nat->Prop}{b:Bool}{v:Value}(r:Rd w G (.bool b) v):v=.bool b:=by cases r;rfl
def NH{w:World}{G:Nat->Prop}{ws:List Int}{v:Value}(r:Rd w G (.sl (ws.map vu)) v)(p:∀b,G b->b<U (R w))(B:P ws<=1000000)(C:∀x∈ws,ZC x)(q:Nat):
  ∃g o cap,Words w ws g o cap/\(v=.slice (xk ⟨g,o,xw⟩) (P ws) cap\/(ws=[]/\∃a c,v=.slice a 0 c))/\((ws≠[]->g<U (R w))/\(g<(U (R w))\/g=q)):=by
 generalize t:ws.map vu=L at r;cases r with
 |nil a cap D=>
  have:ws=[]:=List.map_eq_nil_iff.1 t;subst this;exact⟨q,0,0,⟨λi x d=>Zdn,Z1,Zdw,Z1,Z1⟩,.inr ⟨rfl,a,cap,rfl⟩,λh=>absurd rfl h,.inr rfl⟩
 |sl _ b o cap k vs f y j l n z=>
  subst t;simp only[Zek]at f n⊢;refine⟨b,o,cap,⟨λi x d=> ?_,f,y,B,C⟩,.inl rfl,λ_=>p b j,.inl (p b j)⟩;have u:(ws.map vu)[i]?=xk (vu x):=by rw[Ze1,d];rfl
  have A:k=1:=((l _ (ZdO u)).1).symm;subst A;have F:i<P ws:=(ZdH.1 d).1;rw[n i Z0];have:=z i (vu x) (by have:=Vp l u 0 Z0;simp_all);rw[TV this]
def Z6U{w:World}{G:Nat->Prop}{shs:List (Int×Int)}{v:Value}(r:Rd w G (.sl (shs.map Wb)) v)(t:∀b,G b->b<U (R w)):
  (∃g o cap,v=.slice (xk ⟨g,o,xw⟩) (P shs) cap/\P shs<=cap/\cap<=maxLen/\g<U (R w)/\∀(i:Nat) (x:Int×Int),shs[i]?=xk x->w.cell? ⟨g,o+i*2,xw⟩=xk (.int .i64 x.1)/\w.cell? ⟨g,o+i*2+1,xw⟩=xk (.int .i64 x.2))\/
  (∃a cap,v=.slice a 0 cap/\shs=[]):=by
 generalize u:shs.map Wb=L at r;cases r with
 |nil a cap B=>
  simp_all
 |sl _ b o cap k vs h n p d q j=>
  subst u;simp only[Zek]at h q⊢;refine .inl ⟨b,o,cap,rfl,h,n,t b p,λi x l=> ?_⟩;have f:(shs.map Wb)[i]?=xk (Wb x):=by rw[Ze1,l];rfl
  have y:k=2:=((d _ (ZdO f)).1).symm;subst y;have C:i<P shs:=(ZdH.1 l).1;have z:=j (i*2) (vi x.1) (by have:=Vp d f 0 Z0;simp_all);have A:=j (i*2+1) (vi x.2) (by have:=Vp d f 1 Z0;simp_all);grind [TV,Nat.add_assoc]
def H1{w:World}{G:Nat->Prop}:∀(l:List Ob) (i:Nat) (c:V),(flat (l.map ZL))[i]?=xk c->Rd w G c ((Wx l).getD i undef)
 | [],i,c,h=>ZcK
 |x::l,i,c,h=>by
  rw[Zee,Sw]at h;have e:Wx (x::l)=Th x++Wx l:=by simp[Wx]
  rw[e];by_cases d:i<5
  match i,d with
  |0,_=>simp[ZL,V.cells]at h;subst h;exact .int _ _
  |1,_=>simp[ZL,V.cells]at h;subst h;exact .int _ _
  |2,_=>simp[ZL,V.cells]at h;subst h;exact .int _ _
  |3,_=>simp[ZL,V.cells]at h;subst h;exact .bool _
  |4,_=>simp[ZL,V.cells]at h;subst h;exact .int _ _
  have a:(flat (l.map ZL))[i-5]?=xk c:=by
   rw[Ze6 ZcK]at h;simpa[ZL,V.cells]using h
  have:=H1 (w:=w) (G:=G) l (i-5) c a;have f:(Th x++Wx l).getD i undef=(Wx l).getD (i-5) undef:=by
   simp only[List.getD_eq_getElem?_getD];rw[Ze6 (by grind [Th])];simp[Th]
  simp_all
def Z3V(l:List Ob):∀x∈l.map ZL,V.fits 5 x:=by
 intro x d;obtain⟨o,_,rfl⟩:=ZdX.1 d;exact⟨rfl,λc a=>by simp[ZL,V.cells]at a;obtain rfl|rfl|rfl|rfl|rfl:=a<;>rfl⟩
def H2{w:World}{G:Nat->Prop}{B:Nat}{e:TypeId}{v:Value}{l:List Ob}(h:w.ownsRow B e 5 v (P l) (Wx l))(n:∀c,B<=c->c<U (R w)->G c):Rd w G (.sl (l.map ZL)) v:=by
 have a:P (Wx l)=P l*5:=h.1;obtain⟨rfl,k⟩|⟨g,cap,j,rfl,o,q,t,d,_⟩:=h.2;have:l=[]:=ZfB.1 k;subst this;exact .nil _ _ Zdw
 have:=Rd.sl (w:=w) (G:=G) (l.map ZL) g 0 cap 5 (λi=>(Wx l).getD i undef) ZcK d (n g o (Yf q)) (Z3V l) (λi r=>by
   have f:i< P (Wx l):=by rw[a];simpa using r
   rw[Zet,h.cellAt i Z0];simp[f]) (λi c p=>H1 l i c p)
 simp_all
def Z7Y{ws:List Int}{shs:List (Int×Int)}{old:Bool}{K:Nat->World->Prop}{n:Int}{xs:List Ob}{W:World}(a:shs=[])(h:(n=0/\LF ws shs old K xs W)\/((n=2\/n=3)/\xs=[]/\ZM ws shs old=([],n))):ZM ws shs old=(xs,n):=by
 subst a;obtain⟨rfl,t,_,h⟩|⟨_,rfl,h⟩:=h;simp_all;exact h
def Dd:Qf:=by
 intro S M N;refine⟨Z2,λw G vs I p q=> ?_⟩;have r0:=q 0 _ rfl;obtain⟨⟨l⟩⟩:=vs;simp at p;rename_i v0 l;cases l with
 |cons _ _=>simp at p
 |nil=>
  simp at r0;obtain⟨g,o,cap,C,k,x,L⟩:=NH r0 I M N (xz (xj w)+1);have z:=NA (w:=w) (shs:=[]) (old:=xh) (bt:=xw) (K:=λt _=>t=0) C k ⟨x,Z0,Z0⟩ (.inl rfl) Z1 Z1 P4 rfl (λt A B row h _ _=>h) (λO base t A B _ _ h _=>h);obtain⟨Q,R,sc,rfl⟩:∃a n c,v0=.slice a n c:=by
   obtain rfl|⟨_,a,c,rfl⟩:=k;simp;simp
  have D:=ZdP z;clear z C k r0 q;go_enter Sol.func117,Try.ntmps117;go_wp2_with (go_at_call 128;refine D.out.mono ?_;rintro e w1 ⟨v,n,T,rfl,f,d,u⟩;have F:=ZdP (And.intro f (And.intro d u));clear f d u)
  obtain⟨f,d,u⟩:=F.out;have J:=Z7Y rfl u;refine Zey (v:=.tuple #[v,.int .i64 n]) (by simp[results,Try.results117,go_sem]) rfl ⟨_,rfl,(Zef _ w).grown f (ZdL _) (λj e=>by cases e),?_⟩;rw[J];refine .tup _ _ rfl ?_;intro i y r
  match i,r with
  |0,r=>cases r;exact H2 d λc P H=>.inr ⟨Z0,H⟩
  |1,r=>cases r;exact .int _ _
def KpW.cell{l base:Nat}{A B:World}(h:KpW l base A B){k i:Nat}{c:Value}(hc:A.cell? ⟨k,i,xw⟩=xk c)(n:k<base)(o:k≠l):B.cell? ⟨k,i,xw⟩=xk c:=by
 have d:=hc;unfold World.cell? at hc;cases f:A.heap[k]? with
 |none=>simp_all
 |some j=>
  have g:j.isCells=xy:=by
   rw[f]at hc;cases j<;>simp_all [Obj.isCells]
  rw[<-d];exact ZeC (a:=⟨k,i,xw⟩) ((h.same k j f g o (.inl n)).trans f.symm)
def KOld.grown{shs:List (Int×Int)}{bt a t n:Nat}{v:Value}{A B:World}{row:Option Nat}(h:KOld shs bt a v t A)(f:A.grownBy B row)(p:bt<n)(l:a<n)(x:shs≠[]->∀g o cap,v=.slice (xk ⟨g,o,xw⟩) (P shs) cap->g<n)(w:∀r,row=xk r->n<=r):KOld shs bt a v t B:=by
 obtain⟨d,j,k⟩:=h;exact⟨(f.block _ (Yf d) (λe=>ZcJ)).trans d,j.grown f (λe=>ZcJ) (λu g o cap e q=>ZcJ),k⟩
def KOld.kp{shs:List (Int×Int)}{bt d t n j base:Nat}{v:Value}{A B:World}(h:KOld shs bt d v t A)(a:KpW j base A B)(u:bt<n)(r:d<n)(w:shs≠[]->∀g o cap,v=.slice (xk ⟨g,o,xw⟩) (P shs) cap->g<n)(D:n<=j)(h2:n<=base):KOld shs bt d v t B:=by
 obtain⟨k1,⟨y,z⟩,C⟩:=h;refine⟨a.same _ _ k1 rfl Z0 (.inl Z0),⟨a.same _ _ y rfl Z0 (.inl Z0),?_⟩,C⟩;obtain⟨g,o,cap,rfl,l,p,q,f⟩|h:=z;refine .inl ⟨g,o,cap,rfl,l,p,ZdS q a.size,λi x k=> ?_⟩;have:=w (λe=>ZcK) _ _ _ rfl;exact⟨a.cell (f i x k).1 Z0 Z0,a.cell (f i x k).2 Z0 Z0⟩;simp_all
def Words.below2{w W:World}{ws:List Int}{g o cap:Nat}(h:Words w ws g o cap)(d:ws≠[]->g<U (R w))(a:Below (U (R w)) w W):Words W ws g o cap:=
 ⟨λi x f=>by rw[a.cell (p:=⟨g,o+i,xw⟩) (d (λe=>ZcK))];exact h.at_ i x f,h.le,h.cap,h.len,h.u64⟩
def Dc:Qg:=by
 intro C d hl a7 hu b2;refine⟨Z2,λw G vs hG L N=> ?_⟩;have r0:=N 0 _ rfl;have r1:=N 1 _ rfl;obtain⟨⟨l⟩⟩:=vs;simp at L;rename_i v0 l;cases l with
 |nil=>simp at L
 |cons v1 l=>
 cases l with
 |cons _ _=>simp at L
 |nil=>
  simp at r0 r1;obtain⟨g,o,cap,hw,K,P,a0⟩:=NH r0 hG hl hu (xz (xj w)+3);have M:=Z6U r1 hG;obtain⟨sa,sn,sc,rfl⟩:∃a n c,v0=.slice a n c:=by
   obtain rfl|⟨_,a,c,rfl⟩:=K;simp;simp
  obtain⟨k,q,rfl⟩:∃a c,v1=.slice a (xq d) c:=by
   grind
  have b0:((w.alloc (.cells #[.slice k (xq d) q] 180)).alloc (.cells #[.int .i64 0] 3)).heap[xz (xj w)]?=xk (.cells #[.slice k (xq d) q] 180 (0,0)):=(ZdN _ _ _ Z1).trans (Ze7 w _);have b1:((w.alloc (.cells #[.slice k (xq d) q] 180)).alloc (.cells #[.int .i64 0] 3)).heap[xz (xj w)+1]?=xk (.cells #[.int .i64 0] 3 (0,0)):=by
   have:=Ze7 (w.alloc (.cells #[.slice k (xq d) q] 180)) (.cells #[.int .i64 0] 3);simp_all
  have z:Below (xz (xj w)) w ((w.alloc (.cells #[.slice k (xq d) q] 180)).alloc (.cells #[.int .i64 0] 3)):=((Zef _ w).alloc (ZdL _) _).alloc Z1 _;have J:xz (xj ((w.alloc (.cells #[.slice k (xq d) q] 180)).alloc (.cells #[.int .i64 0] 3)))=xz (xj w)+2:=Z1;have a5:d≠[]->∀g o cap,Value.slice k (xq d) q=.slice (xk ⟨g,o,xw⟩) (xq d) cap->g<xz (xj w):=by
   intro T g o cap e;obtain⟨g1,U,c1,Z,_,_,h4,_⟩|⟨_,_,_,h⟩:=M;simp_all;simp_all
  have S:Calls Sol.prog 128 #[.slice sa sn sc,.func (.func 129) #[] #[.pointer (xk ⟨xz (xj w)+1,0,xw⟩),.pointer (xk ⟨xz (xj w),0,xw⟩)]] ((w.alloc (.cells #[.slice k (xq d) q] 180)).alloc (.cells #[.int .i64 0] 3))
    (Db ((w.alloc (.cells #[.slice k (xq d) q] 180)).alloc (.cells #[.int .i64 0] 3)) C d xy (xk (xz (xj w)+1)) (KOld d (xz (xj w)+1) (xz (xj w)) (.slice k (xq d) q))):=by
   generalize a8:(w.alloc (.cells #[.slice k (xq d) q] 180)).alloc (.cells #[.int .i64 0] 3)=Y at*;have I:d≠[]->∀g o cap,Value.slice k (xq d) q=.slice (xk ⟨g,o,xw⟩) (xq d) cap->g<xz (xj Y):=λT g o cap e=>ZcJ;refine NA (hw.below2 P z) K ⟨λh=>ZcJ,Z0,Z0⟩ (.inr ⟨_,_,rfl⟩) (λr e=>ZcJ) (λe=>ZcJ) (P5 a7 Z0 (λT g o cap e=>ZcJ)) ⟨b1,⟨b0,?_⟩,Z0⟩ (λt A B row h hg hr=>h.grown hg (n:=xz (xj Y)) Z0 Z0 I hr) (λbl base t A B h1 h2 h S=>h.kp S (n:=xz (xj Y)) Z0 Z0 I h1 h2);obtain⟨g1,U,c1,Z,a1,a2,a3,a4⟩|⟨a,c,Z,h⟩:=M;exact .inl ⟨g1,U,c1,Z,a1,a2,Z0,λi x hx=>⟨(z.cell (p:=⟨g1,U+i*2,xw⟩) a3).trans (a4 i x hx).1,(z.cell (p:=⟨g1,U+i*2+1,xw⟩) a3).trans (a4 i x hx).2⟩⟩;simp_all
  have F:∀w1 v n (O:List Ob),(v=.slice xw 0 0/\O=[]\/w1.ownsRow (xz (xj w)+6) 59 5 v (xq O) (Wx O))->ZM C d xy=(O,n)->Rd w1 (λb=>xy=xh/\G b\/xz (xj w)<=b/\b<xz (xj w1)) (.tup [.sl ((ZM C d xy).1.map ZL),vi (ZM C d xy).2]) (.tuple #[v,.int .i64 n]):=by
   intro w1 v n O f hW;rw[hW];refine .tup _ _ rfl ?_;intro i y R
   match i,R with
   |0,R=>
    cases R;obtain⟨rfl,rfl⟩|f:=f;exact .nil _ _ Zdw;exact H2 f λc h1 h2=>.inr ⟨Z0,h2⟩
   |1,R=>cases R;exact .int _ _
  have Q:Calls Sol.prog 128 #[.slice sa sn sc,.func (.func 129) #[] #[.pointer (xk ⟨xz (xj w)+1,0,xw⟩),.pointer (xk ⟨xz (xj w),0,xw⟩)]] ((w.alloc (.cells #[.slice k (xq d) q] 180)).alloc (.cells #[.int .i64 0] 3)) λe w1=>
    (∃(v:Value) (t:Nat),e=.returned (.tuple #[v,.int .i64 0])/\w1.cell? ⟨xz (xj w)+1,0,xw⟩=xk (.int .i64 t)/\w1.cell? ⟨xz (xj w),0,xw⟩=xk (.slice k (xq d) q)/\(t:Int)<xq d/\Hid (Below (xz (xj w)) w w1/\Rd w1 (λb=>xy=xh/\G b\/xz (xj w)<=b/\b<xz (xj w1)) (.tup [.sl ((ZM C d xy).1.map ZL),vi (ZM C d xy).2]) (.tuple #[.slice xw 0 0,.int .i64 3])))\/
    (∃(v:Value) (t:Nat),e=.returned (.tuple #[v,.int .i64 0])/\w1.cell? ⟨xz (xj w)+1,0,xw⟩=xk (.int .i64 t)/\w1.cell? ⟨xz (xj w),0,xw⟩=xk (.slice k (xq d) q)/\¬(t:Int)<xq d/\Hid (Below (xz (xj w)) w w1/\Rd w1 (λb=>xy=xh/\G b\/xz (xj w)<=b/\b<xz (xj w1)) (.tup [.sl ((ZM C d xy).1.map ZL),vi (ZM C d xy).2]) (.tuple #[v,.int .i64 0])))\/
    (∃(v:Value) (n:Int),e=.returned (.tuple #[v,.int .i64 n])/\¬n=0/\Hid (Below (xz (xj w)) w w1/\Rd w1 (λb=>xy=xh/\G b\/xz (xj w)<=b/\b<xz (xj w1)) (.tup [.sl ((ZM C d xy).1.map ZL),vi (ZM C d xy).2]) (.tuple #[.slice xw 0 0,.int .i64 n]))):=by
   refine S.mono ?_;rintro e w1 ⟨v,n,O,rfl,a6,f,hE⟩;rw[J]at f;have hB:Below (xz (xj w)) w w1:=z.trans ((Zef _ _).grown a6 Z0 (λj e=>ZcJ));obtain⟨rfl,t,⟨hb,hs,ht⟩,u⟩|⟨T,rfl,u⟩:=hE;have W:w1.cell? ⟨xz (xj w)+1,0,xw⟩=xk (.int .i64 t):=by rw[ZdT _ _ _ _ _ _ hb];rfl
   have X:w1.cell? ⟨xz (xj w),0,xw⟩=xk (.slice k (xq d) q):=by rw[ZdT _ _ _ _ _ _ hs.box];rfl
   by_cases D:t<xq d;rw[if_pos D]at u;exact .inl ⟨v,t,rfl,W,X,Z0,ZdP ⟨hB,F w1 _ _ [] (.inl ⟨rfl,rfl⟩) u⟩⟩;rw[if_neg D]at u;exact .inr (.inl ⟨v,t,rfl,W,X,Z0,ZdP ⟨hB,F w1 _ _ O (.inr f) u⟩⟩);exact .inr (.inr ⟨v,n,rfl,Z0,ZdP ⟨hB,F w1 _ _ [] (.inl ⟨rfl,rfl⟩) u⟩⟩)
  have HK:=ZdP Q;clear hw K r0 r1 N M P a0 S Q z b0 b1 a5 J F;go_enter Sol.func119,Try.ntmps119;have a9:∀(fn:Go.Fn) (first cap:Array Value) (w:World),(Instr.makeFunc fn first cap).run Sol.prog w=.ok (.func fn first cap) w:=λ_ _ _ _=>rfl;go_wp2_with (go_at_call 128;refine HK.out.mono ?_;rintro e w1 (⟨v,t,rfl,W,X,D,H⟩|⟨v,t,rfl,W,X,D,H⟩|⟨v,n,rfl,T,H⟩))
  .refine Zey (v:=.tuple #[.slice xw 0 0,.int .i64 3]) (by simp[results,Try.results119,go_sem]) rfl ⟨_,rfl,H.out.1,H.out.2⟩
  .refine Zey (v:=.tuple #[v,.int .i64 0]) (by simp[results,Try.results119,go_sem]) rfl ⟨_,rfl,H.out.1,H.out.2⟩
  .refine Zey (v:=.tuple #[.slice xw 0 0,.int .i64 n]) (by simp[results,Try.results119,go_sem]) rfl ⟨_,rfl,H.out.1,H.out.2⟩
end Vm
namespace Vm
open Go Go.Proofs Go.RowKit
def Z3W{w:World}{G:Nat->Prop}{l:List Ob}{v:Value}(r:Rd w G (.sl (l.map ZL)) v)(u:∀b,G b->b<U (R w)):
  (∃g o cap,v=.slice (xk ⟨g,o,xw⟩) (P l) cap/\P l<=cap/\cap<=maxLen/\g<U (R w)/\∀(i:Nat) (x:Ob),l[i]?=xk x->w.cell? ⟨g,o+i*5,xw⟩=xk (.int .i64 x.at_)/\w.cell? ⟨g,o+i*5+1,xw⟩=xk (.int .i64 x.size)/\
   w.cell? ⟨g,o+i*5+2,xw⟩=xk (.int .i64 x.ptrs)/\w.cell? ⟨g,o+i*5+3,xw⟩=xk (.bool x.gone)/\w.cell? ⟨g,o+i*5+4,xw⟩=xk (.int .u64 x.target))\/
  (∃a cap,v=.slice a 0 cap/\l=[]):=by
 generalize y:l.map ZL=L at r;cases r with
 |nil a cap H=>
  simp_all
 |sl _ b o cap k vs j p q d t h=>
  subst y;simp only[Zek]at j t⊢;refine .inl ⟨b,o,cap,rfl,j,p,u b q,λi x n=> ?_⟩;have f:(l.map ZL)[i]?=xk (ZL x):=by rw[Ze1,n];rfl
  have z:k=5:=((d _ (ZdO f)).1).symm;subst z;have I:i<P l:=(ZdH.1 n).1;have A:=h (i*5) (vi x.at_) (by have:=Vp d f 0 Z0;simp_all);have B:=h (i*5+1) (vi x.size) (by have:=Vp d f 1 Z0;simp_all);have C:=h (i*5+2) (vi x.ptrs) (by have:=Vp d f 2 Z0;simp_all);have D:=h (i*5+3) (.bool x.gone) (by have:=Vp d f 3 Z0;simp_all);have F:=h (i*5+4) (vu x.target) (by have:=Vp d f 4 Z0;simp_all);grind [TV,Nat.add_assoc,M3]
end Vm
end
section

end
section
namespace Vm
open Go Go.Proofs
def Lf{h:Hp}(a:h.ok):VC Sol.prog 25 xh [ZJ h] (.bool (X5 h)):=by
 rw[<-(Gp h).1];exact O2 Dd Dc a
def NZ{h:Hp}(a:h.ok){k:Int}:VC Sol.prog 27 xh [ZJ h,vi k] (.tup [.sl ((Ue h k).1.map ZL),vi (Ue h k).2]):=by
 rw[<-Z2Y h k];exact O0 Dd Dc a
def Vr(l:Zj):List (Int×Int):=(l.filter λo=>o.gone).map λo=>(o.size,o.ptrs)
def Nw{ws:Z8}{shs:List (Int×Int)}{old:Bool}:∀(l:Zj) (f a k:Nat) (g:Zj),Tiles ws old a l->xq ws<f+a->0<f->shs.drop k=Vr l->Xl ws shs old f a k g=(g++l,0)
 | [],f,a,k,g,D,K,I,B=>by
   obtain⟨f,rfl⟩:∃C,f=C+1:=⟨f-1,Z0⟩;have:xq ws<=a:=D;have r:xq shs<=k:=List.drop_eq_nil_iff.1 B;rw[Xl,ZeJ this];simp only;rw[if_neg Z0,Zf5]
 |o::l,f,a,k,g,D,K,I,B=>by
  obtain⟨f,rfl⟩:∃C,f=C+1:=⟨f-1,Z0⟩;obtain⟨t,r,J⟩:=D;obtain⟨w,F,j⟩:=r.word;have M:=Yv.1 r.shape;have u:=r.fits;have q:=r.slots;rw[t]at F u q;simp only[ZdW]at F q;have z:∀d:Nat,shs.drop d=Vr l->Xl ws shs old f (a+1+o.size.toNat) d (g++[o])=(g++o::l,0):=λd p=>by
   rw[Nw l f _ d _ J Z0 Z0 p];simp
  have y:∃d,XY shs old a k w=xk (o,d)/\shs.drop d=Vr l:=by
   unfold XY;cases n:o.gone;rw[n]at j;simp only[ZdZ,Zeu]at j;rw[if_neg (λh=>j.1 h.1 h.2),j.2.1];refine⟨k,?_,?_⟩;simp only[Zer];obtain⟨N,P,op,O,Q⟩:=o;simp only at n t j⊢;rw[n,t,j.2.2];rw[B];simp[Vr,n];rw[n]at j;simp only[Zer]at j;rw[if_pos ⟨j.1,j.2.1⟩];have A:shs.drop k=(o.size,o.ptrs)::Vr l:=by rw[B];simp[Vr,n]
   have x:k<xq shs:=by
    have:=ZeX List.length A;simp at this;omega
   rw[ZeF x]at A;have G:=(List.cons.inj A).1;have H:=(List.cons.inj A).2;rw[ZdG x,G];simp only[r.shape,Zer];refine⟨k+1,?_,H⟩;obtain⟨N,P,op,O,Q⟩:=o;simp only at n t j⊢;rw[n,t,j.2.2]
  obtain⟨d,L,p⟩:=y;rw[Xl,F];simp only;rw[L];simp only;rw[if_neg Z0,if_neg (by rw[q];simp)];exact z d p
def La{ws:Z8}{shs:List (Int×Int)}{old:Bool}{l:Zj}(d:Tiles ws old 0 l)(a:shs=Vr l):ZM ws shs old=(l,0):=by
 unfold ZM;rw[Nw l (P ws+1) 0 0 [] d Z0 Z0 (by simpa using a),ZeA]
def Qe(h:Hp)(low l:Zj):Prop:=∀o∈l,o.gone=xy->∃q,Yy h 1 low o.target=xk q/\q.size=o.size/\q.ptrs=o.ptrs
def q9{h:Hp}{ws:Z8}{low:Zj}:∀(l:Zj) (f i:Nat) (a:List (Int×Int)),Tiles ws xy i l->P ws<f+i->0<f->Qe h low l->WS h ws low f i a=xk (a++Vr l)
 | [],f,i,a,u,D,B,r=>by
   obtain⟨f,rfl⟩:∃n,f=n+1:=⟨f-1,Z0⟩;have:P ws<=i:=u;rw[WS,ZeJ this];simp[Vr]
 |o::l,f,i,a,u,D,B,r=>by
  obtain⟨f,rfl⟩:∃n,f=n+1:=⟨f-1,Z0⟩;obtain⟨C,p,y⟩:=u;obtain⟨w,x,g⟩:=p.word;have F:=Yv.1 p.shape;have j:=p.fits;rw[C]at x j;simp only[ZdW]at x;have k:Qe h low l:=λq t=>r q (Zei _ t);rw[WS,x];simp only;cases d:o.gone;rw[d]at g;simp only[ZdZ,Zeu,true_implies]at g;rw[if_neg g.1,g.2.1];simp only[Zer];rw[q9 l f _ a y Z0 Z0 k];simp[Vr,d];rw[d]at g;simp only[Zer,true_and]at g;rw[if_pos g.1];obtain⟨q,t,z,A⟩:=r o (.head _) d;rw[<-g.2,t];simp only;rw[z,A,q9 l f _ _ y Z0 Z0 k];simp[Vr,d]
def Iz{h:Hp}{p:Pts}(d:Tiles h.low xh 0 p.low)(h2:Tiles h.high xh 0 p.high)(f:Tiles h.old xy 0 p.old)(g:Tiles h.far xy 0 p.far)(q:Qe h p.low p.old)(r:Qe h p.low p.far):XF h=xk p:=by
 have k:∀ {n:Z8} {a:Nat} {l:Zj},Tiles n xh a l->Vr l=[]:=λ{n a l} x=>by
  unfold Vr;rw[List.map_eq_nil_iff,ZgH];intro o u t;obtain⟨w,_,j⟩:=(x.stands o u).1.word;rw[if_pos t]at j;cases j.1
 unfold XF;rw[La d (k d).symm,La h2 (k h2).symm];unfold Vh;simp only[ne_eq,Zht,or_self,Zeu];rw[q9 p.old _ 0 [] f Z0 Z0 q,q9 p.far _ 0 [] g Z0 Z0 r];simp only[ZeA,Zec];rw[La f rfl,La g rfl];simp
def Mj{h:Hp}{p:Pts}(a:Tg h=xy)(d:XF h=xk p)(f:S5 h p=xy):X5 h=xy:=by
 unfold X5;rw[a,d];simpa using f
def DE{h:Hp}{k:Int}{l:Zj}{o:Ob}(a:o∈l)(f:∀q∈l,YV h k q.at_=YV h k o.at_->q=o):Yy h k l (YV h k o.at_)=xk o:=by
 unfold Yy;induction l with
 |nil=>simp at a
 |cons x l j=>
  rw[Zh7];by_cases d:YV h k x.at_=YV h k o.at_;rw[f x (.head _) d];simp;have:(YV h k x.at_==YV h k o.at_)=xh:=ZcW;rw[this];obtain rfl|a:=Ze3.1 a;exact absurd rfl d;exact j a λq g=>f q (Zei _ g)
def qG{h:Hp}{k:Int}{l:Zj}{a:Int}:(Yy h k l a).isSome=xy↔ ∃o∈l,YV h k o.at_=a:=by
 unfold Yy;rw[List.find?_isSome];simp
section
structure Tld (h:Hp) (p:Pts):Prop where
 lay:ZH (Zu h)=xy
 tiles:∀k:Int,1<=k/\k<=4->Tiles (Zx h k) (decide (2<k)) 0 (p.at k)
def Gos(h:Hp)(p:Pts)(w one a:Int):Prop:=w=0\/∃k o,(k=one\/k=a)/\o∈p.at k/\w=Y7 (Zu h) k o.at_
def Wh(h:Hp)(p:Pts)(k:Int)(i:Nat)(w:Int):Prop:=if 2<k then Gos h p w 3 4 else if k=1/\h.scan<=i then Gos h p w 1 2\/Gos h p w 3 4 else Gos h p w 1 2
section
variable {h:Hp}{p:Pts}
def Tld.ob(t:Tld h p){k:Int}(g:1<=k/\k<=4){o:Ob}(j:o∈p.at k):∃a n m:Nat,o.at_=a/\o.size=n/\o.ptrs=m/\a+(n+1)<=P (Zx h k)/\n<=255/\m<=n:=by
 have d:=((t.tiles k g).stands o j).1;have f:=Yv.1 d.shape;obtain⟨a,l⟩:=ZdV d.nat;obtain⟨n,r⟩:=ZdV f.1;obtain⟨m,q⟩:=ZdV f.2.2.1;have:=d.fits;grind
def Tld.start(t:Tld h p){k:Int}(d:1<=k/\k<=4){o:Ob}(f:o∈p.at k):YV h k o.at_=fstL (Zu h) k+o.at_:=by
 obtain⟨a,n,m,g,_,_,j,_⟩:=t.ob d f;unfold YV;rw[R8 t.lay d (by grind [UO])]
def Tld.same_at(t:Tld h p){k:Int}(d:1<=k/\k<=4){o q:Ob}(f:o∈p.at k)(g:q∈p.at k)(e:q.at_=o.at_):q=o:=by
 rcases(t.tiles k d).apart q g o f with a|a|a;exact a;have:=Yv.1 ((t.tiles k d).stands q g).1.shape;omega;have:=Yv.1 ((t.tiles k d).stands o f).1.shape;omega
def Tld.find(t:Tld h p){k:Int}(a:1<=k/\k<=4){o:Ob}(d:o∈p.at k):Yy h k (p.at k) (fstL (Zu h) k+o.at_)=xk o:=by
 rw[<-t.start a d];refine DE d λq f e=>t.same_at a d f ?_;rw[t.start a d,t.start a f]at e;omega
theorem Tld.inj(t:Tld h p){k j:Int}(d:1<=k/\k<=4)(f:1<=j/\j<=4){o q:Ob}(g:o∈p.at k)(l:q∈p.at j)(e:Y7 (Zu h) k o.at_=Y7 (Zu h) j q.at_):k=j/\o=q:=by
 obtain⟨a,n,m,x,_,_,z,_⟩:=t.ob d g;obtain⟨b,B,A,y,_,_,w,_⟩:=t.ob f l;obtain⟨r,u⟩:=Z5M t.lay d f (by grind [UO]) (by grind [UO]) e;subst r;exact⟨rfl,t.same_at d l g u⟩
theorem Tld.adr(t:Tld h p){k:Int}(d:1<=k/\k<=4){o:Ob}(f:o∈p.at k):adr (Y7 (Zu h) k o.at_)=(fstL (Zu h) k+o.at_,0):=by
 obtain⟨a,n,m,g,_⟩:=t.ob d f;exact U3 t.lay Z0
def Tld.at_iff(t:Tld h p){k:Int}(d:1<=k/\k<=4){w:Int}(f:(Vm.adr w).2=0):(Yy h k (p.at k) (Vm.adr w).1).isSome=xy↔ ∃o∈p.at k,w=Y7 (Zu h) k o.at_:=by
 rw[qG];constructor;rintro⟨o,a,e⟩;rw[t.start d a]at e;exact⟨o,a,NG f e.symm⟩;rintro⟨o,a,rfl⟩;exact⟨o,a,by rw[t.adr d a,t.start d a]⟩
def Tld.goes_iff(t:Tld h p){i j:Int}(g:1<=i/\i<=4)(l:1<=j/\j<=4){w:Int}:Xs h p w i j=xy↔Gos h p w i j:=by
 unfold Xs Gos;by_cases d:w=0;simp[d];by_cases a:(Vm.adr w).2=0;simp only[d,a,Zgg,ZgT,Zgh,Zgj,ZdY,false_or,t.at_iff g a,t.at_iff l a];simp;simp only[d,a,ZgT,ZgL,Bool.or_self,ZdZ,false_or,false_iff];rintro⟨k,o,n,q,rfl⟩;have f:1<=k/\k<=4:=by obtain rfl|rfl:=n<;>assumption
 exact a (by rw[t.adr f q])
def MT:∀ {l:Z8} {a:Int} {i:Nat},XJ l xy a i=xy->∀w∈l,w=0
 | [],_,_,_,w,d=>Zdn
 |y::l,a,i,f,w,d=>by
  simp only[XJ,ZdJ]at f;obtain rfl|d:=Ze3.1 d;have g:=f.1;simp at g;exact g.1;exact MT f.2 w d
def Tld.slot(t:Tld h p){k:Int}(d:1<=k/\k<=4){o:Ob}(f:o∈p.at k){j:Nat}(x:(j:Int)<o.size):∃w,(Zx h k)[o.at_.toNat+1+j]?=xk w/\(o.gone=xy->w=0):=by
 obtain⟨a,n,m,l,u,z,y,_⟩:=t.ob d f;have r:a+1+j< P (Zx h k):=Z0;refine⟨(Zx h k)[a+1+j],ZcK,λq=> ?_⟩;have g:=((t.tiles k d).stands o f).1.slots;rw[q]at g;refine MT g _ ?_;rw[l,u,ZdW,ZdW];refine ZdO (i:=j) ?_;simp_all
end
structure Body (h:Hp) (p:Pts):Prop extends Tld h p where
 gone:∀k:Int,3<=k/\k<=4->∀o∈p.at k,o.gone=xy->∃q∈p.low,o.target=fstL (Zu h) 1+q.at_/\q.size=o.size/\q.ptrs=o.ptrs
 ptr:∀k:Int,1<=k/\k<=4->∀o∈p.at k,o.gone=xh->∀j:Nat,(j:Int)<o.ptrs->∀w,(Zx h k)[o.at_.toNat+1+j]?=xk w->Wh h p k (o.at_.toNat+1+j) w
 room:(P h.low:Int)+P h.high+Wt p<=h.cap
structure Rt (h:Hp) (p:Pts):Prop extends Body h p where
 nroots:P h.roots<=16
 scan0:0<=h.scan
 scanL:h.scan<=P h.low
 cyc:h.cycle=xy->h.scan<P h.low
 rest:h.cycle=xh->h.scan=P h.low/\h.old=[]/\h.far=[]
 once:h.cycle=xy->∀o∈p.low,UQ p (fstL (Zu h) 1+o.at_)=1
 roots:∀w∈h.roots,Gos h p w 1 2
section
variable {h:Hp}{p:Pts}
def D2(t:Tld h p){k:Int}{i:Nat}{w:Int}(a:(Zx h k)[i]?=xk w):VX h p k i=xy↔Wh h p k i w:=by
 unfold VX Wh;simp only[a,Zec];split;exact t.goes_iff Z0 Z0;split;rw[ZdY,t.goes_iff Z0 Z0,t.goes_iff Z0 Z0];exact t.goes_iff Z0 Z0
theorem Oq(k:Int)(i:Nat):Wh h p k i 0:=by
 unfold Wh;split;exact .inl rfl;split;exact .inl (.inl rfl);exact .inl rfl
def IR(t:Tld h p){k:Int}(g:1<=k/\k<=4):Wp h p k=xy↔ ∀o∈p.at k,o.gone=xh->∀j:Nat,(j:Int)<o.ptrs->∀w,(Zx h k)[o.at_.toNat+1+j]?=xk w->Wh h p k (o.at_.toNat+1+j) w:=by
 unfold Wp zS;simp only[ZdR,ZfW];constructor;intro l o d _ j q w f;exact(D2 t f).1 (l o d j Z0);intro l o d j q;obtain⟨a,n,m,r,y,x,u,_⟩:=t.ob g d;obtain⟨w,f,z⟩:=t.slot g d (j:=j) Z0;refine(D2 t f).2 ?_;grind [Oq]
def RightH.tld(r:RightH h p):Tld h p:=⟨r.lay,λk a=>r.tiles a⟩
def RightH.rt(r:RightH h p):Rt h p:=by
 have t:=r.tld;have j:=r.num;have a:=r.ok;unfold Tg at j;unfold S5 at a;simp only[ZdJ,Ze2]at j a;obtain⟨⟨⟨⟨G,A⟩,B⟩,C⟩,H⟩:=j;obtain⟨⟨⟨⟨⟨⟨l,D⟩,I⟩,J⟩,K⟩,L⟩,F⟩:=a;have f:∀k:Int,1<=k/\k<=4->Wp h p k=xy:=λk d=>by
  have:k=1\/k=2\/k=3\/k=4:=Z0;grind
 refine⟨⟨t,λk d o a y=> ?_,λk d=>(IR t d).1 (f k d),F⟩,A,B,C,λg=> ?_,λg=> ?_,λg o a=> ?_,λw z=> ?_⟩;obtain⟨q,n,e,u,x⟩:=r.gone_low d a y;exact⟨q,n,by rw[<-e,t.start (k:=1) Z0 n],u,x⟩;simp_all;simp_all;rw[g]at l;simp only[Zgt,Zgh,ZdR]at l;have:=l o a;unfold R0 at this;rw[t.start (k:=1) Z0 a]at this;simp_all;exact(t.goes_iff Z0 Z0).1 (ZdR.1 D w z)
def Rt.parts(r:Rt h p):XF h=xk p:=by
 have g:∀k:Int,3<=k/\k<=4->Qe h p.low (p.at k):=λk j o l f=>by
  obtain⟨q,n,e,a,d⟩:=r.gone k j o l f;exact⟨q,by rw[e];exact r.toTld.find (k:=1) Z0 n,a,d⟩
 exact Iz (r.tiles 1 Z0) (r.tiles 2 Z0) (r.tiles 3 Z0) (r.tiles 4 Z0) (g 3 Z0) (g 4 Z0)
theorem Rt.right(r:Rt h p):X5 h=xy:=by
 have t:=r.toTld;refine Mj ?_ r.parts ?_;unfold Tg;simp only[ZdJ,Ze2];refine⟨⟨⟨⟨r.lay,r.nroots⟩,r.scan0⟩,r.scanL⟩,?_⟩;cases a:h.cycle;obtain⟨l,n,q⟩:=r.rest a;simp_all;simp[r.cyc a];unfold S5;simp only[ZdJ,Ze2];have d:=λk f=>(IR t f).2 (r.ptr k f);refine⟨⟨⟨⟨⟨⟨?_,?_⟩,d 1 Z0⟩,d 2 Z0⟩,d 3 Z0⟩,d 4 Z0⟩,r.room⟩;cases a:h.cycle;rfl;simp only[Zgt,Zgh,ZdR];intro o g;unfold R0;rw[t.start (k:=1) Z0 g,Ze2];exact r.once a o g;rw[ZdR];exactλw j=>(t.goes_iff Z0 Z0).2 (r.roots w j)
def yL:X5 h=xy↔ ∃p,Rt h p:=
 ⟨λa=>by obtain⟨p,r⟩:=Z62 a;exact⟨p,r.rt⟩,λ⟨p,r⟩=>r.right⟩
def Rt.objs(r:Rt h p){k:Int}(a:1<=k/\k<=4):Ue h k=(p.at k,0):=by
 unfold Ue;rw[if_pos ⟨r.right,a⟩,r.parts];rfl
end
end
section
def Um(l:Zj):Nat:=(l.map λo=>1+o.size.toNat).sum
def Tiles.sum{ws:Z8}{old:Bool}:∀ {a:Nat} {l:Zj},Tiles ws old a l->a<=P ws->a+Um l=P ws
 |a,[],h,d=>by have:P ws<=a:=h;simp[Um];omega
 |a,o::l,h,d=>by
  have g:=Yv.1 h.2.1.shape;have f:=h.2.1.fits;rw[h.1]at f;have:=Tiles.sum h.2.2 Z0;simp[Um]at this⊢;omega
def Tiles.last{ws:Z8}{old:Bool}{l:Zj}(h:Tiles ws old (P ws) l):l=[]:=by
 obtain _|⟨o,l⟩:=l;rfl;have d:=Yv.1 h.2.1.shape;have a:=h.2.1.fits;rw[h.1]at a;omega
def Tiles.det{ws d:Z8}{old:Bool}:∀ {a:Nat} {l j:Zj},Tiles ws old a l->Tiles d old a j->(∀i,i<xq ws->d[i]?=ws[i]?)->xq ws<=xq d->
  (∀o∈l,∀q∈j,o.gone=xy->q.gone=xy->o.target=q.target->o.size=q.size/\o.ptrs=q.ptrs)->a<=xq ws->∃r,j=l++r/\Tiles d old (xq ws) r
 |a,[],j,h,k,_,_,_,z=>by
  have:xq ws<=a:=h;grind
 |a,o::l,[],h,k,_,B,_,z=>by
  have I:=Yv.1 h.2.1.shape;have A:=h.2.1.fits;have e:=h.1;have:xq d<=a:=k;omega
 |a,o::l,q::j,h,k,C,B,H,z=>by
  obtain⟨t,n,D⟩:=h;obtain⟨k1,L,M⟩:=k;have I:=Yv.1 n.shape;have A:=n.fits;obtain⟨w,g,F⟩:=n.word;obtain⟨u,f,G⟩:=L.word;rw[t]at g A;rw[k1]at f;simp only[ZdW]at g f;rw[C a Z0,g]at f;cases f;have e:o=q:=by
   obtain⟨R,S,op,N,T⟩:=o;obtain⟨U,X,W,O,Y⟩:=q;simp only at*;subst t k1;cases N<;>cases O<;>simp at F G
   simp_all;simp_all;simp_all;simp_all
  subst e;obtain⟨r,P,Q⟩:=Tiles.det D M C B (λx J y K=>H x (.tail _ J) y (.tail _ K)) Z0;simp_all
def Tiles.uniq{ws:Z8}{old:Bool}{l a:Zj}(h:Tiles ws old 0 l)(h':Tiles ws old 0 a)(g:∀o∈l,∀q∈a,o.gone=xy->q.gone=xy->o.target=q.target->o.size=q.size/\o.ptrs=q.ptrs):a=l:=by
 obtain⟨r,d,f⟩:=h.det h' (λ_ _=>rfl) (ZdL _) g (ZeQ _);rw[d,f.last,Zf5]
def Tiles.no_gone{ws:Z8}{a:Nat}{l:Zj}(h:Tiles ws xh a l):∀o∈l,o.gone=xh:=λo d=>by
 obtain⟨w,_,f⟩:=(h.stands o d).1.word;simp_all
def Tiles.uniq0{ws:Z8}{l d:Zj}(h:Tiles ws xh 0 l)(h':Tiles ws xh 0 d):d=l:=h.uniq h' λo f q g a=>by rw[h.no_gone o f]at a;cases a
section
variable {h:Hp}{p:Pts}
def Tld.low_at(t:Tld h p){o:Ob}(d:o∈p.low):0<=o.at_/\o.at_<P h.low:=by
 obtain⟨a,n,m,f,_,_,g,_⟩:=t.ob (k:=1) Z0 d;grind [Vz]
def Tiles.pairwise{ws:Z8}{old:Bool}:∀ {a:Nat} {l:Zj},Tiles ws old a l->l.Pairwise λx y=>x.at_<y.at_
 |_,[],_=>.nil
 |a,o::l,h=>by
  have f:=Yv.1 h.2.1.shape;refine .cons (λy d=> ?_) (Tiles.pairwise h.2.2);have:=(Tiles.stands h.2.2 y d).2;rw[h.1];omega
def Tiles.nil{old:Bool}{l:Zj}(h:Tiles [] old 0 l):l=[]:=Tiles.last (ws:=[]) h
def Rt.empty(r:Rt h p)(hc:h.cycle=xh):p.old=[]/\p.far=[]:=by
 obtain⟨_,f,g⟩:=r.rest hc;have a:=r.tiles 3 Z0;have d:=r.tiles 4 Z0;simp only[Kr,Ks,f,g]at a d;exact⟨a.nil,d.nil⟩
def Gos.odd(t:Tld h p){w i j:Int}(r:1<=i/\i<=4)(u:1<=j/\j<=4)(l:Gos h p w i j):w=0\/∃k,1<=k/\k<=4/\(k=i\/k=j)/\∃o∈p.at k,(adr w).2=0/\(adr w).1=fstL (Zu h) k+o.at_/\o.at_<YQ (Zu h) k/\0<=o.at_:=by
 obtain rfl|⟨k,o,g,f,rfl⟩:=l;omega;have d:1<=k/\k<=4:=by obtain rfl|rfl:=g<;>assumption
 obtain⟨a,n,m,q,_,_,x,_⟩:=t.ob d f;exact .inr ⟨k,d.1,d.2,g,o,f,by rw[t.adr d f],by rw[t.adr d f],by grind [UO],Z0⟩
end
end
section
section
variable {h:Hp}{p:Pts}
def Body.fwd_here(r:Body h p){k:Int}(d:1<=k/\k<=2){o:Ob}(f:o∈p.at k):Vm.fwd h (Y7 (Zu h) k o.at_)=(Y7 (Zu h) k o.at_,h,0):=by
 obtain⟨a,n,m,g,_,_,j,_⟩:=r.toTld.ob Z0 f;exact Vm.fwd_here r.lay d ⟨Z0,Z0⟩
def Body.fwd_gone(r:Body h p){k:Int}(q:3<=k/\k<=4){o:Ob}(g:o∈p.at k)(l:o.gone=xy):Vm.fwd h (Y7 (Zu h) k o.at_)=(2*o.target+1,h,0):=by
 obtain⟨a,n,m,f,_,_,t,_⟩:=r.toTld.ob Z0 g;obtain⟨u,j,d⟩:=((r.tiles k Z0).stands o g).1.word;rw[if_pos l]at d;rw[f,ZdW]at j;rw[f,Vm.fwd_gone r.lay q j d.2.1,NG d.2.1 d.2.2.symm]
def Body.fwd_wait(r:Body h p){k:Int}(t:3<=k/\k<=4){o:Ob}(f:o∈p.at k)(q:o.gone=xh){a n:Nat}(j:o.at_=a)(l:o.size=n):
  Vm.fwd h (Y7 (Zu h) k o.at_)=(Y7 (Zu h) 1 (P h.low),Yg h k a (n+1),0)/\((n+1:Nat):Int)<=Xo (Zu h):=by
 obtain⟨z,y,m,A,B,_,C,_⟩:=r.toTld.ob Z0 f;have:z=a:=Z0;subst this;have:y=n:=Z0;subst this;obtain⟨u,x,d⟩:=((r.tiles k Z0).stands o f).1.word;rw[if_neg (by simp[q])]at d;rw[j,ZdW]at x;have D:=r.room;have g:=Z7V t f;unfold WT at g;rw[q,l]at g;simp at g;have e:Xo (Zu h)=h.cap-P h.low-P h.high:=by unfold Xo;rw[if_pos r.lay];rfl
 have w:((y+1:Nat):Int)<=Xo (Zu h):=Z0;rw[j];exact⟨Vm.fwd_wait r.lay t x (d.1 (decide_eq_true Z0)) (by rw[d.2.1,l]) C w,w⟩
end
def Ao(h:Hp){k:Int}(d:3<=k/\k<=4)(a n:Nat):(Yg h k a n).low=h.low++((Zx h k).take (a+n)).drop a/\(Yg h k a n).high=h.high/\Zx (Yg h k a n) k=(zr (Zx h k) a n).set a (Y7 (Zu h) 1 (P h.low))/\Zx (Yg h k a n) (7-k)=Zx h (7-k)/\
  (Yg h k a n).roots=h.roots/\(Yg h k a n).scan=h.scan/\(Yg h k a n).cycle=h.cycle/\(Yg h k a n).cap=h.cap/\(Yg h k a n).base=h.base/\(Yg h k a n).to=h.to:=by
 have:k=3\/k=4:=Z0;obtain rfl|rfl:=this<;>exact⟨rfl,rfl,rfl,rfl,rfl,rfl,rfl,rfl,rfl,rfl⟩
end
section
def B3{h:Hp}{k j:Int}(n:1<=k/\k<=4)(g:1<=j/\j<=4)(l:Z8):Zx (Xi h k l) j=if j=k then l else Zx h j:=by
 have a:k=1\/k=2\/k=3\/k=4:=Z0;have f:j=1\/j=2\/j=3\/j=4:=Z0;obtain rfl|rfl|rfl|rfl:=a<;>obtain rfl|rfl|rfl|rfl:=f<;>rfl
def ZN(b:Bt)(i:Nat):Nd:=(b.g.nodes[i]?).getD default
def ZD(b:Bt)(i:Nat):Pl:=(b.here[i]?).getD ⟨0,0⟩
def Y2(b:Bt)(i:Nat):Pl:=(b.old[i]?).getD ⟨0,0⟩
def JR(n:Nd):Int:=(Uf ((P n.ptrs:Int)+P n.data) (P n.ptrs)).1
def XL(b:Bt)(p:Pl)(n:Nd)(tw:Int):List Int:=JR n::(XI b p p.at_.toNat n.ptrs tw++n.data)
def Vq(b:Bt)(p:Pl)(n:Nd):List Int:=YD b.h p::List.replicate (ZI n-1) 0
def YR(b:Bt)(x:Rw)(k:Int)(i:Nat):List Int:=
 if(ZD b i).part=k then XL b (ZD b i) (ZN b i) (IntKind.i64.wrap (x.slack+i))
 else if(Y2 b i).part=k then(if(ZD b i).part=0 then XL b (Y2 b i) (ZN b i) 0 else Vq b (ZD b i) (ZN b i))
 else []
def YZ(b:Bt)(x:Rw)(k:Int)(i:Nat):List Int:=(List.range i).flatMap (YR b x k)
theorem VP(b:Bt)(x:Rw)(k:Int)(i:Nat):YZ b x k (i+1)=YZ b x k i++YR b x k i:=by
 simp_all[YZ,Zg0,ZfH]
theorem Uc(b:Bt)(p:Pl)(n:Nd)(tw:Int):P (XL b p n tw)=ZI n:=by
 grind [XL,XI,ZI]
theorem Ru(b:Bt)(p:Pl)(n:Nd):P (Vq b p n)=ZI n:=by
 grind [Vq,ZI]
structure Placed (b:Bt) (x:Rw):Prop where
 ok:BOk b
 here:∀i,i<P b.g.nodes->(ZD b i=⟨0,0⟩/\∃k:Int,(k=3\/k=4)/\(Y2 b i).part=k)\/(((ZD b i).part=1\/(ZD b i).part=2)/\(ZD b i).at_=(P (YZ b x (ZD b i).part i):Nat))
 old:∀i,i<P b.g.nodes->Y2 b i=⟨0,0⟩\/(((Y2 b i).part=3\/(Y2 b i).part=4)/\(Y2 b i).at_=(P (YZ b x (Y2 b i).part i):Nat)/\(ZD b i).part≠2)
 zero:∀k:Int,1<=k/\k<=4->Zx b.h k=List.replicate (P (YZ b x k (P b.g.nodes))) 0
section
variable {b d:Bt}{x:Rw}
def BE(a:Like b d)(p:Pl):YD d.h p=YD b.h p:=by
 unfold YD;rw[a.lay]
theorem Z77(a:Like b d)(p:Pl)(to tw:Int):V4 d p to tw=V4 b p to tw:=by
 unfold V4;rw[a.here,a.old,a.scan,BE a,BE a]
def FZ(a:Like b d)(p:Pl)(n:Nd)(tw:Int):XL d p n tw=XL b p n tw:=by
 grind [XL,XI,Z77]
def A0{p:Pl}{a m:Nat}{n:Nd}{tw:Int}{F:Z8}(k:Zx d.h p.part=F++List.replicate m 0)(g:P F=a)(f:p.at_.toNat=a)(j:ZI n<=m):TJ d p a n tw=F++XL d p n tw++List.replicate (m-ZI n) 0:=by
 simp_all[TJ,List.replicate,ZI,ZgW,Zft,XL,JR]
def Z6N{F:Z8}{a m s:Nat}{w:Int}(f:P F=a)(j:1<=s)(h:s<=m):(F++List.replicate m (0:Int)).set a w=F++(w::List.replicate (s-1) 0)++List.replicate (m-s) 0:=by
 rw[<-f,ZhO _ _ (ZdL _),ZfE];obtain⟨m,rfl⟩:∃g,m=g+1:=⟨m-1,Z0⟩;rw[List.replicate_succ,List.set_cons_zero,Zew];congr 1;simp;omega
def JA(b:Bt)(x:Rw)(k:Int){i j:Nat}(h:i<=j):∃r,YZ b x k j=YZ b x k i++r:=by
 induction j with
 |zero=>simp_all
 |succ j f=>
  by_cases a:i=j+1;simp_all;grind [YR,VP,List.append_assoc]
def qy(b:Bt)(x:Rw)(i:Nat)(d:Bt):Prop:=∀k:Int,1<=k/\k<=4->Zx d.h k=YZ b x k i++List.replicate (P (YZ b x k (P b.g.nodes))- P (YZ b x k i)) 0
def BJ(b:Bt)(x:Rw)(k:Int){i:Nat}(a:i<P b.g.nodes):P (YZ b x k i)+P (YR b x k i)<=P (YZ b x k (P b.g.nodes)):=by
 obtain⟨r,f⟩:=JA b x k (Z0:i+1<=P b.g.nodes);grind [VP]
def Z0L(C:Placed b x){i:Nat}(G:i<xq b.g.nodes)(z:Like b d)(w:qy b x i d):qy b x (i+1) (Qt x d i):=by
 have R:(d.g.nodes[i]?).getD default=ZN b i:=by rw[z.g];rfl
 have T:(d.here[i]?).getD ⟨0,0⟩=ZD b i:=by rw[z.here];rfl
 have S:(d.old[i]?).getD ⟨0,0⟩=Y2 b i:=by rw[z.old];rfl
 unfold Qt;simp only[R,T,S];have W:=C.here i G;have O:=C.old i G;have r:=λk=>BJ b x k G;have j:∀k,YR b x k i=if(ZD b i).part=k then XL b (ZD b i) (ZN b i) (IntKind.i64.wrap (x.slack+i))else if(Y2 b i).part=k then(if(ZD b i).part=0 then XL b (Y2 b i) (ZN b i) 0 else Vq b (ZD b i) (ZN b i))else []:=λk=>rfl
 have P:=Uc b (ZD b i) (ZN b i) (IntKind.i64.wrap (x.slack+i));have Z:=Uc b (Y2 b i) (ZN b i) 0;have l3:=Ru b (ZD b i) (ZN b i);have M:=FZ z (ZD b i) (ZN b i) (IntKind.i64.wrap (x.slack+i));have Q:=FZ z (Y2 b i) (ZN b i) 0;generalize ZD b i=p at*;generalize Y2 b i=o at*;generalize ZN b i=n at*;have L:1<=ZI n:=by unfold ZI;omega
 obtain⟨rfl,ko,a,N⟩|⟨hp,U⟩:=W
 ·
  have I:(o.part=3\/o.part=4)/\o.at_=(xq (YZ b x o.part i):Nat):=by
   obtain rfl|⟨h1,h2,_⟩:=O;grind;omega
  have D:U7 x d i n ⟨0,0⟩=d:=by unfold U7;rw[if_neg Z1]
  have F:U8 d n ⟨0,0⟩ o=XX d o n 0:=by unfold U8;rw[if_pos ⟨Z0,rfl⟩]
  have A:∀q,VQ q ⟨0,0⟩ o=q:=λq=>by simp_all[VQ,if_neg]
  rw[D,F,A];intro k t;have l:YR b x o.part i=XL b o n 0:=by rw[j,if_neg ZcJ,if_pos rfl,if_pos rfl]
  have y:=r o.part;rw[l,Z]at y;unfold XX;simp only;rw[B3 Z0 t];by_cases a:k=o.part;rw[if_pos a,a,A0 (w o.part Z0) Z0 rfl Z0,VP,l,Q];grind;rw[if_neg a,VP,j k,if_neg ZcJ,if_neg (λh=>a h.symm),Zf5];exact w k t
 have J:¬p.part=0:=Z0;have D:U7 x d i n p=XX d p n (IntKind.i64.wrap (x.slack+i)):=by unfold U7;rw[if_pos Z0]
 have F:∀q,U8 q n p o=q:=λq=>by simp_all[U8,if_neg]
 rw[D,F];have B:YR b x p.part i=XL b p n (IntKind.i64.wrap (x.slack+i)):=by rw[j,if_pos rfl]
 have K:=r p.part;rw[B,P]at K;have u:∀k:Int,1<=k/\k<=4->Zx (XX d p n (IntKind.i64.wrap (x.slack+i))).h k=if k=p.part then YZ b x p.part (i+1)++List.replicate (xq (YZ b x p.part (xq b.g.nodes))- xq (YZ b x p.part (i+1))) 0 else Zx d.h k:=by
  intro k t;unfold XX;simp only;rw[B3 Z0 t];by_cases f:k=p.part;rw[if_pos f,if_pos f,A0 (w p.part Z0) Z0 rfl Z0,VP,B,M];grind;simp_all
 have H:YD (XX d p n (IntKind.i64.wrap (x.slack+i))).h p=YD b.h p:=by
  unfold YD;have:Zu (XX d p n (IntKind.i64.wrap (x.slack+i))).h=Zu b.h:=by
   rw[<-z.lay];unfold XX;simp only;refine CF ?_;rw[A0 (w p.part Z0) Z0 rfl Z0,w p.part Z0,M];simp[P];omega
  rw[this]
 generalize XX d p n (IntKind.i64.wrap (x.slack+i))=q at*;obtain rfl|⟨X,I,Y⟩:=O;have A:VQ q p ⟨0,0⟩=q:=by simp_all[VQ,if_neg]
 rw[A];intro k t;rw[u k t];by_cases f:k=p.part;simp_all;rw[if_neg f,VP,j k,if_neg (λh=>f h.symm),if_neg ZcJ,Zf5];exact w k t;have A:VQ q p o= {q with h:=Xi q.h o.part ((Zx q.h o.part).set o.at_.toNat (YD q.h p))}:=by unfold VQ;rw[if_pos ⟨Z0,Z0⟩]
 rw[A];have l:YR b x o.part i=Vq b p n:=by rw[j,if_neg Z0,if_pos rfl,if_neg J]
 have y:=r o.part;rw[l,l3]at y;intro k t;simp only;rw[B3 Z0 t,u o.part Z0,if_neg (Z0:¬o.part=p.part),w o.part Z0,H];by_cases a:k=o.part;rw[if_pos a,a,Z6N Z0 L Z0,VP,l];grind [Vq];rw[if_neg a,u k t];by_cases f:k=p.part;simp_all;rw[if_neg f,VP,j k,if_neg (λh=>f h.symm),if_neg (λh=>a h.symm),Zf5];exact w k t
def EA(a:Placed b x):∀i,i<=P b.g.nodes->qy b x i (VR x b i)
 |0,_=>by
  intro k f;rw[VR,a.zero k f];simp[YZ]
 |i+1,h=>by
  rw[VR];exact Z0L a Z0 (K4 a.ok i Z0) (EA a i Z0)
def Ez(a:Placed b x){k:Int}(f:1<=k/\k<=4):Zx (Yr x b) k=YZ b x k (P b.g.nodes):=by
 have h:=EA a (P b.g.nodes) (ZdL _) k f;rw[ZfE,List.replicate_zero,Zf5]at h;rw[<-h];rfl
end
end
section
def Rx(x:Rw)(c:Bool)(g:Gr)(i:Nat):Pl:=if WM x i c=0 then⟨2,(Y0 x c g i).n2⟩else if WM x i c=1 then⟨1,(Y0 x c g i).n1⟩else⟨0,0⟩
def QU(x:Rw)(c:Bool)(g:Gr)(i:Nat):Pl:=if(decide (0<WM x i c)&&c)=xy then(if Wj x i then⟨4,(Y0 x c g i).n4⟩else⟨3,(Y0 x c g i).n3⟩)else⟨0,0⟩
def Cb{x:Rw}{c:Bool}{g:Gr}(d:∀n∈g.nodes,ZI n<=9):∀j,j<=P g.nodes->∀i,i<j->(Y0 x c g j).here[i]?=xk (Rx x c g i)/\(Y0 x c g j).old[i]?=xk (QU x c g i)
 |0,_,i,f=>Z0
 |j+1,l,i,f=>by
  obtain⟨_,_,h,k⟩:=L3 (x:=x) (cycle:=c) d j Z0;rw[Y0];simp only[X2];by_cases a:i<j;have:=Cb (x:=x) (c:=c) d j Z0 i a;rw[Zea Z0,Zea Z0];exact this;have:i=j:=Z0;subst this;rw[Ze6 Z0,Ze6 Z0,h,k,ZfE];exact⟨rfl,rfl⟩
def nk(s:St8)(k:Int):Nat:=if k=1 then s.n1 else if k=2 then s.n2 else if k=3 then s.n3 else s.n4
section
variable {x:Rw}{c:Bool}
def Cm(x:Rw):∀n∈(ZS x.nodes x.roots).nodes,ZI n<=9:=λn d=>by
 obtain⟨_,_,a⟩:=Ai x.nodes x.roots;have:=a n d;unfold ZI;omega
def SZ(x:Rw)(c:Bool):(Ys x c).g=ZS x.nodes x.roots:=rfl
def JS{i:Nat}(a:i< (ZS x.nodes x.roots).nodes.length):ZD (Ys x c) i=Rx x c (ZS x.nodes x.roots) i:=by
 unfold ZD;show((Y0 x c (ZS x.nodes x.roots) (ZS x.nodes x.roots).nodes.length).here[i]?).getD _=_;rw[(Cb (Cm x) _ (ZdL _) i a).1];rfl
def zZ{i:Nat}(a:i< (ZS x.nodes x.roots).nodes.length):Y2 (Ys x c) i=QU x c (ZS x.nodes x.roots) i:=by
 unfold Y2;show((Y0 x c (ZS x.nodes x.roots) (ZS x.nodes x.roots).nodes.length).old[i]?).getD _=_;rw[(Cb (Cm x) _ (ZdL _) i a).2];rfl
def Lz:∀i,i<=(ZS x.nodes x.roots).nodes.length->∀k:Int,1<=k/\k<=4->P (YZ (Ys x c) x k i)=nk (Y0 x c (ZS x.nodes x.roots) i) k
 |0,_,k,f=>by simp[YZ,Y0,nk]
 |i+1,p,k,f=>by
  have o:=Lz i Z0 k f;rw[VP,Zes,o];have l:ZN (Ys x c) i=((ZS x.nodes x.roots).nodes[i]?).getD default:=rfl;unfold YR;rw[JS (Z0:i< (ZS x.nodes x.roots).nodes.length),zZ (Z0:i< (ZS x.nodes x.roots).nodes.length),l,Y0];generalize ((ZS x.nodes x.roots).nodes[i]?).getD default=n;have a:k=1\/k=2\/k=3\/k=4:=Z0;unfold Rx QU;generalize Y0 x c (ZS x.nodes x.roots) i=s;obtain g|h|⟨j,rfl⟩:=So x i c;obtain rfl|rfl|rfl|rfl:=a<;>simp[nk,X2,g,Uc];cases c<;>cases d:Wj x i<;>obtain rfl|rfl|rfl|rfl:=a<;>simp[nk,X2,h,d,Uc,Ru]
  cases d:Wj x i<;>obtain rfl|rfl|rfl|rfl:=a<;>simp[nk,X2,j,d,Uc,Ru]
def N0(hx:x.ok):Placed (Ys x c) x:=by
 refine⟨(L4 hx c).1,λi a=> ?_,λi a=> ?_,λk g=> ?_⟩;rw[SZ]at a;rw[JS a,zZ a];have d:=λk g=>Lz (x:=x) (c:=c) i Z0 k g;unfold Rx QU;obtain j|h|⟨f,rfl⟩:=So x i c;right;simp[j,d 2,nk];right;simp[h,d 1,nk];left;refine⟨by simp[f],?_⟩;cases n:Wj x i;exact⟨3,.inl rfl,by simp[f]⟩;exact⟨4,.inr rfl,by simp[f]⟩;rw[SZ]at a;rw[JS a,zZ a];have d:=λk g=>Lz (x:=x) (c:=c) i Z0 k g;unfold Rx QU;obtain j|h|⟨f,rfl⟩:=So x i c;left;simp[j];cases c;left;simp;right;cases n:Wj x i;simp[h,d 3,nk];simp[h,d 4,nk];right;cases n:Wj x i;simp[f,d 3,nk];simp[f,d 4,nk];rw[SZ,Lz _ (ZdL _) k g];have l:k=1\/k=2\/k=3\/k=4:=Z0;obtain rfl|rfl|rfl|rfl:=l<;>rfl
end
end
section
def MN(h:Hp){k:Int}(d:1<=k/\k<=4):YQ (Zu h) k=P (Zx h k):=by
 have a:k=1\/k=2\/k=3\/k=4:=Z0;obtain rfl|rfl|rfl|rfl:=a<;>rfl
def Z7L{s p:Int}(h:YJ s p=xy):ZP (Uf s p).1=(s,p,0):=by
 have a:=Yv.1 h;unfold Uf;rw[if_pos h];unfold ZP;grind
theorem Z2B(h:Hp)(p:Pl):Vv (YD h p)=xy:=by
 unfold YD Vv;split;rfl;unfold XG;split;rfl;rename_i a;unfold adr;grind
theorem Z2C(b:Bt)(p:Pl)(to tw:Int):Vv (V4 b p to tw)=xy:=by
 unfold V4;split;rfl;grind [Z2B]
def SY{gone:Bool}{ptrs:Int}:∀ {l:Z8} {i:Nat},(∀(j:Nat) (w:Int),l[j]?=xk w->(gone=xy->w=0)/\(((i+j:Nat):Int)<ptrs->Vv w=xy))->XJ l gone ptrs i=xy
 | [],_,_=>rfl
 |w::l,i,h=>by
  obtain⟨f,g⟩:=h 0 w rfl;have d:XJ l gone ptrs (i+1)=xy:=SY λj y a=>by
   have:=h (j+1) y a;grind
  rw[XJ,d];grind
theorem N2{b:Bt}{p:Pl}{n:Nd}{tw:Int}{F r:Z8}{old:Bool}(f:p.at_=(P F:Nat))(o:ZI n<=9):Stands (F++XL b p n tw++r) old ⟨p.at_,(P n.ptrs:Int)+P n.data,P n.ptrs,xh,0⟩:=by
 have a:YJ ((P n.ptrs:Int)+P n.data) (P n.ptrs)=xy:=by
  unfold ZI at o;exact Yv.2 Z0
 have d:(F++XL b p n tw++r)[P F]?=xk (JR n):=by
  rw[Zew,Ze6 (ZdL _),ZfE];rfl
 have t:=Z7L a;refine⟨ZcK,a,?_,?_,JR n,ZcK,?_⟩;grind [Uc,ZI,List.length_append];simp only[f,ZdW];have e:((F++XL b p n tw++r).drop (P F+1)).take ((P n.ptrs:Int)+P n.data).toNat=XI b p p.at_.toNat n.ptrs tw++n.data:=by
  have k:((P n.ptrs:Int)+P n.data).toNat=P (XI b p p.at_.toNat n.ptrs tw++n.data):=by simp[XI];omega
  rw[k,Zew,ZgW,Zft Z0,ZgA,ZeA];have l:(XL b p n tw++r).drop 1=(XI b p p.at_.toNat n.ptrs tw++n.data)++r:=rfl;rw[l,ZgM]
 rw[e];refine SY λj w d=>⟨Z1,λg=> ?_⟩;have h:j<P n.ptrs:=by simpa using g
 rw[Zea (by simp_all[XI])]at d;simp only[XI,Ze1,ZdI]at d;obtain⟨q,_,rfl⟩:=d;grind [Z2C];simp_all[ZdZ,Zeu,OC,JR,trivial]
def Z7m{b:Bt}{p o:Pl}{n:Nd}{F r:Z8}(a:o.at_=(P F:Nat))(q:ZI n<=9)(l:(adr (YD b.h p)).2=0):Stands (F++Vq b p n++r) xy ⟨o.at_,(P n.ptrs:Int)+P n.data,P n.ptrs,xy,(adr (YD b.h p)).1⟩:=by
 have d:YJ ((P n.ptrs:Int)+P n.data) (P n.ptrs)=xy:=by
  unfold ZI at q;exact Yv.2 Z0
 have f:(F++Vq b p n++r)[P F]?=xk (YD b.h p):=by
  rw[Zew,Ze6 (ZdL _),ZfE];rfl
 refine⟨by show 0<=o.at_;omega,d,?_,?_,_,by rw[a];simpa using f,?_⟩;have:=Ru b p n;unfold ZI at this;simp only[Zes,this,a];omega;simp only[a,ZdW];have e:((F++Vq b p n++r).drop (P F+1)).take ((P n.ptrs:Int)+P n.data).toNat=List.replicate (ZI n-1) 0:=by
  have g:((P n.ptrs:Int)+P n.data).toNat=P (List.replicate (ZI n-1) (0:Int)):=by simp[ZI];omega
  rw[g,Zew,ZgW,Zft Z0,ZgA,ZeA];have k:(Vq b p n++r).drop 1=List.replicate (ZI n-1) 0++r:=rfl;rw[k,ZgM]
 rw[e];refine SY λj w f=> ?_;have:=(List.mem_replicate.1 (ZdO f)).2;subst this;exact⟨λ_=>rfl,λ_=>rfl⟩;simp only[Zer];exact⟨trivial,l,trivial⟩
def Xa(b:Bt)(k:Int)(i:Nat):List Ob:=
 if(ZD b i).part=k then [⟨(ZD b i).at_,((ZN b i).ptrs.length:Int)+(ZN b i).data.length,(ZN b i).ptrs.length,xh,0⟩]
 else if(Y2 b i).part=k then(if(ZD b i).part=0 then [⟨(Y2 b i).at_,((ZN b i).ptrs.length:Int)+(ZN b i).data.length,(ZN b i).ptrs.length,xh,0⟩]
  else [⟨(Y2 b i).at_,((ZN b i).ptrs.length:Int)+(ZN b i).data.length,(ZN b i).ptrs.length,xy,(adr (YD b.h (ZD b i))).1⟩])
 else []
def obs(b:Bt)(k:Int):List Ob:=(List.range (P b.g.nodes)).flatMap (Xa b k)
section
variable {b:Bt}{x:Rw}
def Placed.nine(a:Placed b x)(d:∀n∈b.g.nodes,ZI n<=9){i:Nat}(f:i<P b.g.nodes):ZI (ZN b i)<=9:=by
 simp_all[ZN,ZdG,Ze0]
def Placed.len(a:Placed b x){k:Int}(d:1<=k/\k<=4):YQ (Zu b.h) k=(P (YZ b x k (P b.g.nodes)):Nat):=by
 rw[MN b.h d,a.zero k d];simp
def Placed.here_in(a:Placed b x){i:Nat}(f:i<P b.g.nodes)(k:(ZD b i).part≠0):((ZD b i).part=1\/(ZD b i).part=2)/\(ZD b i).at_=(P (YZ b x (ZD b i).part i):Nat)/\(ZD b i).at_+ZI (ZN b i)<=YQ (Zu b.h) (ZD b i).part:=by
 obtain⟨h,_⟩|⟨j,d⟩:=a.here i f;simp_all;refine⟨j,d,?_⟩;have:=BJ b x (ZD b i).part f;rw[a.len Z0,d];have e:YR b x (ZD b i).part i=XL b (ZD b i) (ZN b i) (IntKind.i64.wrap (x.slack+i)):=by unfold YR;rw[if_pos rfl]
 grind [Uc]
def Placed.old_in(a:Placed b x){i:Nat}(d:i<P b.g.nodes)(o:(Y2 b i).part≠0):((Y2 b i).part=3\/(Y2 b i).part=4)/\(Y2 b i).at_=(P (YZ b x (Y2 b i).part i):Nat)/\(ZD b i).part≠2/\(Y2 b i).at_+ZI (ZN b i)<=YQ (Zu b.h) (Y2 b i).part:=by
 obtain h|⟨k,f,l⟩:=a.old i d;simp_all;refine⟨k,f,l,?_⟩;have:=BJ b x (Y2 b i).part d;rw[a.len Z0,f];have n:(ZD b i).part=0\/(ZD b i).part=1:=by
  by_cases j:(ZD b i).part=0;omega;have:=(a.here_in d j).1;omega
 have e:P (YR b x (Y2 b i).part i)=ZI (ZN b i):=by
  unfold YR;rw[if_neg Z0,if_pos rfl];split;grind [Uc];exact Ru _ _ _
 omega
def Placed.ref_here(a:Placed b x)(f:ZH (Zu b.h)=xy){i:Nat}(j:i<P b.g.nodes)(d:(ZD b i).part≠0):YD b.h (ZD b i)=Y7 (Zu b.h) (ZD b i).part (ZD b i).at_:=by
 obtain⟨k,l,n⟩:=a.here_in j d;have o:1<=ZI (ZN b i):=by grind [ZI]
 unfold YD;rw[if_neg d,R8 f Z0 ⟨Z0,Z0⟩];have:=WN f (ZD b i).part;unfold XG Y7;grind
def Placed.ref_old(a:Placed b x)(f:ZH (Zu b.h)=xy){i:Nat}(j:i<P b.g.nodes)(d:(Y2 b i).part≠0):YD b.h (Y2 b i)=Y7 (Zu b.h) (Y2 b i).part (Y2 b i).at_:=by
 obtain⟨k,l,_,n⟩:=a.old_in j d;have o:1<=ZI (ZN b i):=by grind [ZI]
 unfold YD;rw[if_neg d,R8 f Z0 ⟨Z0,Z0⟩];have:=WN f (Y2 b i).part;unfold XG Y7;grind
def H3(a:Placed b x)(z:ZH (Zu b.h)=xy)(C:∀n∈b.g.nodes,ZI n<=9){k:Int}(F:1<=k/\k<=4):∀(m i:Nat),i+m=P b.g.nodes->Tiles (YZ b x k (P b.g.nodes)) (decide (2<k)) (P (YZ b x k i)) ((List.range' i m).flatMap (Xa b k))
 |0,i,D=>by
  have:i=P b.g.nodes:=Z0;subst this;exact ZdL _
 |m+1,i,D=>by
  have t:=H3 a z C F m (i+1) Z0;have d:i<P b.g.nodes:=Z0;have w:=a.nine C d;obtain⟨r,A⟩:=JA b x k (Z0:i+1<=P b.g.nodes);rw[List.range'_succ,Zhp];have B:=VP b x k i;by_cases f:(ZD b i).part=k;have u:YR b x k i=XL b (ZD b i) (ZN b i) (IntKind.i64.wrap (x.slack+i)):=by unfold YR;rw[if_pos f]
  have q:Xa b k i=[⟨(ZD b i).at_,((ZN b i).ptrs.length:Int)+(ZN b i).data.length,(ZN b i).ptrs.length,xh,0⟩]:=by unfold Xa;rw[if_pos f]
  obtain⟨_,j,_⟩:=a.here_in d Z0;rw[f]at j;rw[q];refine⟨j,?_,?_⟩;grind [N2];rw[B,u,Zes,Uc]at t;have:(((ZN b i).ptrs.length:Int)+(ZN b i).data.length).toNat=ZI (ZN b i) -1:=by grind [ZI]
  simp only[this];rw[show P (YZ b x k i)+1+(ZI (ZN b i) -1)=P (YZ b x k i)+ZI (ZN b i)by grind [ZI]];exact t;by_cases l:(Y2 b i).part=k;obtain⟨G,j,H,I⟩:=a.old_in d Z0;have y:2<k:=Z0;rw[l]at j;have p:P (YZ b x k (i+1))=P (YZ b x k i)+1+(((ZN b i).ptrs.length:Int)+(ZN b i).data.length).toNat:=by
   have e:P (YR b x k i)=ZI (ZN b i):=by
    unfold YR;rw[if_neg f,if_pos l];split;grind [Uc];exact Ru _ _ _
   rw[B,Zes,e];unfold ZI;omega
  rw[p]at t;by_cases o:(ZD b i).part=0;have u:YR b x k i=XL b (Y2 b i) (ZN b i) 0:=by unfold YR;rw[if_neg f,if_pos l,if_pos o]
  have q:Xa b k i=[⟨(Y2 b i).at_,((ZN b i).ptrs.length:Int)+(ZN b i).data.length,(ZN b i).ptrs.length,xh,0⟩]:=by unfold Xa;rw[if_neg f,if_pos l,if_pos o]
  rw[q];refine⟨j,?_,t⟩;grind [N2];have u:YR b x k i=Vq b (ZD b i) (ZN b i):=by unfold YR;rw[if_neg f,if_pos l,if_neg o]
  have q:Xa b k i=[⟨(Y2 b i).at_,((ZN b i).ptrs.length:Int)+(ZN b i).data.length,(ZN b i).ptrs.length,xy,(adr (YD b.h (ZD b i))).1⟩]:=by unfold Xa;rw[if_neg f,if_pos l,if_neg o]
  rw[q];refine⟨j,?_,t⟩;rw[A,B,u,decide_eq_true y];refine Z7m j w ?_;obtain⟨J,K,_⟩:=a.here_in d o;rw[a.ref_here z d o,U3 z Z0];simp_all[YR,if_neg,Xa,ZeA,Zf5]
def Z3X(a:Placed b x)(j:ZH (Zu b.h)=xy)(f:∀n∈b.g.nodes,ZI n<=9){k:Int}(d:1<=k/\k<=4):Tiles (Zx (Yr x b) k) (decide (2<k)) 0 (obs b k):=by
 rw[Ez a d];have:=H3 a j f d (P b.g.nodes) 0 Z0;unfold obs;rw[List.range_eq_range'];exact this
def QM{k:Int}{o:Ob}:o∈obs b k↔ ∃i,i<P b.g.nodes/\o∈Xa b k i:=by
 grind [obs]
end
end
section
def L2{gone:Bool}{ptrs:Int}:∀ {l:Z8} {i:Nat},XJ l gone ptrs i=xy->∀(j:Nat) (w:Int),l[j]?=xk w->(gone=xy->w=0)/\(((i+j:Nat):Int)<ptrs->Vv w=xy)
 | [],_,_,j,w,a=>by simp at a
 |y::l,i,d,j,w,a=>by
  simp only[XJ,ZdJ]at d;cases j with
  |zero=>
   simp at a;subst a;obtain⟨⟨f,k⟩,_⟩:=d;refine⟨λn=> ?_,λo=> ?_⟩;rw[n]at f;simpa using f;simpa[show(i:Int)<ptrs by omega]using k
  |succ j=>
   have:=L2 d.2 j w (by simpa using a);rw[show i+1+j=i+(j+1)by omega]at this;exact this
def Stands.congr{ws a:Z8}{old:Bool}{o:Ob}(s:Stands ws old o)(q:P a=P ws)(l:a[o.at_.toNat]?=ws[o.at_.toNat]?)
  (k:∀j:Nat,(j:Int)<o.size->a[o.at_.toNat+1+j]?=ws[o.at_.toNat+1+j]? \/(o.gone=xh/\o.ptrs<=j)):Stands a old o:=by
 refine⟨s.nat,s.shape,by rw[q];exact s.fits,SY λj w f=> ?_,by rw[l];exact s.word⟩;have d:j<o.size.toNat:=by
  have:=(ZdH.1 f).1;simp at this;omega
 rw[Zex d,Ze9]at f;obtain k|⟨n,r⟩:=k j Z0;rw[k]at f;refine L2 s.slots j w ?_;rw[Zex d,Ze9];exact f;exact⟨λh=>(by rw[n]at h;cases h),λh=>Z0⟩
def Tiles.congr{ws d:Z8}{old:Bool}:∀ {a:Nat} {l:Zj},Tiles ws old a l->P d=P ws->(∀o∈l,Stands d old o)->Tiles d old a l
 |a,[],h,f,_=>by show P d<=a;rw[f];exact h
 |a,o::l,h,f,j=>⟨h.1,j o (.head _),Tiles.congr h.2.2 f λx k=>j x (.tail _ k)⟩
section
variable {h g:Hp}{p:Pts}
def CV(a:Zu g=Zu h){w i j:Int}:Gos g p w i j↔Gos h p w i j:=by
 unfold Gos;rw[a]
def Tiles.place{ws:Z8}{old:Bool}:∀ {a:Nat} {l:Zj},Tiles ws old a l->∀ {i:Nat} {o:Ob},l[i]?=xk o->o.at_=((a+Um (l.take i):Nat):Int)
 |_,[],_,i,o,d=>Zdn
 |a,x::l,f,0,o,d=>by simp at d;subst d;rw[f.1];simp[Um]
 |a,x::l,f,i+1,o,d=>by
  have:=f.2.2.place (i:=i) (o:=o) ZcW;rw[this];simp[Um];omega
def Z7y{l:Zj}{i:Nat}{o:Ob}(a:l[i]?=xk o):Um (l.take (i+1))=Um (l.take i)+(1+o.size.toNat):=by
 unfold Um;rw[ZeI,a,Zf6,List.sum_append];simp
end
end
section
def NX{ws:Z8}{a:Nat}:∀ {n j:Nat},j<n->a+n<=P ws->(zr ws a n)[a+j]?=xk 0
 |0,_,h,_=>Z0
 |n+1,j,h,d=>by
  rw[zr];by_cases e:j=n;subst e;rw[Zfe (by rw[qu];omega)];rw[ZeS Z0];exact NX Z0 Z0
def Stands.app{ws r:Z8}{old:Bool}{o:Ob}(s:Stands ws old o):Stands (ws++r) old o:=by
 have l:=Yv.1 s.shape;have g:=s.fits;have k:=s.nat;have f:(ws++r)[o.at_.toNat]?=ws[o.at_.toNat]? :=Zea Z0;refine⟨s.nat,s.shape,ZcL,SY λj w d=> ?_,by rw[f];exact s.word⟩;have a:j<o.size.toNat:=by
  have:=(ZdH.1 d).1;simp at this;omega
 rw[Zex a,Ze9,Zea Z0]at d;refine L2 s.slots j w ?_;simp_all
def Tiles.append{ws r:Z8}{old:Bool}:∀ {a:Nat} {l d:Zj},Tiles ws old a l->a<=P ws->Tiles (ws++r) old (P ws) d->Tiles (ws++r) old a (l++d)
 |a,[],d,h,g,f=>by
  have:P ws<=a:=h;have:a=P ws:=Z0;subst this;exact f
 |a,o::l,d,h,g,f=>by
  have k:=Yv.1 h.2.1.shape;have j:=h.2.1.fits;have e:=h.1;exact⟨h.1,h.2.1.app,Tiles.append h.2.2 Z0 f⟩
theorem Tiles.map{ws d:Z8}{old:Bool}{f:Ob->Ob}(g:∀o,(f o).at_=o.at_/\(f o).size=o.size)(j:P d=P ws):∀ {a:Nat} {l:Zj},Tiles ws old a l->(∀o∈l,Stands d old (f o))->Tiles d old a (l.map f)
 |a,[],h,_=>by show P d<=a;rw[j];exact h
 |a,o::l,h,k=>⟨by rw[(g o).1];exact h.1,k o (.head _),by rw[(g o).2];exact Tiles.map g j h.2.2 λx n=>k x (.tail _ n)⟩
def WO(a t:Int)(q:Ob):Ob:=if q.at_=a then {q with gone:=xy,target:=t}else q
theorem QB(a t:Int)(q:Ob):(WO a t q).at_=q.at_/\(WO a t q).size=q.size/\(WO a t q).ptrs=q.ptrs:=by
 unfold WO;grind
theorem Tb{a t:Int}{q:Ob}(h:q.at_≠a):WO a t q=q:=if_neg h
theorem Uy{a t:Int}{q:Ob}(h:q.at_=a):WO a t q= {q with gone:=xy,target:=t}:=if_pos h
def Pts.mv(p:Pts)(k:Int)(o:Ob)(L:Nat)(t:Int):Pts:=⟨p.low++[⟨L,o.size,o.ptrs,xh,0⟩],p.high,if k=3 then p.old.map (WO o.at_ t)else p.old,if k=3 then p.far else p.far.map (WO o.at_ t)⟩
section
variable {h:Hp}{p:Pts}
def K9{k:Int}(a:3<=k/\k<=4)(o:Ob)(L:Nat)(t:Int):(p.mv k o L t).at 1=p.low++[⟨L,o.size,o.ptrs,xh,0⟩]/\(p.mv k o L t).at 2=p.high/\(p.mv k o L t).at k=(p.at k).map (WO o.at_ t)/\(p.mv k o L t).at (7-k)=p.at (7-k):=by
 have:k=3\/k=4:=Z0;obtain rfl|rfl:=this<;>exact⟨rfl,rfl,rfl,rfl⟩
def Z3z{k:Int}(d:3<=k/\k<=4){o:Ob}{L:Nat}{t:Int}{j:Int}(w:1<=j/\j<=4){q:Ob}(x:q∈p.at j):∃a∈(p.mv k o L t).at j,a.at_=q.at_/\a.size=q.size/\a.ptrs=q.ptrs/\(a.gone=xh->a=q)/\(j<3->a=q):=by
 obtain⟨l,n,r,u⟩:=K9 (p:=p) d o L t;by_cases f:j=1;subst f;exact⟨q,ZcK,rfl,rfl,rfl,λ_=>rfl,λ_=>rfl⟩;by_cases g:j=2;subst g;exact⟨q,ZcK,rfl,rfl,rfl,λ_=>rfl,λ_=>rfl⟩;by_cases y:j=k;grind [WO,List.mem_map_of_mem,QB,Uy,Tb];grind
def Z3y{g:Hp}{k:Int}(f:3<=k/\k<=4){o:Ob}{L:Nat}{t:Int}(r:∀j b,Y7 (Zu g) j b=Y7 (Zu h) j b){w i j:Int}(x:1<=i/\i<=4)(y:1<=j/\j<=4)(d:Gos h p w i j):Gos g (p.mv k o L t) w i j:=by
 obtain rfl|⟨m,q,l,n,rfl⟩:=d;exact .inl rfl;obtain⟨u,a,e,_⟩:=Z3z (p:=p) f (o:=o) (L:=L) (t:=t) (j:=m) Z0 n;exact .inr ⟨m,u,l,a,by rw[r,e]⟩
def NS{l:Zj}{o:Ob}{t:Int}(d:l.Pairwise λx y=>x.at_<y.at_)(a:o∈l)(j:o.gone=xh):Yx (l.map (WO o.at_ t))+(1+o.size.toNat)=Yx l:=by
 induction l with
 |nil=>simp at a
 |cons x l g=>
  rw[Zhg]at d;simp only[Yx,Zee,List.sum_cons]at g⊢;obtain rfl|a:=Ze3.1 a
  .have:l.map (WO o.at_ t)=l:=by
    conv=>rhs;rw[<-List.map_id l]
    refine Zfv λy f=>Tb ?_;have:=d.1 y f;omega
   rw[this,Uy rfl];grind [WT]
  grind [Tb]
def Body.move(r:Body h p)(b5:h.scan<=xq h.low){k:Int}(G:3<=k/\k<=4){o:Ob}(N:o∈p.at k)(Y:o.gone=xh){a n:Nat}(X:o.at_=a)(L:o.size=n):
  Body (Yg h k a (n+1)) (p.mv k o (xq h.low) (fstL (Zu h) 1+xq h.low)):=by
 obtain⟨B,D,m,a6,a8,em,I,b2,b1⟩:=r.toTld.ob (k:=k) Z0 N;have:B=a:=Z0;subst this;have:D=n:=Z0;subst this;obtain⟨_,hm⟩:=r.fwd_wait G N Y X L;obtain⟨m1,m2,m3,m4,m5,m6,m7,m8,m9,b7⟩:=Ao h G B (D+1);have W:=Am G (g:=h) I;have mr:=Z3s r.lay G I hm;have hr:=Z5N G I;have hw:∀ {j:Int} {b:Nat},3<=j/\j<=4->(j≠k\/b<B\/B+(D+1)<=b)->(Zx (Yg h k B (D+1)) j)[b]?=(Zx h j)[b]? :=λC hb=>Ap G Z0 C hb;have M:∀ {j:Int},3<=j/\j<=4->xq (Zx (Yg h k B (D+1)) j)=xq (Zx h j):=λC=>An G C;have P:fstL (Zu (Yg h k B (D+1))) 1=fstL (Zu h) 1:=by rw[W];rfl
 have T:∀i,i<D+1->(((Zx h k).take (B+(D+1))).drop B)[i]?=(Zx h k)[B+i]? :=λi z=>by
  simp_all
 have a3:xq (((Zx h k).take (B+(D+1))).drop B)=D+1:=ZcL;obtain⟨e1,e2,e3,e4⟩:=K9 (p:=p) G o (xq h.low) (fstL (Zu h) 1+xq h.low);have H:=((r.tiles k Z0).stands o N).1;obtain⟨u,hu,hc⟩:=H.word;rw[if_neg (by simp[Y])]at hc;rw[X,ZdW]at hu;generalize b0:Yg h k B (D+1)=g at*;generalize a5:((Zx h k).take (B+(D+1))).drop B=ws at*;have a0:∀q∈p.at k,q.at_≠o.at_->∀i:Nat,(i:Int)<=q.size->q.at_.toNat+i<B\/B+(D+1)<=q.at_.toNat+i:=by
  intro q d Q i z;obtain⟨b,l,_,eb,el,_⟩:=r.toTld.ob (k:=k) Z0 d;rcases(r.tiles k Z0).apart q d o N with e|e|e;simp_all;left;omega;omega
 have F:∀q∈p.at k,q.at_≠o.at_->∀i:Nat,(i:Int)<=q.size->(Zx g k)[q.at_.toNat+i]?=(Zx h k)[q.at_.toNat+i]? :=λq d Q i z=>hw G (.inr (a0 q d Q i z));have Z:∀b,(Zx g (7-k))[b]?=(Zx h (7-k))[b]? :=λb=>hw Z0 (.inl Z0);have R:Stands (h.low++ws) xh ⟨xq h.low,o.size,o.ptrs,xh,0⟩:=by
  refine⟨Z1,H.shape,ZcL,SY λj w C=>⟨Z1,λS=> ?_⟩,u,?_,?_⟩;have J:j<D:=by
   have:=(ZdH.1 C).1;simp[L]at this;omega
  simp only[L,ZdW]at C;rw[Zex J,Ze9,Ze6 Z0,show xq h.low+1+j-xq h.low=1+j by omega,T _ Z0]at C;refine(L2 H.slots j w ?_).2 S;rw[X,L,ZdW,ZdW,Zex J,Ze9,<-C,ZeZ];simp only[ZdW];grind;grind
 have a4:=WN r.lay 1;refine⟨⟨mr,λj C=> ?_⟩,λj C q d A=> ?_,λj C q d A i z w f=> ?_,?_⟩;by_cases j1:j=1;subst j1;rw[e1];simp only[Vz,m1];exact(r.tiles 1 Z0).append (ZeQ _) ⟨rfl,R,by show xq (h.low++ws)<=_;simp[L,a3];omega⟩;by_cases j2:j=2;subst j2;rw[e2];simp only[yo,m2];exact r.tiles 2 Z0;by_cases U:j=k;subst U;rw[e3];refine(r.tiles j Z0).map (λq=>⟨(QB _ _ q).1,(QB _ _ q).2.1⟩) (M G) λq d=> ?_;by_cases e:q.at_=o.at_;have:q=o:=r.toTld.same_at Z0 N d e;subst this;rw[Uy rfl];refine⟨H.nat,H.shape,ZcJ,SY λi w z=> ?_,Y7 (Zu h) 1 (xq h.low),?_,?_⟩;have J:i<D:=by
  have:=(ZdH.1 z).1;simp[L]at this;omega
 simp only[X,L,ZdW]at z;rw[Zex J,Ze9,m3,ZeS Z0,ZeZ,NX Z0 I]at z;cases z;exact⟨λ_=>rfl,λ_=>rfl⟩;grind [Int.toNat_natCast,List.getElem?_set_self,qu];simp only[Zer];rw[U3 r.lay Z0];grind;rw[Tb e];refine((r.tiles j Z0).stands q d).1.congr (M G) (by simpa using F q d e 0 (by have:=Yv.1 ((r.tiles j Z0).stands q d).1.shape;omega)) λi z=>.inl ?_;rw[ZeZ];exact F q d e (1+i) Z0;have:j=7-k:=Z0;subst this;rw[e4,m4];exact r.tiles (7-k) Z0;by_cases U:j=k;subst U;rw[e3,ZdX]at d;obtain⟨x,O,rfl⟩:=d;by_cases e:x.at_=o.at_;have:x=o:=r.toTld.same_at Z0 N O e;subst this;rw[Uy rfl];exact⟨_,Zgf _ (.head _),by rw[P],rfl,rfl⟩;rw[Tb e]at A⊢;obtain⟨y,hy,y1,y2,y3⟩:=r.gone j C x O A;exact⟨y,ZeV _ hy,Z0,y2,y3⟩;have:j=7-k:=Z0;subst this;rw[e4]at d;obtain⟨y,hy,y1,y2,y3⟩:=r.gone _ C q d A;exact⟨y,ZeV _ hy,Z0,y2,y3⟩;have a9:∀ {w i j:Int},1<=i/\i<=4->1<=j/\j<=4->Gos h p w i j->Gos g (p.mv k o (xq h.low) (fstL (Zu h) 1+xq h.low)) w i j:=λz C=>Z3y G hr z C;have K:∀ {j:Int} {i:Nat} {w:Int},Wh h p j i w->Wh g (p.mv k o (xq h.low) (fstL (Zu h) 1+xq h.low)) j i w:=λ{j i w} S=>by
  unfold Wh at S⊢;rw[m6];by_cases c1:2<j;grind;rw[if_neg c1]at S⊢;by_cases c2:j=1/\h.scan<=i;grind;rw[if_neg c2]at S⊢;grind
 by_cases j1:j=1;subst j1;rw[e1]at d;obtain d|d:=Ze8.1 d;obtain⟨b,l,l',eb,el,a7,a1,_⟩:=r.toTld.ob (k:=1) Z0 d;simp only[Vz]at a1 f;rw[m1,Zea Z0]at f;exact K (r.ptr 1 Z0 q d A i z w f);simp at d;subst d;simp only at z f⊢;simp only[ZdW,Vz,m1]at f⊢;rw[Ze6 Z0,show xq h.low+1+i-xq h.low=1+i by omega,T _ Z0]at f;have:=r.ptr k Z0 o N Y i z w (by grind [Int.toNat_natCast,Nat.add_assoc]);unfold Wh at this⊢;rw[if_pos Z0]at this;rw[if_neg Z0,if_pos ⟨rfl,Z0⟩];grind;by_cases j2:j=2;subst j2;rw[e2]at d;simp only[yo,m2]at f;exact K (r.ptr 2 Z0 q d A i z w f);by_cases U:j=k;subst U;rw[e3,ZdX]at d;obtain⟨x,O,rfl⟩:=d;by_cases e:x.at_=o.at_;grind [Uy];rw[Tb e]at A z f⊢;have b3:=(Yv.1 ((r.tiles j Z0).stands x O).1.shape).2.2.2;rw[ZeZ,F x O e (1+i) Z0,<-ZeZ]at f;exact K (r.ptr j C x O A i z w f);have:j=7-k:=Z0;subst this;rw[e4]at d;rw[m4]at f;exact K (r.ptr _ C q d A i z w f);have b4:=r.room;have b6:Wt (p.mv k o (xq h.low) (fstL (Zu h) 1+xq h.low))+(1+D)=Wt p:=by
  have h1:=(r.tiles k Z0).pairwise;have:=NS (t:=fstL (Zu h) 1+xq h.low) h1 N Y;rw[L,ZdW]at this;unfold Wt;have a2:k=3\/k=4:=Z0;obtain rfl|rfl:=a2;simp only[Pts.at3]at this;simp only[Pts.mv,Zer];omega;simp only[Pts.at4]at this;simp only[Pts.mv,show ¬(4:Int)=3 by omega,Zeu];omega
 grind
end
end
section
def Sh(h:Hp)(p:Pts):Prop:=∀o∈p.low,UQ p (fstL (Zu h) 1+o.at_)=1
section
variable {h g:Hp}{p q:Pts}
def Z7B{l:Zj}{o:Ob}{t b:Int}(d:l.Pairwise λx y=>x.at_<y.at_)(a:o∈l)(j:o.gone=xh):Xw (l.map (WO o.at_ t)) b=Xw l b+if t=b then 1 else 0:=by
 induction l with
 |nil=>simp at a
 |cons x l k=>
  rw[Zhg]at d;have e:∀(y:Ob) (r:Zj),Xw (y::r) b=(if y.gone=xy/\y.target=b then 1 else 0)+Xw r b:=λy r=>by
   unfold Xw;grind
  rw[Zee,e,e];obtain rfl|a:=Ze3.1 a
  .have:l.map (WO o.at_ t)=l:=by
    conv=>rhs;rw[<-List.map_id l]
    refine Zfv λy f=>Tb ?_;have:=d.1 y f;omega
   rw[this,Uy rfl];grind
  grind [Tb]
def Z7C(r:Body h p){b:Int}(t:P h.low<=b):UQ p (fstL (Zu h) 1+b)=0:=by
 have key:∀k:Int,3<=k/\k<=4->Xw (p.at k) (fstL (Zu h) 1+b)=0:=λk d=>by
  unfold Xw;rw[ZfB,ZgH];intro o f a;simp only[ZdJ,Ze2]at a;obtain⟨y,j,e,_⟩:=r.gone k d o f a.1;have:=r.toTld.low_at j;omega
 have l:=key 3 Z0;have n:=key 4 Z0;simp_all[Pts.at3,Pts.at4,UQ]
def Z7A(r:Body h p){k:Int}(l:3<=k/\k<=4){o:Ob}(j:o∈p.at k)(f:o.gone=xh){L:Nat}{t b:Int}:UQ (p.mv k o L t) b=UQ p b+if t=b then 1 else 0:=by
 have d:=Z7B (t:=t) (b:=b) (r.tiles k Z0).pairwise j f;unfold UQ;have a:k=3\/k=4:=Z0;obtain rfl|rfl:=a;simp only[Pts.at3]at d;simp only[Pts.mv,Zer];omega;simp only[Pts.at4]at d;simp only[Pts.mv,show ¬(4:Int)=3 by omega,Zeu];omega
structure Ext (h:Hp) (p:Pts) (g:Hp) (q:Pts):Prop where
 low:∃ws,g.low=h.low++ws
 high:g.high=h.high
 base:g.base=h.base
 cap:g.cap=h.cap
 tos:g.to=h.to
 cycle:g.cycle=h.cycle
 scan:g.scan=h.scan
 roots:g.roots=h.roots
 oldL:P g.old=P h.old
 farL:P g.far=P h.far
 obsL:∃r,q.low=p.low++r
 obsH:q.high=p.high
 obsO:∀k:Int,3<=k/\k<=4->(q.at k).map (λo=>(o.at_,o.size,o.ptrs))=(p.at k).map (λo=>(o.at_,o.size,o.ptrs))
 gone:∀k:Int,3<=k/\k<=4->∀(i:Nat) (o o':Ob),(p.at k)[i]?=xk o->(q.at k)[i]?=xk o'->(o.gone=xy->o'=o)/\(o'.gone=xh->o'=o/\∀j:Nat,(j:Int)<=o.size->(Zx g k)[o.at_.toNat+j]?=(Zx h k)[o.at_.toNat+j]?)
 room:(P g.low:Int)+Wt q=P h.low+Wt p
def Ext.refl(h:Hp)(p:Pts):Ext h p h p:=
 ⟨⟨[],Z1⟩,rfl,rfl,rfl,rfl,rfl,rfl,rfl,rfl,rfl,⟨[],Z1⟩,rfl,λ_ _=>rfl,λk f i o j a d=>ZcK,rfl⟩
def Ext.fst(e:Ext h p g q)(k a:Int)(d:k=1\/k=3\/k=4\/k=2):Y7 (Zu g) k a=Y7 (Zu h) k a:=by
 unfold Y7 fstL Zu;simp only[e.base,e.cap,e.tos,e.high,e.farL]
def Ext.mem(e:Ext h p g q){j:Int}(l:1<=j/\j<=4){o:Ob}(f:o∈p.at j):∃a∈q.at j,a.at_=o.at_/\a.size=o.size/\a.ptrs=o.ptrs:=by
 have d:j=1\/j=2\/j=3\/j=4:=Z0;obtain rfl|rfl|k:=d;obtain⟨r,n⟩:=e.obsL;exact⟨o,ZcK,rfl,rfl,rfl⟩;exact⟨o,by show o∈q.high;rw[e.obsH];exact f,rfl,rfl,rfl⟩;have:=e.obsO j Z0;grind [List.mem_map_of_mem,Prod.mk.injEq]
def Ext.gos(e:Ext h p g q){w i j:Int}(t:1<=i/\i<=4)(u:1<=j/\j<=4)(l:Gos h p w i j):Gos g q w i j:=by
 obtain rfl|⟨m,o,f,n,rfl⟩:=l;exact .inl rfl;have a:1<=m/\m<=4:=by obtain rfl|rfl:=f<;>assumption
 obtain⟨r,d,k,_⟩:=e.mem a n;exact .inr ⟨m,r,f,d,by rw[e.fst _ _ Z0,k]⟩
theorem Body.ext(r:Body h p)(T:h.scan<=xq h.low){k:Int}(f:3<=k/\k<=4){o:Ob}(y:o∈p.at k)(H:o.gone=xh){a n:Nat}(ea:o.at_=a)(P:o.size=n):
  Ext h p (Yg h k a (n+1)) (p.mv k o (xq h.low) (fstL (Zu h) 1+xq h.low)):=by
 obtain⟨u,z,m,O,Q,em,B,S,R⟩:=r.toTld.ob (k:=k) Z0 y;have:u=a:=Z0;subst this;have:z=n:=Z0;subst this;obtain⟨X,Y,m3,m4,Z,m6,m7,m8,m9,F⟩:=Ao h f u (z+1);obtain⟨L,M,N,e4⟩:=K9 (p:=p) f o (xq h.low) (fstL (Zu h) 1+xq h.low);have U:(Yg h k u (z+1)).old.length=xq h.old:=An (j:=3) f Z0;have W:(Yg h k u (z+1)).far.length=xq h.far:=An (j:=4) f Z0;refine⟨⟨_,X⟩,Y,m9,m8,F,m7,m6,Z,U,W,⟨_,L⟩,M,λj I=> ?_,λj I i x x' w A=> ?_,?_⟩;by_cases K:j=k;simp_all[Zge,Zfv,QB,fstL,Zu,Function.comp];have:j=7-k:=Z0;simp_all;by_cases K:j=k;subst K;rw[N,Ze1,w]at A;simp at A;subst A;have d:=ZdO w;by_cases e:x.at_=o.at_;have:x=o:=r.toTld.same_at Z0 y d e;subst this;rw[Uy rfl];exact⟨λh=>(by rw[H]at h;cases h),λh=>ZcZ⟩;rw[Tb e];refine⟨λ_=>rfl,λ_=>⟨rfl,λi hi=>Ap f Z0 I (.inr ?_)⟩⟩;obtain⟨b,l,_,eb,el,_⟩:=r.toTld.ob (k:=j) Z0 d;rcases(r.tiles j Z0).apart x d o y with G|G|G;simp_all;left;omega;omega;have:j=7-k:=Z0;simp_all;have w:=(r.tiles k Z0).pairwise;have D:=NS (t:=fstL (Zu h) 1+xq h.low) w y H;rw[P,ZdW]at D;have J:=Z3r f B;unfold Wt;have C:k=3\/k=4:=Z0;obtain rfl|rfl:=C;simp only[Pts.at3]at D;simp only[Pts.mv,Zer];omega;simp only[Pts.at4]at D;simp only[Pts.mv,show ¬(4:Int)=3 by omega,Zeu];omega
def H9(r:Body h p)(f:Sh h p)(j:h.scan<=P h.low){k:Int}(t:3<=k/\k<=4){o:Ob}(u:o∈p.at k)(l:o.gone=xh){a n:Nat}(w:o.at_=a)(y:o.size=n):
  Sh (Yg h k a (n+1)) (p.mv k o (P h.low) (fstL (Zu h) 1+P h.low)):=by
 have e:=r.ext j t u l w y;have z:fstL (Zu (Yg h k a (n+1))) 1=fstL (Zu h) 1:=by
  have:=e.fst 1 0 (.inl rfl);unfold Y7 at this;omega
 intro x d;rw[Z7A r t u l,z];obtain d|d:=Ze8.1 d;have:=r.toTld.low_at d;rw[f x d,if_neg Z0];simp_all[Z7C,Int.le_refl]
def Ou(g:Hp)(q:Pts)(w v:Int):Prop:=(w=0/\v=0)\/∃k o,(k=3\/k=4)/\o∈q.at k/\w=Y7 (Zu g) k o.at_/\o.gone=xy/\v=2*o.target+1
structure FwdTo (h:Hp) (p:Pts) (w v:Int) (g:Hp) (q:Pts):Prop where
 fwd:fwd h w=(v,g,0)
 body:Body g q
 once:Sh h p->Sh g q
 ext:Ext h p g q
 tgo:Gos g q v 1 2
 zero:v=0↔w=0
 res:(Gos h p w 1 2/\v=w/\g=h/\q=p)\/Ou g q w v
 how:(g=h/\q=p)\/∃(k:Int) (o:Ob) (a n:Nat),(3<=k/\k<=4)/\o∈p.at k/\o.gone=xh/\o.at_=a/\o.size=n/\g=Yg h k a (n+1)/\q=p.mv k o (P h.low) (fstL (Zu h) 1+P h.low)/\v=Y7 (Zu h) 1 (P h.low)
def Body.forward(r:Body h p)(l:h.scan<=P h.low){w:Int}(K:Gos h p w 1 2\/Gos h p w 3 4):∃v g q,FwdTo h p w v g q:=by
 by_cases C:w=0;subst C;exact⟨0,h,p,F2 r.lay,r,id,.refl h p,.inl rfl,Z1,.inr (.inl ⟨rfl,rfl⟩),.inl ⟨rfl,rfl⟩⟩;have B:∃k o,1<=k/\k<=4/\o∈p.at k/\w=Y7 (Zu h) k o.at_:=by
  obtain(G|⟨k,o,f,d,e⟩)|(G|⟨k,o,f,d,e⟩):=K;omega;grind;omega;grind
 obtain⟨k,o,k1,M,d,rfl⟩:=B;by_cases H:k<=2;exact⟨_,h,p,r.fwd_here ⟨k1,H⟩ d,r,id,.refl h p,.inr ⟨k,o,Z0,d,rfl⟩,ZfA,.inl ⟨.inr ⟨k,o,Z0,d,rfl⟩,rfl,rfl,rfl⟩,.inl ⟨rfl,rfl⟩⟩;have f:3<=k/\k<=4:=Z0;cases j:o.gone;obtain⟨a,n,m,t,u,em,I,_⟩:=r.toTld.ob ⟨k1,M⟩ d;obtain⟨F,_⟩:=r.fwd_wait f d j t u;have e:=r.ext l f d j t u;have b:=r.move l f d j t u;have x:(⟨P h.low,o.size,o.ptrs,xh,0⟩:Ob)∈(p.mv k o (P h.low) (fstL (Zu h) 1+P h.low)).low:=Zgf _ (.head _);have A:Y7 (Zu h) 1 (P h.low)=Y7 (Zu (Yg h k a (n+1))) 1 (P h.low):=(e.fst 1 _ (.inl rfl)).symm;exact⟨_,_,_,F,b,λz=>H9 r z l f d j t u,e,.inr ⟨1,_,.inl rfl,x,A⟩,iff_of_false (yG r.lay Z0) C,.inr (.inr ⟨k,_,Z0,by rw[(K9 f o _ _).2.2.1];exact Zfw d,by rw[e.fst _ _ Z0,(QB _ _ _).1],by rw[Uy rfl],by rw[Uy rfl];rfl⟩),.inr ⟨k,o,a,n,f,d,j,t,u,rfl,rfl,rfl⟩⟩;obtain⟨y,D,e,_⟩:=r.gone k f o d j;have J:2*o.target+1=Y7 (Zu h) 1 y.at_:=by unfold Y7;omega
 have L:=r.toTld.low_at D;refine⟨_,h,p,r.fwd_gone f d j,r,id,.refl h p,.inr ⟨1,y,.inl rfl,D,J⟩,?_,.inr (.inr ⟨k,o,Z0,d,rfl,j,rfl⟩),.inl ⟨rfl,rfl⟩⟩;omega
end
end
end Vm
end
