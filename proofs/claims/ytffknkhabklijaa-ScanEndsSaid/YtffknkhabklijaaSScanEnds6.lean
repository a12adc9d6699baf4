import Derived.RangeFuncNested
import Derived.RangeFuncBound
import Derived.LoopNIn
import Derived.LoopIn
import Derived.Shelf.RegionOpen
import Derived.RecoverIn
import Derived.Maps.OwnIn
import Derived.Test.YtffknkhabklijaaSScanEnds5
set_option linter.unusedSimpArgs false
set_option linter.unusedVariables false
set_option linter.defProp false
open Option renaming some→xk,none→xw
open Bool renaming true→xy,false→xh
open List renaming length→P
open Array renaming size→U
open Go.World renaming heap→R
open List renaming length→xq
open Array renaming size→xz
open Go.World renaming heap→xj
set_option maxHeartbeats 1000000
set_option maxRecDepth 100000
theorem Zdz{p:Prop}(h:p:=by simp[X4];omega):p:=h
theorem Zdn{p:Prop}(h:p:=by rw[cell_of_row _ _ _ _ _ _ d.out.2.1];rfl):p:=h
theorem Zdf{p:Prop}(h:p:=by have:=d.out.size;simp at this;omega):p:=h
theorem ZcQ{p:Prop}(h:p:=by have:=heap_alloc_new (w.alloc (.cells #[.int .i64 0,.int .i64 0,.int .i64 0,.bool xh,.int .u64 0] 59)) (.cells #[.int .i64 a,.int .i64 0,.int .i64 0,.bool xh,.int .u64 0] 59);simp_all):p:=h
theorem Zd8{p:Prop}(h:p:=by rw[cell_of_row _ _ _ _ _ _ n];rfl):p:=h
theorem Zd7{p:Prop}(h:p:=by rw[cell_of_row _ _ _ _ _ _ h];rfl):p:=h
theorem Zd9{p:Prop}(h:p:=by rw[cell_of_row _ _ _ _ _ _ u];rfl):p:=h
theorem ZcY{p:Prop}(h:p:=by rw[Zz _ (by omega) (by omega)];omega):p:=h
theorem Zd6{p:Prop}(h:p:=by rw[cell_of_row _ _ _ _ _ _ F];rfl):p:=h
def Zgx:=@List.findIdx?_cons
def Zh9:=@List.find?_cons
def Zgi:=@decide_true
def ZeI:=@List.findIdx?_eq_some_iff_getElem
def Zhb:=@List.take_succ_cons
def ZfX:=@List.getElem?_eq_none_iff
def ZeO:=@Decidable.byContradiction
def Zhi:=@List.pairwise_cons
def ZgV:=@decide_false
def Zgj:=@Bool.false_or
def Zh6:=@Bool.eq_iff_iff
def Zgf:=@Go.grownBy_putObj'
def Zf0:=@Go.World.alloc_heap_new
def Zg5:=@Go.World.size_alloc
def Zg9:=@Go.World.putObj_heap_same
def Zep:=@Go.World.putObj_heap_other
def Zgr:=@eq_false
def ZfA:=@Array.replicate_succ
def ZfB:=@Array.replicate_zero
def Zg1:=@List.push_toArray
def ZfI:=@List.append_toArray
def Zgt:=@eq_true
def ZfS:=@Go.callsIn_wide
def Zg6:=@Go.grownBy_setCell'
def ZgX:=@Go.run_takeDeferred
def ZgJ:=@List.filter_eq_nil_iff
def Zi3:=@decide_eq_true
def ZfJ:=@List.flatMap_append
def ZgY:=@List.drop_append
def ZgD:=@Nat.add_sub_cancel_left
def Zhr:=@List.flatMap_cons
def Zez:=@List.getElem?_take_of_lt
def Zgh:=@List.mem_append_right
section
namespace Vm
open Go Go.Proofs
def XI{α:Type}(l:List (Int×α))(k:Int)(v:α):List (Int×α):=match l.findIdx? (·.1==k)with
 |some i=>l.set i (k,v)
 |none=>l++[(k,v)]
def ZZ{α:Type}(l:List (Int×α))(k:Int):Option α:=(l.find? (·.1==k)).map (·.2)
def Yd{α:Type}(f:α->V)(l:List (Int×α)):V:=.mp 0 (l.map λx=>vu x.1) (l.map λx=>f x.2)
def jv{α:Type}{k}:∀ {l:List (Int×α)},T6 (vu k) (l.map λx=>vu x.1)=xk (l.findIdx? (·.1==k))
 | []=>rfl
 |y::l=>by
  simp only[Zeh,T6,Ka,Zes,Zgx];by_cases h:k=y.1;simp[h];have a:(k==y.1)=xh:=by simpa using h
  have d:(y.1==k)=xh:=by simpa using ZfM h
  simp[a,d,jv]
def JR{α:Type}{p}:∀ {l:List α},l.find? p=(l.findIdx? p).bind λi=>l[i]?
 | []=>rfl
 |x::l=>by
  rw[Zh9,Zgx];cases h:p x;simp[Ze1,Zew];rw[JR (l:=l)];cases l.findIdx? p<;>simp;simp
theorem RM{α f}{l:List (Int×α)}{k z ok}:Ue (.i .u64) (Yd f l) (vu k) z ok=match ZZ l k with
  |some x=>xk (if ok then .tup [f x,.bool xy]else f x)
  |none=>xk (if ok then .tup [z,.bool xh]else z):=by
 unfold Ue Yd ZZ;simp[WZ,Zgi,Zfp,Zew,jv,JR];grind [List.findIdx?_eq_some_iff_getElem]
def Kg{α f l k}{x:α}:UG (.i .u64) (Yd f l) (vu k) (f x)=xk (Yd f (XI l k x)):=by
 unfold UG Yd XI;simp[WZ,Zgi,Zfp,Zew,jv];cases h:l.findIdx? (·.1==k)with
 |none=>simp
 |some i=>
  have g:=ZeI.1 h;let⟨d,n,_⟩:=g;have a:(l[i]).1=k:=by simpa using n
  simp only[ZdH,V.mp.injEq,true_and];constructor;rw[Zgu];apply ZfH;intro j;rw[List.getElem?_set];split;rename_i e;subst e;simp[d,a];rfl;rw[Zgu]
@[simp]theorem Zbh{α}f(l:List (Int×α)):YQ (Yd f l)=xk (Yd f l):=rfl
@[simp]theorem Z9k{α}f(l:List (Int×α)):(Yd f l).cells=[Yd f l]:=rfl
@[simp]theorem Zbs{α}f(l:List (Int×α)):(Yd f l).one=xy:=rfl
@[simp]theorem Zb6{α}f(l:List (Int×α)):SJ (Yd f l)=xk (vi (P l)):=by simp[Yd]
def QE{α l k j}{x:α}:ZZ (XI l k x) j=if k=j then xk x else ZZ l j:=by
 unfold ZZ XI;cases h:l.findIdx? (·.1==k)with
 |none=>
  grind
 |some i=>
  let⟨d,o,a⟩:=ZeI.1 h;by_cases e:k=j;subst e;rw[if_pos rfl,JR];grind [List.findIdx?_eq_some_iff_getElem,List.getElem_set_ne];rw[if_neg e,JR,JR];have:(l.set i (k,x)).findIdx? (·.1==j)=l.findIdx? (·.1==j):=by
   apply Option.ext;intro q;rw[ZeI,ZeI];constructor;grind;grind
  rw[this];cases f:l.findIdx? (·.1==j)with
  |none=>rfl
  |some q=>
   let⟨g,n,_⟩:=ZeI.1 f;grind
structure Ck where
 h:Hp
 o1:List Ob
 o2:List Ob
 o3:List Ob
 o4:List Ob
 pm:List (Int×Int)
 lm:List (Int×(Int×Int))
def Ck.obs(s:Ck)(k:Int):List Ob:=if k=1 then s.o1 else if k=2 then s.o2 else if k=3 then s.o3 else s.o4
def ZV(s:Ck):List V:=[vu s.h.base,vi s.h.cap,vi s.h.to,.bool s.h.cycle,vi s.h.scan,.sl (s.h.low.map vu),.sl (s.h.high.map vu),.sl (s.h.old.map vu),.sl (s.h.far.map vu),.sl (s.h.roots.map vu),
 vu s.h.base,vi s.h.cap,vi s.h.to,vi (P s.h.low),vi (P s.h.high),vi (P s.h.old),vi (P s.h.far),
 .sl (s.o1.map ZL),.sl (s.o2.map ZL),.sl (s.o3.map ZL),.sl (s.o4.map ZL),Yd vi s.pm,Yd Wc s.lm]
def Xg(s:Ck):V:=.ptr (ZV s)
def R7:IntKind.i64.wrap 0=0:=by decide
def UR:IntKind.i64.wrap 1=1:=by decide
def VI:IntKind.i64.wrap 2=2:=by decide
def U3:IntKind.i64.wrap 3=3:=by decide
def NT{s k}(a:1<=k/\k<=4):VC Sol.prog 118 xh [Xg s,vi k] (.sl ((Zy s.h k).map vu)):=by
 refine ZU Sol.func118 follows Z2 PO rfl ?_;have:k=1\/k=2\/k=3\/k=4:=Z0;obtain rfl|rfl|rfl|rfl:=this<;>simp[I0,Xg,ZV,Zy,Y6,R7,UR,VI,U3]
def YN(s:Ck)(w first last:Int):Bool:=decide (w=0)||(decide ((adr w).2=0)&&match ZZ s.pm (adr w).1 with
 |some k=>decide (first<=k)&&decide (k<=last)
 |none=>xh)
def KH{s w first last}(f:ZC w):VC Sol.prog 122 xh [Xg s,vu w,vi first,vi last] (.bool (YN s w first last)):=by
 refine ZU Sol.func122 follows Z2 PR rfl ?_;unfold YN;by_cases a:w=0;simp[B4,a];simp[B4,a,Xg,ZV];refine Zx (Jz f) Z1 ?_;by_cases d:(adr w).2=0;case neg=>simp[d]
 simp[d,RM];cases g:ZZ s.pm (adr w).1 with
 |none=>simp
 |some k=>
  simp_all
def Wo(h:Hp)(k:Int):List (Int×Int)->List Ob->List (Int×Int)
 |m,[]=>m
 |m,o::l=>Wo h k (XI m (Y2 (Zu h) k o.at_).1 k) l
def Xa(h:Hp)(k:Int):List (Int×(Int×Int))->List Ob->List (Int×(Int×Int))
 |m,[]=>m
 |m,o::l=>Xa h k (if k=1 then XI m (Y2 (Zu h) k o.at_).1 (o.size,o.ptrs)else m) l
def Ck.put(s:Ck)(k:Int)(l:List Ob):Ck:=if k=1 then {s with o1:=l}else if k=2 then {s with o2:=l}else if k=3 then {s with o3:=l}else {s with o4:=l}
def XN(s:Ck)(k:Int)(l:List Ob):Ck:= {s.put k l with pm:=Wo s.h k s.pm l,lm:=Xa s.h k s.lm l}
def Kn{h k}:∀ {l:List Ob} {i:Nat} {o:Ob} {m:List (Int×Int)},l[i]?=xk o->Wo h k m (l.take (i+1))=XI (Wo h k m (l.take i)) (Y2 (Zu h) k o.at_).1 k
 | [],_,_,_,h=>Zdj
 |x::l,0,o,m,h=>by simp_all[Wo]
 |x::l,i+1,o,m,h=>by
  simp_all[Zhb,Wo,Kn]
def Kl{h k}:∀ {l:List Ob} {i:Nat} {o:Ob} {m:List (Int×(Int×Int))},l[i]?=xk o->Xa h k m (l.take (i+1))=if k=1 then XI (Xa h k m (l.take i)) (Y2 (Zu h) k o.at_).1 (o.size,o.ptrs)else Xa h k m (l.take i)
 | [],_,_,_,h=>Zdj
 |x::l,0,o,m,h=>by simp_all[Xa]
 |x::l,i+1,o,m,h=>by
  simp_all[Zhb,Xa,Kl]
abbrev LI:List CK:=[.fz,.fz,.fz,.fz,.fz,.fz,.fz,.fz,.fz,.fz,.fz,.fz,.fz,.fz,.fz,.fz,.fz,.fz,.fz,.fz,.fz,.own 84,.own 115]
@[simp]theorem Z5g(s:Ck)k l:(s.put k l).h=s.h:=by
 unfold Ck.put;split;rfl;split;rfl;split<;>rfl
def zO{l k x}:UG (.i .u64) (Yd vi l) (vu k) (vi x)=xk (Yd vi (XI l k x)):=Kg
def zP{l k a b}:UG (.i .u64) (Yd Wc l) (vu k) (.agg [vi a,vi b])=xk (Yd Wc (XI l k (a,b))):=Kg (f:=Wc) (x:=(a,b))
def zW{s}(q:s.h.ok){k}(u:1<=k/\k<=4){l}(w:P l<=1000000):V7 Sol.prog 121 [.mem LI,.fz,.fz] [.agg (ZV s),vi k,.sl (l.map ZL)] (.tup [.tup [],.agg (ZV (XN s k l))]):=by
 refine Jl Sol.func121 follows Z2 PQ Z2 ?_;have r:k=1\/k=2\/k=3\/k=4:=Z0;have t:∀k,({s.put k l with pm:=s.pm,lm:=s.lm}:Ck)=s.put k l:=by
  intro k;unfold Ck.put;split;rfl;split;rfl;split<;>rfl
 have o:=λk at_=>Dq q.lay (part:=k) (at_:=at_);unfold Zu X6 at o;obtain rfl|rfl|rfl|rfl:=r
 .simp[Kv,ZV,Y6,Uu,R7,UR,VI,U3,setCells];refine VL 3 (P l) (λi=>[(0,.m (ZV {s.put 1 l with pm:=Wo s.h 1 s.pm (l.take i),lm:=Xa s.h 1 s.lm (l.take i)})),(3,.v (vi i))]) (λ_=>True) (by simp[ZV,Ck.put,Wo,Xa]) Z1 trivial ?_;intro i p _;have d:=Zz (i+1) Z0 Z0;by_cases a:i<P l
  .have f:=ZdI a;have g:=Kn (h:=s.h) (k:=1) (m:=s.pm) f;have j:=Kl (h:=s.h) (k:=1) (m:=s.lm) f;have n:=o 1 (l[i]).at_;simp[a,f,d,ZV,X5];refine Zx n Z1 ?_;simp[zO,zP,g,j,d,a];first|done|rfl|exact⟨rfl,rfl⟩
  have:i=P l:=Z0;subst this;simp[ZV,XN,ZeM]
 .simp[Kv,ZV,Y6,Uu,R7,UR,VI,U3,setCells];refine VL 3 (P l) (λi=>[(0,.m (ZV {s.put 2 l with pm:=Wo s.h 2 s.pm (l.take i),lm:=Xa s.h 2 s.lm (l.take i)})),(3,.v (vi i))]) (λ_=>True) (by simp[ZV,Ck.put,Wo,Xa]) Z1 trivial ?_;intro i p _;have d:=Zz (i+1) Z0 Z0;by_cases a:i<P l
  .have f:=ZdI a;have g:=Kn (h:=s.h) (k:=2) (m:=s.pm) f;have j:=Kl (h:=s.h) (k:=2) (m:=s.lm) f;have n:=o 2 (l[i]).at_;simp[a,f,d,ZV,X5];refine Zx n Z1 ?_;simp[zO,zP,g,j,d,a];first|done|rfl|exact⟨rfl,rfl⟩
  have:i=P l:=Z0;subst this;simp[ZV,XN,ZeM]
 .simp[Kv,ZV,Y6,Uu,R7,UR,VI,U3,setCells];refine VL 3 (P l) (λi=>[(0,.m (ZV {s.put 3 l with pm:=Wo s.h 3 s.pm (l.take i),lm:=Xa s.h 3 s.lm (l.take i)})),(3,.v (vi i))]) (λ_=>True) (by simp[ZV,Ck.put,Wo,Xa]) Z1 trivial ?_;intro i p _;have d:=Zz (i+1) Z0 Z0;by_cases a:i<P l
  .have f:=ZdI a;have g:=Kn (h:=s.h) (k:=3) (m:=s.pm) f;have j:=Kl (h:=s.h) (k:=3) (m:=s.lm) f;have n:=o 3 (l[i]).at_;simp[a,f,d,ZV,X5];refine Zx n Z1 ?_;simp[zO,zP,g,j,d,a];first|done|rfl|exact⟨rfl,rfl⟩
  have:i=P l:=Z0;subst this;simp[ZV,XN,ZeM]
 .simp[Kv,ZV,Y6,Uu,R7,UR,VI,U3,setCells];refine VL 3 (P l) (λi=>[(0,.m (ZV {s.put 4 l with pm:=Wo s.h 4 s.pm (l.take i),lm:=Xa s.h 4 s.lm (l.take i)})),(3,.v (vi i))]) (λ_=>True) (by simp[ZV,Ck.put,Wo,Xa]) Z1 trivial ?_;intro i p _;have d:=Zz (i+1) Z0 Z0;by_cases a:i<P l
  .have f:=ZdI a;have g:=Kn (h:=s.h) (k:=4) (m:=s.pm) f;have j:=Kl (h:=s.h) (k:=4) (m:=s.lm) f;have n:=o 4 (l[i]).at_;simp[a,f,d,ZV,X5];refine Zx n Z1 ?_;simp[zO,zP,g,j,d,a];first|done|rfl|exact⟨rfl,rfl⟩
  have:i=P l:=Z0;subst this;simp[ZV,XN,ZeM]
end Vm
namespace Vm
open Go Go.Proofs
def VN(s:Ck):V:=.ptr [Xg s]
def Z6Q{s a w}(d:ZC w):VC Sol.prog 124 xh [vi a,vu w,VN s] (.bool (YN s w 1 2)):=by
 refine ZU Sol.func124 follows Z2 PT rfl ?_;have k:=KH (s:=s) (first:=1) (last:=2) d;simp[I3,YQ,V.one];refine Zx k Z1 ?_;simp
def Z6R{s a w}(d:ZC w):VC Sol.prog 125 xh [vi a,vu w,VN s] (.bool (decide (s.h.scan<=a)||YN s w 1 2)):=by
 refine ZU Sol.func125 follows Z2 PU rfl ?_;have k:=KH (s:=s) (first:=1) (last:=2) d;unfold VN Xg at*;by_cases h:s.h.scan<=a;simp[B5,YQ,V.one,ZV,h];simp[B5,YQ,V.one,ZV,h];refine Zx k Z1 ?_;simp
def Z7M{s a w}(d:ZC w):VC Sol.prog 126 xh [vi a,vu w,VN s] (.bool (decide (a<s.h.scan)||YN s w 1 4)):=by
 refine ZU Sol.func126 follows Z2 PV rfl ?_;have k:=KH (s:=s) (first:=1) (last:=4) d;unfold VN Xg at*;by_cases h:a<s.h.scan;simp[B6,YQ,V.one,ZV,h];simp[B6,YQ,V.one,ZV,h];refine Zx k Z1 ?_;simp
def Gk{s a w}(d:ZC w):VC Sol.prog 127 xh [vi a,vu w,VN s] (.bool (YN s w 3 4)):=by
 refine ZU Sol.func127 follows Z2 PW rfl ?_;have k:=KH (s:=s) (first:=3) (last:=4) d;simp[I4,YQ,V.one];refine Zx k Z1 ?_;simp
structure Ck.ok (s:Ck):Prop where
 h:s.h.ok
 ob:∀k,∀o∈s.obs k,Qk (P (Zy s.h k)) o/\ZC o.target
 len:∀k,P (s.obs k)<=1000000
def VJ(ws:List Int)(k:Nat):Int:=(ws[k]?).getD 0
def obQ(s:Ck)(k:Int)(q:Int->Int->Bool)(o:Ob):Bool:=o.gone||(List.range o.ptrs.toNat).all λj=>q ((o.at_.toNat+1+j:Nat):Int) (VJ (Zy s.h k) (o.at_.toNat+1+j))
def WG(s:Ck)(k:Int)(q:Int->Int->Bool):Bool:=(s.obs k).all (obQ s k q)
def KG{s}(u:s.ok){k}(S:1<=k/\k<=4){f cs q}(W:∀a w,ZC w->VC Sol.prog f xh ([vi a,vu w]++cs) (.bool (q a w))):
  VC Sol.prog 123 xh [Xg s,vi k,.clo f cs] (.bool (WG s k q)):=by
 refine ZU Sol.func123 follows Z2 PS rfl ?_;simp[-List.all_eq_true,-List.all_eq_false,I2];refine Zx (NT S) Z1 ?_;have O:=u.len k;have D:=u.ob k;have Y:=(XG u.h k).1;have U:=(XG u.h k).2;have x:Y6 (.agg [.sl (s.o1.map ZL),.sl (s.o2.map ZL),.sl (s.o3.map ZL),.sl (s.o4.map ZL)]) (.int .i64 (IntKind.i64.wrap (k-1))) 4 1 xy=xk (.agg [.sl ((s.obs k).map ZL)]):=by
  have:k=1\/k=2\/k=3\/k=4:=Z0;obtain rfl|rfl|rfl|rfl:=this<;>simp[Y6,Ck.obs,R7,UR,VI,U3]
 unfold WG;generalize hL:s.obs k=L at*;generalize Q:Zy s.h k=r at*;simp[-List.all_eq_true,-List.all_eq_false,Xg,ZV,x];refine Li 5 (xq L) (λi=>(L.take i).all (obQ s k q)=xy) Z1 Z1 Z1 ?_;intro i hi M;have Z:=Zz (i+1) Z0 Z0;by_cases l:i<xq L;have J:=ZdI l;let⟨⟨⟨a,K,N⟩,F⟩,_⟩:=D _ (Ze2 l);generalize L[i]=o at*;let⟨s1,s2,s3,s4⟩:=Yw.1 F;let⟨m,P⟩:=ZdX s3;have G:=Zz (a+1) Z0 Z0;have C:obQ s k q o=xy->(L.take (i+1)).all (obQ s k q)=xy:=λh=>by simp_all[Dv]
 have y:obQ s k q o=xh->L.all _=xh:=λg=>Du J g;cases z:o.gone;have t:obQ s k q o=(List.range m).all λj=>q ((a+1+j:Nat):Int) (VJ r (a+1+j)):=by
  unfold obQ;rw[P,K,Q,z];rfl
 simp[-List.all_eq_true,-List.all_eq_false,l,J,Yi J,X5,z,K,P];refine Li 11 m (λj=>((List.range j).all λj=>q ((a+1+j:Nat):Int) (VJ r (a+1+j)))=xy) Z1 Z1 Z1 ?_;intro j hj R;have a0:=Zz (j+1) Z0 Z0;by_cases A:j<m;obtain⟨w,d,X⟩:∃w,r[a+1+j]?=xk w/\ZC w:=⟨_,ZdI Z0,Y _ (Ze2 _)⟩;have I:VJ r (a+1+j)=w:=by unfold VJ;rw[d];rfl
 have p:((List.range (j+1)).all λj=>q ((a+1+j:Nat):Int) (VJ r (a+1+j)))=(((List.range j).all λj=>q ((a+1+j:Nat):Int) (VJ r (a+1+j)))&&q ((a+1+j:Nat):Int) w):=by
  rw[Zg2,ZhN];simp[I]
 have g:q ((a+1+j:Nat):Int) w=xh->L.all _=xh:=λg=>y (by
  grind)
 obtain⟨n,T⟩:∃n,a+1+j=n:=⟨_,rfl⟩;have B:a+1+j=(n:Int):=Z0;have H:=Zz n Z0 Z0;rw[T]at d p g;have kq:=W n w X;simp[-List.all_eq_true,-List.all_eq_false,A,G,B,H,d,Yi d,X5];refine Zx kq Z1 ?_;simp_all;have:j=m:=Z0;simp_all;have t:obQ s k q o=xy:=by unfold obQ;rw[z];rfl
 simp_all;have:i=xq L:=Z0;simp_all
@[simp]theorem ZbA l:(V.ptr l).one=xy:=rfl
@[simp]theorem Zbp l:YQ (.ptr l)=xk (.ptr l):=rfl
@[simp]theorem Zbw f l:(V.clo f l).one=xy:=rfl
@[simp]theorem Zbl f l:YQ (.clo f l)=xk (.clo f l):=rfl
@[simp]theorem Zbk s:YQ (Xg s)=xk (Xg s):=rfl
@[simp]theorem Zbv s:(Xg s).one=xy:=rfl
@[simp]theorem Zc6 s:UP (Xg s)=xk (.agg (ZV s)):=rfl
@[simp]theorem Z9B s:(ZV s)[4]?=xk (vi s.h.scan):=rfl
@[simp]theorem Z9u s:(ZV s)[3]?=xk (.bool s.h.cycle):=rfl
@[simp]theorem Z9A s:(ZV s)[9]?=xk (.sl (s.h.roots.map vu)):=rfl
@[simp]theorem Z9y s:(ZV s)[5]?=xk (.sl (s.h.low.map vu)):=rfl
@[simp]theorem Z9w s:(ZV s)[6]?=xk (.sl (s.h.high.map vu)):=rfl
@[simp]theorem Z9z s:(ZV s)[7]?=xk (.sl (s.h.old.map vu)):=rfl
@[simp]theorem Z9v s:(ZV s)[8]?=xk (.sl (s.h.far.map vu)):=rfl
@[simp]theorem Z9t s:(ZV s)[1]?=xk (vi s.h.cap):=rfl
def Q7(s:Ck):Bool:=s.h.roots.all (λw=>YN s w 1 2)&&(WG s 2 (λ_ w=>YN s w 1 2)&&WG s 1 (λa w=>decide (s.h.scan<=a)||YN s w 1 2))
def Z6S{s}(n:s.ok):VC Sol.prog 107 xh [Xg s] (.bool (Q7 s)):=by
 refine ZU Sol.func107 follows Z2 PH rfl ?_;have k1:=KG n (k:=2) Z0 (f:=124) (cs:=[VN s]) (q:=λ_ w=>YN s w 1 2) (λa w l=>Z6Q l);have y:=KG n (k:=1) Z0 (f:=125) (cs:=[VN s]) (q:=λa w=>decide _||YN s w 1 2) (λa w l=>Z6R l);have C:=λw (l:ZC w)=>KH (s:=s) (first:=1) (last:=2) l;have A:=n.h.roots;have t:=n.h.rootsW;unfold Q7;unfold VN at k1 y;generalize WG s 2 (λ_ w=>YN s w 1 2)=z at*;generalize WG s 1 (λa w=>decide (s.h.scan<=a)||YN s w 1 2)=D at*;simp[-List.all_eq_true,-List.all_eq_false,HR];refine Li 3 (P s.h.roots) (λi=>(s.h.roots.take i).all (λw=>YN s w 1 2)=xy) Z1 Z1 Z1 ?_;intro i F g;have u:=Zz (i+1) Z0 Z0;by_cases j:i<P s.h.roots;have o:=ZdI j;have B:=t _ (Ze2 j);generalize s.h.roots[i]=w at*;have p:YN s w 1 2=xh->s.h.roots.all (λw=>YN s w 1 2)=xh:=λr=>Du o r;have d:=Dv (q:=λw=>YN s w 1 2) o;rw[g]at d;simp[-List.all_eq_true,-List.all_eq_false,j,o,Yi o,X5];refine Zx (C w B) Z1 ?_;cases x:YN s w 1 2;simp[-List.all_eq_true,-List.all_eq_false,p x];rw[x]at d;simp[-List.all_eq_true,-List.all_eq_false,u,j,d];have:i=P s.h.roots:=Z0;subst this;rw[Zfc]at g;simp[-List.all_eq_true,-List.all_eq_false,g];refine Zx k1 (by simp[Wm,V.flatc]) ?_;cases z;simp;simp;refine Zx y (by simp[Wm,V.flatc]) ?_;simp
def Qa(s:Ck):Bool:=WG s 1 (λa w=>decide (a<s.h.scan)||YN s w 1 4)
def Z7N{s}(d:s.ok):VC Sol.prog 108 xh [Xg s] (.bool (Qa s)):=by
 refine ZU Sol.func108 follows Z2 PI rfl ?_;have k1:=KG d (k:=1) Z0 (f:=126) (cs:=[VN s]) (q:=λa w=>decide _||YN s w 1 4) (λa w g=>Z7M g);unfold Qa;simp[HT];refine Zx k1 (by simp[Wm,V.flatc]) ?_;simp
def RJ(s:Ck):Bool:=WG s 3 (λ_ w=>YN s w 3 4)&&WG s 4 (λ_ w=>YN s w 3 4)
def Z2N{s}(g:s.ok):VC Sol.prog 109 xh [Xg s] (.bool (RJ s)):=by
 refine ZU Sol.func109 follows Z2 PJ rfl ?_;have k1:=KG g (k:=3) Z0 (f:=127) (cs:=[VN s]) (q:=λ_ w=>YN s w 3 4) (λa w d=>Gk d);have h:=KG g (k:=4) Z0 (f:=127) (cs:=[VN s]) (q:=λ_ w=>YN s w 3 4) (λa w d=>Gk d);unfold RJ;unfold VN at k1 h;generalize WG s 3 (λ_ w=>YN s w 3 4)=j at*;generalize WG s 4 (λ_ w=>YN s w 3 4)=l at*;simp[HU];refine Zx k1 (by simp[Wm,V.flatc]) ?_;cases j;simp;simp;refine Zx h (by simp[Wm,V.flatc]) ?_;simp
end Vm
namespace Vm
open Go Go.Proofs
def Sq(s:Ck):Bool:=ZI (Zu s.h)&&(decide (P s.h.roots<=16)&&(decide (0<=s.h.scan)&&decide (s.h.scan<=P s.h.low)))
def Py{s}(f:s.h.ok):VC Sol.prog 103 xh [Xg s] (.bool (Sq s)):=by
 refine ZU Sol.func103 follows Z2 PD rfl ?_;have k:=KX f.lay;unfold Sq;unfold Zu X6 at k;simp[HM];simp[ZV];refine Zx k Z1 ?_;have e:ZI {base:=s.h.base,cap:=s.h.cap,to:=s.h.to,low:=(P s.h.low:Int),high:=(P s.h.high:Int),old:=(P s.h.old:Int),far:=(P s.h.far:Int)}=ZI (Zu s.h):=rfl;rw[e];cases ZI _;simp;by_cases d:P s.h.roots<=16;have a:(P s.h.roots:Int)<=16:=Z0;simp_all;have a:¬(P s.h.roots:Int)<=16:=Z0;simp[d,a]
def Q1(s:Ck):Bool:=if s.h.cycle then decide (s.h.scan<P s.h.low)else decide (P s.h.old=0)&&(decide (P s.h.far=0)&&decide (s.h.scan=P s.h.low))
def Z62{s}:VC Sol.prog 104 xh [Xg s] (.bool (Q1 s)):=by
 refine ZU Sol.func104 follows Z2 PE rfl ?_;unfold Q1;cases f:s.h.cycle;by_cases g:P s.h.old=0;have a:=ZfD.1 g;by_cases j:P s.h.far=0;have d:=ZfD.1 j;simp[Kt,f,a,d];have d:¬s.h.far=[]:=λe=>j (by simp[e]);simp[Kt,f,a,j,d];have a:¬s.h.old=[]:=λe=>g (by simp[e]);simp[Kt,f,g,a];simp[Kt,f]
def Sg(s:Ck):Nat:=Yy s.o3+Yy s.o4
@[simp]theorem Zbb s:((ZV s).drop 17).take 4=[.sl (s.o1.map ZL),.sl (s.o2.map ZL),.sl (s.o3.map ZL),.sl (s.o4.map ZL)]:=rfl
@[simp]theorem Z9x s:P (ZV s)=23:=rfl
def NF{s}(t:s.ok):VC Sol.prog 52 xh [Xg s] (vi (Sg s)):=by
 refine ZU Sol.func52 follows Z2 c52 rfl ?_;have p:=λk o l=>(t.ob k o l).1.2;have H:P s.o3<=1000000:=t.len 3;have I:P s.o4<=1000000:=t.len 4;have a:∀o∈s.o3,YK o.size o.ptrs=xy:=p 3;have n:=p 4;have F:=Qe a;have A:Y6 (.agg [.sl (s.o1.map ZL),.sl (s.o2.map ZL),.sl (s.o3.map ZL),.sl (s.o4.map ZL)]) (.int .i64 2) 4 1 xy=xk (.agg [.sl (s.o3.map ZL)]):=by simp[Y6]
 have B:Y6 (.agg [.sl (s.o1.map ZL),.sl (s.o2.map ZL),.sl (s.o3.map ZL),.sl (s.o4.map ZL)]) (.int .i64 3) 4 1 xy=xk (.agg [.sl (s.o4.map ZL)]):=by simp[Y6]
 simp[Iq];refine Tr (λi=>[(2,.v (vi ((if 0<i then Yy s.o3 else 0)+(if 1<i then Yy s.o4 else 0):Nat))),(3,.v (vi ((i+3:Nat):Int)))]) (λi=>i<=2) (X4 3 5) 0 Z1 Z1 ?_;rintro i J;have q:i=0\/i=1\/i=2:=Z0;obtain rfl|rfl|rfl:=q;simp[VI,A];refine VL 5 (P s.o3) (λj=>[(2,.v (vi (Yy (s.o3.take j)))),(5,.v (vi j))]) (λ_=>True) (by simp[Yy]) (λi=>Z1) trivial ?_;rintro j G-;have w:=Zz (j+1) Z0 Z0;by_cases g:j<P s.o3;have x:=ZdI g;have d:=a _ (Ze2 g);have u:=O1 x;generalize s.o3[j]=o at*;have r:Yy (s.o3.take j)<=256*P s.o3:=by
  refine Zef (Qe λo l=>a o (ZeF l)) ?_;simp;omega
 let⟨g1,g2,C,D⟩:=Yw.1 d;let⟨z,y⟩:=ZdX g1;have w1:=Zz (1+z) Z0 Z0;have w2:=Zz ((Yy (s.o3.take j):Int)+(1+z)) Z0 Z0;cases h:o.gone;have f:WU o=1+z:=by simp[WU,h,y]
 simp_all;have f:WU o=0:=by simp[WU,h]
 simp_all;have:j=P s.o3:=Z0;subst this;rw[Zfc];simp[X5,Zz];exact⟨1,Z0,Z1,ZdD⟩;simp[U3,B];refine VL 5 (P s.o4) (λj=>[(2,.v (vi (Yy s.o3+Yy (s.o4.take j):Nat))),(5,.v (vi j))]) (λ_=>True) (by simp[Yy]) (λi=>Z1) trivial ?_;rintro j G-;have w:=Zz (j+1) Z0 Z0;by_cases g:j<P s.o4;have x:=ZdI g;have d:=n _ (Ze2 g);have u:=O1 x;generalize s.o4[j]=o at*;have r:Yy (s.o4.take j)<=256*P s.o4:=by
  refine Zef (Qe λo l=>n o (ZeF l)) ?_;simp;omega
 let⟨g1,g2,C,D⟩:=Yw.1 d;let⟨z,y⟩:=ZdX g1;have w1:=Zz (1+z) Z0 Z0;have w2:=Zz ((Yy s.o3:Int)+Yy (s.o4.take j)+(1+z)) Z0 Z0;cases h:o.gone;have f:WU o=1+z:=by simp[WU,h,y]
 simp_all;omega;have f:WU o=0:=by simp[WU,h]
 simp_all;have:j=P s.o4:=Z0;subst this;rw[Zfc];simp[X5,Zz];exact⟨2,Z0,Z1,ZdD⟩;simp[Sg]
def Q4(s:Ck):Bool:=decide ((P s.h.low:Int)+P s.h.high+Sg s<=s.h.cap)
def Z7U{s}(a:s.ok):Sg s<=512*1000000:=by
 have f:=Qe (l:=s.o3) λo d=>(a.ob 3 o d).1.2;have g:=Qe (l:=s.o4) λo d=>(a.ob 4 o d).1.2;have h:P s.o3<=1000000:=a.len 3;have j:P s.o4<=1000000:=a.len 4;grind [Sg]
def Z67{s}(a:s.ok):VC Sol.prog 110 xh [Xg s] (.bool (Q4 s)):=by
 refine ZU Sol.func110 follows Z2 PL rfl ?_;have d:=Z7U a;have f:=a.h.low;have g:=a.h.high;have w1:=Zz ((P s.h.low:Int)+P s.h.high) Z0 Z0;have w2:=Zz ((P s.h.low:Int)+P s.h.high+Sg s) Z0 Z0;simp[HY];refine Zx (NF a) Z1 ?_;simp[w1,w2,Q4]
end Vm
namespace Vm
open Go Go.Proofs
def Wz(lm:List (Int×(Int×Int)))(ws:List Int):Nat->Nat->List (Int×Int)->List (Int×Int)
 |0,_,a=>a
 |f+1,i,a=>
  match ws[i]? with
  |none=>a
  |some w=>if(adr w).2=0 then(match ZZ lm (adr w).1 with|none=>a|some sh=>Wz lm ws f (i+1+sh.1.toNat) (a++[sh]))
   else if(ZP w).2.2=0 then Wz lm ws f (i+1+(ZP w).1.toNat) a else a
def Tn(lm:List (Int×(Int×Int)))(ws:List Int):List (Int×Int):=Wz lm ws (P ws+1) 0 []
def Fe{α l k}{x:α}(h:ZZ l k=xk x):(k,x)∈l:=by
 obtain⟨y,a,rfl⟩:=ZdK.1 h;grind
def Z6T{s}(D:∀x∈s.lm,YK x.2.1 x.2.2=xy){ws}(K:P ws<=1000000)(J:∀w∈ws,ZC w):
  VC Sol.prog 120 xh [Xg s,.sl (ws.map vu)] (.sl ((Tn s.lm ws).map Wc)):=by
 refine ZU Sol.func120 follows Z2 PP rfl ?_;have C:∀k,Ue (.i .u64) (Yd Wc s.lm) (vu k) (.agg [vi 0,vi 0]) xy=match ZZ s.lm k with
  |some x=>xk (.tup [Wc x,.bool xy])
  |none=>xk (.tup [.agg [vi 0,vi 0],.bool xh]):=λk=>by grind [RM,ZZ]
 have B:(ZV s)[22]?=xk _:=rfl;simp[I1]
 refine Tr (λ(p:Nat×List _)=>[(3,.v (.sl (p.2.map Wc))),(4,.v (vi p.1))])
  (λp=>p.1<=P ws+256/\P p.2<=p.1/\∃f,P ws<f+p.1/\0<f/\Tn s.lm ws=Wz s.lm ws f p.1 p.2) (X4 4 (P ws)) (0,[]) Z1 ⟨Z1,Z1,P ws+1,Z1,Z0,rfl⟩ ?_
 rintro⟨i,g⟩ ⟨I,r,f,G,H,a⟩;simp only at I r G a;cases f with
 |zero=>omega
 |succ f=>
 by_cases d:i<P ws;have y:=ZdI d;have F:=J _ (Ze2 d);generalize ws[i]=w at*;simp[Wz,y]at a;have u:P g+1<=Y5:=Zdb;simp[d,y,Yi y,X5];refine Zx (Jz F) Z1 ?_;by_cases A:(adr w).2=0;rw[if_pos A]at a;simp[A,B,C];cases t:ZZ s.lm (adr w).1 with
 |none=>
  simp_all
 |some q=>
  rw[t]at a;simp only at a;have h:0<=q.1/\q.1<=255/\0<=q.2/\q.2<=q.1:=Yw.1 (D _ (Fe t));let⟨z,o⟩:=ZdX h.1;have l:=Zz (1+z) Z0 Z0;have n:=Zz (i+(1+z)) Z0 Z0;rw[o,ZdY]at a;simp[u,o,l,n];refine⟨i+1+z,g++[q],⟨Z0,ZcM,f,Z0,?_,a⟩,⟨by simp[Wc,o],Z0⟩,Zdz⟩;omega
 rw[if_neg A]at a;simp[A,y,Yi y,d,X5];refine Zx (Nw F) Z1 ?_;by_cases j:(ZP w).2.2=0;rw[if_pos j]at a;have h:=Yw.1 (CG j);let⟨z,o⟩:=ZdX h.1;have l:=Zz (1+z) Z0 Z0;have n:=Zz (i+(1+z)) Z0 Z0;rw[o,ZdY]at a;simp[j,o,l,n];refine⟨i+1+z,g,⟨Z0,Z0,f,Z0,?_,a⟩,⟨rfl,Z0⟩,Zdz⟩;omega;simp_all;simp_all[ZeL,Wz]
end Vm
namespace Vm
open Go Go.Proofs
def Wg(pm:List (Int×Int)):List Ob->List (Int×Bool)->Option (List (Int×Bool))
 | [],m=>xk m
 |o::l,m=>if o.gone=xy then(if(ZZ pm o.target).getD 0=1/\(ZZ m o.target).getD xh=xh then Wg pm l (XI m o.target xy)else xw)else Wg pm l m
def Rn(s:Ck):Bool:= !s.h.cycle||match(Wg s.pm s.o3 []).bind (Wg s.pm s.o4)with
 |none=>xh
 |some m=>decide (P m=P s.o1)
def GT{l k x}:UG (.i .u64) (Yd .bool l) (vu k) (.bool x)=xk (Yd .bool (XI l k x)):=Kg
def QO{l k}:Ue (.i .u64) (Yd .bool l) (vu k) (.bool xh) xh=xk (.bool ((ZZ l k).getD xh)):=by
 grind [RM,ZZ]
def QP{l k}:Ue (.i .u64) (Yd vi l) (vu k) (vi 0) xh=xk (vi ((ZZ l k).getD 0)):=by
 grind [RM,ZZ]
def Z3w{α}(f:α->V):Yd f []=.mp 0 [] []:=rfl
def Z0s{s}(t:s.ok):VC Sol.prog 106 xh [Xg s] (.bool (Rn s)):=by
 refine ZU Sol.func106 follows Z2 PG rfl ?_;have G:P s.o3<=1000000:=t.len 3;have H:P s.o4<=1000000:=t.len 4;have A:=λo z=>(t.ob 3 o z).2;have I:=λo z=>(t.ob 4 o z).2;have D:Y6 (.agg [.sl (s.o1.map ZL),.sl (s.o2.map ZL),.sl (s.o3.map ZL),.sl (s.o4.map ZL)]) (.int .i64 2) 4 1 xy=xk (.agg [.sl (s.o3.map ZL)]):=by simp[Y6]
 have F:Y6 (.agg [.sl (s.o1.map ZL),.sl (s.o2.map ZL),.sl (s.o3.map ZL),.sl (s.o4.map ZL)]) (.int .i64 3) 4 1 xy=xk (.agg [.sl (s.o4.map ZL)]):=by simp[Y6]
 have C:Y6 (.agg [.sl (s.o1.map ZL),.sl (s.o2.map ZL),.sl (s.o3.map ZL),.sl (s.o4.map ZL)]) (.int .i64 0) 4 1 xy=xk (.agg [.sl (s.o1.map ZL)]):=by simp[Y6]
 have k:(ZV s)[21]?=xk _:=rfl;have y:=(Z3w V.bool).symm;unfold Rn;cases B:s.h.cycle;simp[B3,B];simp[B3,B,y]
 refine Tr (λp=>[(3,.v (Yd .bool p.2)),(4,.v (vi ((p.1+3:Nat):Int)))])
  (λp=>(p.1=0/\p.2=[])\/(p.1=1/\Wg s.pm s.o3 []=xk p.2)\/(p.1=2/\(Wg s.pm s.o3 []).bind (Wg s.pm s.o4)=xk p.2)) (X4 4 5) (0,[]) Z1 Z1 ?_
 rintro⟨i,m⟩ (⟨rfl,rfl⟩|⟨rfl,x⟩|⟨rfl,x⟩);simp[VI,D];refine Tr (λ(p:Nat×List _)=>[(3,.v (Yd .bool p.2)),(6,.v (vi p.1))]) (λp=>p.1<=P s.o3/\Wg s.pm s.o3 []=Wg s.pm (s.o3.drop p.1) p.2) (X4 6 (P s.o3)) (0,[]) Z1 Z1 ?_;rintro⟨j,r⟩ ⟨w,a⟩;simp only at w a;have d:=Zz (j+1) Z0 Z0;by_cases g:j<P s.o3;have f:=ZdI g;have u:=ZeH g;have J:=A _ (Ze2 g);generalize s.o3[j]=o at*;rw[u,Wg]at a;cases l:o.gone;rw[l]at a;rw[if_neg Z1]at a;simp[X5,g,f,Yi f,l,d];exact⟨j+1,r,⟨Z0,a⟩,⟨rfl,Z0⟩,Zdz⟩;rw[l]at a;rw[if_pos rfl]at a;by_cases n:(ZZ s.pm o.target).getD 0=1;cases q:(ZZ r o.target).getD xh;rw[if_pos ⟨n,q⟩]at a;simp[X5,g,f,Yi f,l,d,k,QP,QO,Wm,V.flatc,n,q,GT];exact⟨j+1,XI r o.target xy,⟨Z0,a⟩,⟨rfl,Z0⟩,Zdz⟩;rw[if_neg (by simp[q])]at a;simp[X5,g,f,Yi f,l,d,k,QP,QO,Wm,V.flatc,n,q,a];rw[if_neg (by simp[n])]at a;simp[X5,g,f,Yi f,l,d,k,QP,QO,Wm,V.flatc,n,a];have:j=P s.o3:=Z0;subst this;rw[List.drop_length,Wg]at a;simp[Zz];exact⟨1,r,by simp[a],Z1,ZdD⟩;simp[U3,F];refine Tr (λ(p:Nat×List _)=>[(3,.v (Yd .bool p.2)),(6,.v (vi p.1))]) (λp=>p.1<=P s.o4/\Wg s.pm s.o4 m=Wg s.pm (s.o4.drop p.1) p.2) (X4 6 (P s.o4)) (0,m) Z1 Z1 ?_;rintro⟨j,r⟩ ⟨w,a⟩;simp only at w a;have d:=Zz (j+1) Z0 Z0;by_cases g:j<P s.o4;have f:=ZdI g;have u:=ZeH g;generalize s.o4[j]=o at*;rw[u,Wg]at a;cases l:o.gone;rw[l]at a;rw[if_neg Z1]at a;simp[X5,g,f,Yi f,l,d];exact⟨j+1,r,⟨Z0,a⟩,⟨rfl,Z0⟩,Zdz⟩;rw[l]at a;rw[if_pos rfl]at a;by_cases n:(ZZ s.pm o.target).getD 0=1;cases q:(ZZ r o.target).getD xh;rw[if_pos ⟨n,q⟩]at a;simp[X5,g,f,Yi f,l,d,k,QP,QO,Wm,V.flatc,n,q,GT];exact⟨j+1,XI r o.target xy,⟨Z0,a⟩,⟨rfl,Z0⟩,Zdz⟩;rw[if_neg (by simp[q])]at a;simp[X5,g,f,Yi f,l,d,k,QP,QO,Wm,V.flatc,n,q,x,a];rw[if_neg (by simp[n])]at a;simp[X5,g,f,Yi f,l,d,k,QP,QO,Wm,V.flatc,n,x,a];have:j=P s.o4:=Z0;subst this;rw[List.drop_length,Wg]at a;simp[Zz];exact⟨2,r,ZcK,Z1,ZdD⟩;simp[R7,VI,C];grind
end Vm
namespace Vm
open Go Go.Proofs
def Rc:Prop:=∀a:List Int,P a<=1000000->(∀w∈a,ZC w)->VC Sol.prog 117 xy [.sl (a.map vu)] (.tup [.sl ((ZM a [] xh).1.map ZL),vi (ZM a [] xh).2])
def Re:Prop:=∀(d:List Int) (a:List (Int×Int)),P d<=1000000->P a<=1000000->(∀w∈d,ZC w)->(∀x∈a,YK x.1 x.2=xy)->
 VC Sol.prog 119 xy [.sl (d.map vu),.sl (a.map Wc)] (.tup [.sl ((ZM d a xy).1.map ZL),vi (ZM d a xy).2])
def Xo(s:Ck)(k:Int):List Ob×Int:=if k<=2 then ZM (Zy s.h k) [] xh else ZM (Zy s.h k) (Tn s.lm (Zy s.h k)) xy
def WM:List Int->Ck->Bool×Ck
 | [],s=>(xy,s)
 |k::l,s=>if(Xo s k).2=0 then WM l (XN s k (Xo s k).1)else(xh,s)
def XU(s:Ck):Bool×Ck:=WM [1,2,3,4] s
def RT s k l:(XN s k l).h=s.h:=Z5g s k l
def Z5d{α l k x}{y:Int×α}(h:y∈XI l k x):y=(k,x)\/y∈l:=by
 grind [XI,List.mem_or_eq_of_mem_set]
def QU{h k}:∀ {l} {m:List (Int×(Int×Int))},(∀o∈l,YK o.size o.ptrs=xy)->(∀x∈m,YK x.2.1 x.2.2=xy)->∀x∈Xa h k m l,YK x.2.1 x.2.2=xy
 | [],m,_,a=>a
 |o::l,m,f,a=>by
  rw[Xa];refine QU (λp g=>f p (Zek _ g)) ?_;split;intro x d;obtain rfl|d:=Z5d d;simp_all;grind;exact a
def Lf{s}(a:s.h.ok){k}:(∀o∈(Xo s k).1,Qk (P (Zy s.h k)) o/\ZC o.target)/\(Xo s k).1.length<=P (Zy s.h k):=by
 unfold Xo;split;exact⟨Jo (XG a k).1,Jp⟩;exact⟨Jo (XG a k).1,Jp⟩
def Cc{lm ws}:∀ {f i} {a:List (Int×Int)},P a<=i->P a<=P ws->P (Wz lm ws f i a)<=P ws
 |0,i,a,_,h=>h
 |f+1,i,a,j,h=>by
  rw[Wz];cases g:ws[i]? with
  |none=>exact h
  |some w=>
   have d:=(ZdJ.1 g).1;simp only;split;split;exact h;exact Cc ZcM ZcM;split;exact Cc Z0 h;exact h
def MY{lm ws}:P (Tn lm ws)<=P ws:=Cc Z1 Z1
def qd{lm ws}(d:∀x∈lm,YK x.2.1 x.2.2=xy):∀ {f i} {a:List (Int×Int)},(∀x∈a,YK x.1 x.2=xy)->∀x∈Wz lm ws f i a,YK x.1 x.2=xy
 |0,i,a,h=>h
 |f+1,i,a,h=>by
  rw[Wz];cases g:ws[i]? with
  |none=>exact h
  |some w=>
   simp only;split;split;exact h;rename_i k j;refine qd d ?_;intro x g;obtain g|g:=Zea.1 g;grind;simp at g;subst g;exact d _ (Fe j);split;exact qd d h;exact h
def qx:IntKind.i64.wrap 4=4:=by decide
def Z81(F:Rc)(B:Re){s}(G:s.h.ok)(D:∀x∈s.lm,YK x.2.1 x.2.2=xy):V7 Sol.prog 105 [.mem LI] [.agg (ZV s)] (.tup [.bool (XU s).1,.agg (ZV (XU s).2)]):=by
 refine Jl Sol.func105 follows Z2 PF Z2 ?_;simp[HP];refine Tr (λ(p:Nat×Ck)=>[(0,.m (ZV p.2)),(3,.v (vi p.1))]) (λp=>p.1<=4/\p.2.h=s.h/\(∀x∈p.2.lm,YK x.2.1 x.2.2=xy)/\XU s=WM ([1,2,3,4].drop p.1) p.2) (X4 3 4) (0,s) Z1 ⟨Z1,rfl,D,rfl⟩ ?_;rintro⟨i,q⟩ ⟨H,A,n,f⟩;simp only at H A n f;have d:=A▸G;have C:i=0\/i=1\/i=2\/i=3\/i=4:=Z0;have j:=λk I=>NT (s:=q) (k:=k) I;have w:=λk=>Z6T (s:=q) n (XG d k).2 (XG d k).1;obtain rfl|rfl|rfl|rfl|rfl:=C;replace j:=j 1 Z0;have st:=Lf d (k:=1);have t:=zW (s:=q) d (k:=1) Z0 (l:=(Xo q 1).1) (Zef st.2 (XG d 1).2);have k1:=F _ (XG d 1).2 (XG d 1).1;have g:=QU (h:=q.h) (k:=1) (l:=(Xo q 1).1) (m:=q.lm) (λo y=>(st.1 o y).1.2) n;replace f:XU s=WM (1:: [2,3,4]) q:=f;rw[WM]at f;have r:Xo q 1=ZM _ [] xh:=rfl;rw[<-r]at k1;generalize Xo q 1=z at*;let⟨l,e⟩:=z;simp only at k1 t f g st;unfold Xg ZV at j;unfold ZV at t;simp[ZV,UR,VI,U3,qx];refine Zx j Z1 ?_;simp;refine Zx k1 Z1 ?_;simp;by_cases u:e=0;rw[if_pos u]at f;simp[u];refine VO t ?_;simp[Zz];exact⟨1,XN q 1 l,⟨Z0,by rw[RT,A],λa b c h=>g _ h,f⟩,⟨Z1,rfl⟩,ZdD⟩;simp_all;replace j:=j 2 Z0;have st:=Lf d (k:=2);have t:=zW (s:=q) d (k:=2) Z0 (l:=(Xo q 2).1) (Zef st.2 (XG d 2).2);have k1:=F _ (XG d 2).2 (XG d 2).1;have g:=QU (h:=q.h) (k:=2) (l:=(Xo q 2).1) (m:=q.lm) (λo y=>(st.1 o y).1.2) n;replace f:XU s=WM (2:: [3,4]) q:=f;rw[WM]at f;have r:Xo q 2=ZM _ [] xh:=rfl;rw[<-r]at k1;generalize Xo q 2=z at*;let⟨l,e⟩:=z;simp only at k1 t f g st;unfold Xg ZV at j;unfold ZV at t;simp[ZV,UR,VI,U3,qx];refine Zx j Z1 ?_;simp;refine Zx k1 Z1 ?_;simp;by_cases u:e=0;rw[if_pos u]at f;simp[u];refine VO t ?_;simp[Zz];exact⟨2,XN q 2 l,⟨Z0,by rw[RT,A],λa b c h=>g _ h,f⟩,⟨Z1,rfl⟩,ZdD⟩;simp_all;replace j:=j 3 Z0;have st:=Lf d (k:=3);have t:=zW (s:=q) d (k:=3) Z0 (l:=(Xo q 3).1) (Zef st.2 (XG d 3).2);have k1:=B _ _ (XG d 3).2 (Zef MY (XG d 3).2) (XG d 3).1 (qd n Z1);replace w:=w 3;have g:=QU (h:=q.h) (k:=3) (l:=(Xo q 3).1) (m:=q.lm) (λo y=>(st.1 o y).1.2) n;replace f:XU s=WM (3:: [4]) q:=f;rw[WM]at f;have r:Xo q 3=ZM _ _ xy:=rfl;rw[<-r]at k1;generalize Xo q 3=z at*;let⟨l,e⟩:=z;simp only at k1 t f g st;unfold Xg ZV at j w;unfold ZV at t;simp[ZV,UR,VI,U3,qx];refine Zx j Z1 ?_;simp;refine Zx j Z1 ?_;simp;refine Zx w Z1 ?_;simp;refine Zx k1 Z1 ?_;simp;by_cases u:e=0;rw[if_pos u]at f;simp[u];refine VO t ?_;simp[Zz];exact⟨3,XN q 3 l,⟨Z0,by rw[RT,A],λa b c h=>g _ h,f⟩,⟨Z1,rfl⟩,ZdD⟩;simp_all;replace j:=j 4 Z0;have st:=Lf d (k:=4);have t:=zW (s:=q) d (k:=4) Z0 (l:=(Xo q 4).1) (Zef st.2 (XG d 4).2);have k1:=B _ _ (XG d 4).2 (Zef MY (XG d 4).2) (XG d 4).1 (qd n Z1);replace w:=w 4;have g:=QU (h:=q.h) (k:=4) (l:=(Xo q 4).1) (m:=q.lm) (λo y=>(st.1 o y).1.2) n;replace f:XU s=WM (4:: []) q:=f;rw[WM]at f;have r:Xo q 4=ZM _ _ xy:=rfl;rw[<-r]at k1;generalize Xo q 4=z at*;let⟨l,e⟩:=z;simp only at k1 t f g st;unfold Xg ZV at j w;unfold ZV at t;simp[ZV,UR,VI,U3,qx];refine Zx j Z1 ?_;simp;refine Zx j Z1 ?_;simp;refine Zx w Z1 ?_;simp;refine Zx k1 Z1 ?_;simp;by_cases u:e=0;rw[if_pos u]at f;simp[u];refine VO t ?_;simp[Zz];exact⟨4,XN q 4 l,⟨Z0,by rw[RT,A],λa b c h=>g _ h,f⟩,⟨Z1,rfl⟩,ZdD⟩;simp_all;replace f:XU s=(xy,q):=f;simp[f,ZV]
end Vm
namespace Vm
open Go Go.Proofs
def Z7S{P f ks cs r}(hv:VC P f xh [.ptr cs] r)(G:r.flatc=xy)(l:xq cs=xq ks)(u:cs.all V.one=xy)(D:ks.all (λk=> !(k==.dead))=xy):
  V7 P f [.mem ks] [.agg cs] (.tup [r,.agg cs]):=by
 let⟨N,O⟩:=hv;refine⟨N,λB w h vs a Q=> ?_⟩;let⟨a2,a1,C⟩:=Q;let⟨tk,j,z⟩:=C 0 _ _ rfl rfl;simp only[Wd]at j;rw[if_pos l]at j;simp[ZdH]at j;subst j;let⟨b,M,T,q,K,X,o⟩:=z;have n:∀(ks:List CK) cs,xq cs=xq ks->YC [] (((ks.zip cs).map λy=>(y.1,E.c y.2)).map (·.2))=xk cs:=by
  intro ks;induction ks with
  |nil=>simp
  |cons k ks ih=>
   intro cs Z;obtain _|⟨c,cs⟩:=cs;simp at Z;simp_all
 have hz:eval [] (.pt xw (((ks.zip cs).map λy=>(y.1,E.c y.2)).map (·.2)))=xk (.ptr cs):=by
  simp only[eval,n ks cs l,ZdS,KI,u,Zes]
 have U:Wj ((ks.zip cs).map λy=>(y.1,E.c y.2))=xh:=by
  rw[Wj,ZgK];intro x L;obtain⟨y,A,rfl⟩:=ZdZ.1 L;have:=ZdT.1 D y.1 (List.of_mem_zip A).1;simpa using this
 have a0:=Kd (G':=λb=>h.F b\/∃t i,h.bl t i=xk b) q X o U hz (λb d=>.inl d) λi b d=>.inr ⟨0,i,d⟩;refine Zhp (O w (λb=>h.F b\/∃t i,h.bl t i=xk b) vs (λb d=> ?_) Z0 λi x L=> ?_) λe w' W=> ?_;obtain d|⟨t,i,d⟩:=d;exact a.f_lt b d;exact(a.b_lt t i b d).2.1;grind;obtain⟨v,rfl,g,J⟩:=W;have p:=g.size;have S:=λb d=>g.block b (a.f_lt b d);have R:=λt i b d=>g.block b (a.b_lt t i b d).2.1;have I:M.size=xq cs:=by
  have:=o.1;simp at this;omega
 refine⟨v,r,[.agg cs],h,rfl,g.mono a.base,λb d=>g.block b (a.k_lt b d),⟨Zef a.base p,λb d=>ZdU (a.f_lt b d) p,a.f_or,a.g_F,λt i b d=> ?_,a.inj,λb d=>ZdU (a.k_lt b d) p,a.k_bl,a.k_F⟩,rfl,J.flat G,⟨rfl,λi k y H Y A=> ?_⟩,rfl⟩;let⟨q1,q2,q3⟩:=a.b_lt t i b d;grind;cases i with
 |zero=>
  simp at H A;subst H;subst A;refine⟨.mem _,by rw[Wd,if_pos l],b,M,T,q,K,?_,o.keep S (λ_ d=>d) (λ_=>rfl) λi b d=>R 0 _ b d⟩;grind
 |succ i=>simp at H
end Vm
namespace Vm
open Go Go.Proofs
def S9:List FuncId:=[103,104,105,106,107,108,109,110]
def jB(f:FuncId):V:=.agg [.fn f]
def Z6c:VC Sol.prog 82 xh [] (.sl (S9.map jB)):=by
 refine ZU Sol.func82 follows Z2 c82 rfl ?_;simp[IB,S9,jB]
def S8(f:FuncId)(s:Ck):Bool×Ck:=
 if f=103 then(Sq s,s)else if f=104 then(Q1 s,s)else if f=105 then XU s
 else if f=106 then(Rn s,s)else if f=107 then(Q7 s,s)else if f=108 then(Qa s,s)else if f=109 then(RJ s,s)else(Q4 s,s)
structure Ck.okk (s:Ck):Prop where
 ok:s.ok
 lm:∀x∈s.lm,YK x.2.1 x.2.2=xy
def Ck.obs_put(s:Ck)k l(a:1<=k/\k<=4)j:(s.put k l).obs j=if j=k\/(k=4/\¬(j=1\/j=2\/j=3))then l else s.obs j:=by
 have:k=1\/k=2\/k=3\/k=4:=Z0;obtain rfl|rfl|rfl|rfl:=this<;>simp[Ck.put,Ck.obs]<;>(split<;>simp_all)<;>(grind)<;>(grind)
def Z3O{s}(d:s.okk){k}(g:1<=k/\k<=4):(XN s k (Xo s k).1).okk:=by
 have st:=Lf d.ok.h (k:=k);have l:=(XG d.ok.h k).2;have a:∀j,(XN s k (Xo s k).1).obs j=((s.put k (Xo s k).1).obs j):=λj=>rfl;refine⟨⟨by rw[RT];exact d.ok.h,λj o f=> ?_,λj=> ?_⟩,QU (λo f=>(st.1 o f).1.2) d.lm⟩;rw[RT];rw[a,Ck.obs_put _ _ _ g]at f;split at f;rename_i h;have:Zy s.h j=Zy s.h k:=by
  obtain rfl|⟨rfl,h⟩:=h;rfl;simp_all[not_or,Zy]
 simp_all;exact d.ok.ob j o f;rw[a,Ck.obs_put _ _ _ g];split;omega;exact d.ok.len j
def NL:∀ {l} {s:Ck},(∀k∈l,1<=k/\k<=4)->s.okk->(WM l s).2.okk/\(WM l s).2.h=s.h
 | [],s,_,a=>⟨a,rfl⟩
 |k::l,s,d,a=>by
  rw[WM];split;simp_all[NL,Zek,Z3O,ZeN,trans,RT];simp_all
def Z7Z{s}(a:s.okk):(XU s).2.okk/\(XU s).2.h=s.h:=NL Z1 a
def Mw{s}(a:s.okk){f}:(S8 f s).2.okk/\(S8 f s).2.h=s.h:=by
 unfold S8;repeat' split
 all_goals first|exact⟨a,rfl⟩|exact Z7Z a
def Z6b(j:Rc)(d:Re){s}(a:s.okk){f}(g:f∈S9):V7 Sol.prog f [.mem LI] [.agg (ZV s)] (.tup [.bool (S8 f s).1,.agg (ZV (S8 f s).2)]):=by
 have go:∀ {f b},VC Sol.prog f xh [Xg s] _->V7 Sol.prog f [.mem LI] [.agg _] (.tup [.bool b,.agg _]):=λh=>Z7S h rfl rfl rfl rfl;simp[S9,Ze5,Zfm,ZgP]at g;obtain rfl|rfl|rfl|rfl|rfl|rfl|rfl|rfl:=g;exact go (Py a.ok.h);exact go Z62;exact Z81 j d a.ok.h a.lm;exact go (Z0s a.ok);exact go (Z6S a.ok);exact go (Z7N a.ok);exact go (Z2N a.ok);exact go (Z67 a.ok)
def RO:List FuncId->Ck->Option Ck
 | [],s=>xk s
 |f::l,s=>if(S8 f s).1=xy then RO l (S8 f s).2 else xw
def X9(h:Hp):Ck:= {h:=h,o1:=[],o2:=[],o3:=[],o4:=[],pm:=[],lm:=[]}
def Vf(h:Hp):Option Ck:=RO S9 (X9 h)
def G5{h}(a:h.ok):(X9 h).okk:=by
 have f:∀k,(X9 h).obs k=[]:=λk=>by simp[X9,Ck.obs]
 refine⟨⟨a,λk o g=> ?_,λk=> ?_⟩,λx d=>(by simp[X9]at d)⟩;simp_all;simp_all
def Al(u:Rc)(k:Re){h}(x:h.ok):VC Sol.prog 51 xh [ZG h] (.tup [match Vf h with|some s=>Xg s|none=>.nul 0,.bool (Vf h).isSome]):=by
 refine ZU Sol.func51 follows Z2 c51 rfl ?_;have k1:=D7 (h:=h);have B:=Z6c;have a:P S9=8:=rfl;unfold ZG at k1;simp[Ip];refine Zx k1 Z1 ?_;simp;refine Zx B Z1 ?_;simp;refine Tr (λ(p:Nat×Ck)=>[(5,.m (ZV p.2)),(6,.v (vi p.1))]) (λp=>p.1<=8/\p.2.okk/\Vf h=RO (S9.drop p.1) p.2) (X4 6 8) (0,X9 h) ZdB ⟨Z1,G5 x,rfl⟩ ?_;rintro⟨i,q⟩ ⟨y,n,g⟩;simp only at y n g;have A:=Zz (i+1) Z0 Z0;by_cases d:i<P S9;have r:=ZdI d;have w:=ZeH d;have z:=Ze2 d;generalize S9[i]=f at*;rw[w,RO]at g;have t:=Z6b u k n z;have l:=(Mw n (f:=f)).1;rw[a]at d;have j:(i:Int)<8:=Z0;simp[X5,d,j,r,Yi r,a,jB,ZV];unfold ZV at t;refine VO t ?_;cases o:(S8 f q).1;rw[if_neg (by simp[o])]at g;simp[g];rw[if_pos o]at g;simp;exact⟨i+1,(S8 f q).2,⟨Z0,l,g⟩,⟨Z1,Z0⟩,Zdz⟩;have:i=8:=Z0;subst this;replace g:Vf h=xk q:=g;simp[a,g,ZV,Xg]
def Gv:∀ {l} {s q:Ck},s.okk->RO l s=xk q->q.okk/\q.h=s.h
 | [],s,q,a,h=>by simp[RO,ZdH]at h;subst h;exact⟨a,rfl⟩
 |f::l,s,q,a,h=>by
  rw[RO]at h;split at h;have d:=Mw a (f:=f);have g:=Gv d.1 h;exact⟨g.1,g.2.trans d.2⟩;cases h
def Z2V{h}(a:h.ok){q}(d:Vf h=xk q):q.okk/\q.h=h:=Gv (G5 a) d
def Od(d:Rc)(a:Re){h}(f:h.ok):VC Sol.prog 25 xh [ZG h] (.bool (Vf h).isSome):=by
 refine ZU Sol.func25 follows Z2 p9 rfl ?_;simp[Ic];refine Zx (Al d a f) Z1 ?_;simp
def Kp(h:Hp)(k:Int):List Ob×Int:=match Vf h with
 |some s=>if 1<=k/\k<=4 then(s.obs k,0)else([],1)
 |none=>([],1)
def Oa(l:Rc)(f:Re){h}(n:h.ok){k}:VC Sol.prog 27 xh [ZG h,vi k] (.tup [.sl ((Kp h k).1.map ZL),vi (Kp h k).2]):=by
 refine ZU Sol.func27 follows Z2 r8 rfl ?_;simp[Id];refine Zx (Al l f n) Z1 ?_;unfold Kp;cases o:Vf h with
 |none=>simp
 |some s=>
  by_cases g:1<=k;by_cases j:k<=4;have:k=1\/k=2\/k=3\/k=4:=Z0;obtain rfl|rfl|rfl|rfl:=this<;>simp[Y6,R7,UR,VI,U3,Ck.obs];have a:¬k<1:=Z0;have d:4<k:=Z0;simp[g,j,a,d];have a:k<1:=Z0;simp[g,a]
def qy(h:Hp):Nat:=match Vf h with
 |some s=>Sg s
 |none=>0
def Og(f:Rc)(a:Re){h}(d:h.ok):VC Sol.prog 22 xh [ZG h] (vi (qy h)):=by
 refine ZU Sol.func22 follows Z2 p7 rfl ?_;simp[Ia];refine Zx (Al f a d) Z1 ?_;unfold qy;cases g:Vf h with
 |none=>simp
 |some s=>
  simp;refine Zx (NF (Z2V d g).1.ok) Z1 ?_;simp
end Vm
end
section
namespace Vm
open Go Go.Proofs
structure Stands (ws:List Int) (old:Bool) (o:Ob):Prop where
 nat:0<=o.at_
 shape:YK o.size o.ptrs=xy
 fits:o.at_+1+o.size<=P ws
 slots:XK ((ws.drop (o.at_.toNat+1)).take o.size.toNat) o.gone o.ptrs 0=xy
 word:∃w,ws[o.at_.toNat]?=xk w/\(if o.gone then old=xy/\(adr w).2=0/\o.target=(adr w).1 else(old=xy->¬(adr w).2=0)/\ZP w=(o.size,o.ptrs,0)/\o.target=0)
def Tiles(ws:List Int)(old:Bool):Nat->List Ob->Prop
 |a,[]=>P ws<=a
 |a,o::l=>o.at_=a/\Stands ws old o/\Tiles ws old (a+1+o.size.toNat) l
def Z3S{ws:List Int}{shs:List (Int×Int)}{old:Bool}{a g t:Nat}{w:Int}{o:Ob}(k:ws[a]?=xk w)(f:XZ shs old a g w=xk (o,t))(h:¬(P ws:Int)<a+1+o.size)
  (j:¬XK ((ws.drop (a+1)).take o.size.toNat) o.gone o.ptrs 0=xh):o.at_=a/\Stands ws old o:=by
 have d:=zY f;refine⟨d.2,?_,d.1,?_,?_,w,?_,?_⟩;omega;omega;simp_all;simp_all;unfold XZ at f;grind
def NJ{ws:List Int}{shs:List (Int×Int)}{old:Bool}:∀(f a j:Nat) (d l:List Ob),Xn ws shs old f a j d=(l,0)->∃r,l=d++r/\Tiles ws old a r
 |0,_,_,_,_,h=>by simp[Xn]at h
 |f+1,a,j,d,l,h=>by
  unfold Xn at h;split at h;rename_i p;split at h;grind;simp only[ZdW,and_true]at h;subst h;exact⟨[],Z1,ZfX.1 p⟩;rename_i w x;split at h;grind;rename_i o t q;split at h;grind;rename_i k;split at h;grind;rename_i n;obtain⟨r,rfl,u⟩:=NJ f _ _ _ _ h;have g:=Z3S x q k n;exact⟨o::r,Z1,g.1,g.2,u⟩
def Sh{ws:List Int}{shs:List (Int×Int)}{old:Bool}{l:List Ob}(h:ZM ws shs old=(l,0)):Tiles ws old 0 l:=by
 obtain⟨r,a,d⟩:=NJ _ _ _ _ _ h;simp_all
def Tiles.stands{ws:List Int}{old:Bool}:∀ {a:Nat} {l:List Ob},Tiles ws old a l->∀o∈l,Stands ws old o/\(a:Int)<=o.at_
 |_,[],_,_,h=>Zdj
 |a,o::l,h,x,d=>by
  have f:=Yw.1 h.2.1.shape;obtain rfl|d:=Ze5.1 d;exact⟨h.2.1,by rw[h.1];omega⟩;have:=Tiles.stands h.2.2 x d;grind
def Tiles.apart{ws:List Int}{old:Bool}:∀ {a:Nat} {l:List Ob},Tiles ws old a l->∀o∈l,∀q∈l,o=q\/o.at_+1+o.size<=q.at_\/q.at_+1+q.size<=o.at_
 |_,[],_,_,h,_,_=>Zdj
 |a,x::l,h,o,f,q,d=>by
  have g:=Yw.1 h.2.1.shape;have e:=h.1;obtain rfl|f:=Ze5.1 f;obtain rfl|d:=Ze5.1 d;simp;have:=(Tiles.stands h.2.2 q d).2;omega;obtain d|d:=Ze5.1 d;have:=(Tiles.stands h.2.2 o f).2;grind;exact Tiles.apart h.2.2 o f q d
structure RightH (h:Hp) (p:Pts):Prop where
 parts:Xm h=xk p
 num:Tg h=xy
 ok:S7 h p=xy
 low:Tiles h.low xh 0 p.low
 high:Tiles h.high xh 0 p.high
 old:Tiles h.old xy 0 p.old
 far:Tiles h.far xy 0 p.far
def Z63{h:Hp}(o:YY h=xy):∃p,RightH h p:=by
 obtain⟨p,a,n,j⟩:=Z64 o;refine⟨p,a,j,n,?_,?_,?_,?_⟩;all_goals
  clear j;unfold Xm at a;dsimp only at a;split at a;cases a;rename_i g;split at a;cases a;rename_i c2;cases a;have c3:(ZM h.low [] xh).2=0/\(ZM h.high [] xh).2=0:=by
   refine⟨ZeO λf=>g (.inl f),ZeO λf=>g (.inr f)⟩
  have c4:∀x:Int,¬x≠0->x=0:=λx d=>ZeO d;have k:=c4 _ (λd=>c2 (.inr (.inr (.inl d))));have l:=c4 _ (λd=>c2 (.inr (.inr (.inr d))));first|exact Sh (Zgb rfl c3.1)|exact Sh (Zgb rfl c3.2)|exact Sh (Zgb rfl k)|exact Sh (Zgb rfl l)
def RightH.tiles{h:Hp}{p:Pts}(r:RightH h p){k:Int}(a:1<=k/\k<=4):Tiles (Zy h k) (decide (2<k)) 0 (p.at k):=by
 have:k=1\/k=2\/k=3\/k=4:=Z0;obtain rfl|rfl|rfl|rfl:=this;exact r.low;exact r.high;exact r.old;exact r.far
def RightH.lay{h:Hp}{p:Pts}(r:RightH h p):ZI (Zu h)=xy:=by
 have:=r.num;simp_all[Tg,ZdL]
def Y8(l:Ly)(k a:Int):Int:=2*(fstL l k+a)+1
theorem U4{l:Ly}(d:ZI l=xy){k a:Int}(f:0<=a):adr (Y8 l k a)=(fstL l k+a,0):=by
 have:=WO d k;unfold adr Y8;grind
theorem Rf{l:Ly}(g:ZI l=xy){k a:Int}(f:1<=k/\k<=4)(d:0<=a/\a<YR l k):Y2 l k a=(fstL l k+a,0):=by
 simp_all[Y2,if_neg]
theorem Qy{l:Ly}(g:ZI l=xy){k a:Int}(j:1<=k/\k<=4)(d:0<=a/\a<YR l k):Yb l (fstL l k+a)=(k,a,0):=by
 have h:=Vi.1 g;have n:=qs g;unfold Yb X1;rw[if_neg (by simp[g])];simp only[ZdL,Ze4];have f:k=1\/k=2\/k=3\/k=4:=Z0;obtain rfl|rfl|rfl|rfl:=f;grind;simp only[fstL,YR]at d⊢;grind;simp only[fstL,YR]at d⊢;grind;simp only[fstL,YR]at d⊢;grind
end Vm
namespace Vm
open Go Go.Proofs
def Fa{g:Hp}(a:ZI (Zu g)=xy):fwd g 0=(0,g,0):=by simp[fwd,a]
theorem yL{l:Ly}(f:ZI l=xy){k a:Int}(d:0<=a):¬Y8 l k a=0:=by
 grind [WO,Y8]
def fwd_here{g:Hp}(h:ZI (Zu g)=xy){k a:Int}(f:1<=k/\k<=2)(d:0<=a/\a< P (Zy g k)):fwd g (Y8 (Zu g) k a)=(Y8 (Zu g) k a,g,0):=by
 grind [yL,U4,Qy,UO,fwd]
def fwd_gone{g:Hp}(d:ZI (Zu g)=xy){k:Int}{a:Nat}(p:3<=k/\k<=4){u:Int}(f:(Zy g k)[a]?=xk u)(h:(adr u).2=0):fwd g (Y8 (Zu g) k a)=(u,g,0):=by
 have q:a< P (Zy g k):=(ZdJ.1 f).1;have j:=yL d (k:=k) (a:=(a:Int)) Z0;have l:=U4 d (k:=k) (a:=(a:Int)) Z0;have n:=Qy d (k:=k) (a:=(a:Int)) Z0 (by rw[UO Z0];omega);have o:(Zy g k).getD a 0=u:=by simp[List.getD,f]
 unfold fwd;simp[-List.getD_eq_getElem?_getD,d,j,l,n,show ¬k<3 by omega,o,h]
def Yh(g:Hp)(k:Int)(a n:Nat):Hp:=Xj (Xp g k a n) k ((zr (Zy g k) a n).set a (Y8 (Zu g) 1 (P g.low)))
def QS{g:Hp}{k:Int}{a n:Nat}(d:a+n<=P (Zy g k)):Zu (Xp g k a n)= {Zu g with low:=(P g.low+n:Nat)}:=by
 simp_all[Zu,Xp,Ly.mk.injEq,true_and,and_true]
theorem GR{g:Hp}(d:ZI (Zu g)=xy){k:Int}{a n:Nat}(f:a+n<=P (Zy g k))(l:(n:Int)<=Xq (Zu g)):ZI (Zu (Xp g k a n))=xy:=by
 rw[QS f];have h:=Vi.1 d;have e:Xq (Zu g)=(Zu g).cap- (Zu g).low- (Zu g).high:=by unfold Xq;rw[d];rfl
 have j:(Zu g).low=P g.low:=rfl;grind [Vi]
def AB{g:Hp}{k:Int}(f:3<=k/\k<=4){a n:Nat}(d:a+n<=P (Zy g k)):Zu (Yh g k a n)= {Zu g with low:=(P g.low+n:Nat)}:=by
 rw[<-QS d];unfold Yh;apply CS;rw[ZgA,qC];have:k=3\/k=4:=Z0;obtain rfl|rfl:=this<;>rfl
def Z3t{g:Hp}(j:ZI (Zu g)=xy){k:Int}(f:3<=k/\k<=4){a n:Nat}(d:a+n<=P (Zy g k))(h:(n:Int)<=Xq (Zu g)):ZI (Zu (Yh g k a n))=xy:=by
 rw[AB f d,<-QS d];grind [GR]
def Z5O{g:Hp}{k:Int}(d:3<=k/\k<=4){a n:Nat}(f:a+n<=P (Zy g k))(j b:Int):Y8 (Zu (Yh g k a n)) j b=Y8 (Zu g) j b:=by
 rw[AB d f];rfl
def fwd_wait{g:Hp}(h:ZI (Zu g)=xy){k:Int}{a:Nat}(C:3<=k/\k<=4){u:Int}(B:(Zy g k)[a]?=xk u)(q:¬(adr u).2=0){n:Nat}{pt:Int}(p:ZP u=((n:Int),pt,0))
  (j:a+(n+1)<=P (Zy g k)) (A:((n+1:Nat):Int)<=Xq (Zu g)):fwd g (Y8 (Zu g) k a)=(Y8 (Zu g) 1 (P g.low),Yh g k a (n+1),0):=by
 have r:=yL h (k:=k) (a:=(a:Int)) Z0;have t:=U4 h (k:=k) (a:=(a:Int)) Z0;have w:=Qy h (k:=k) (a:=(a:Int)) Z0 (by grind [UO]);have x:(Zy g k).getD a 0=u:=by simp[List.getD,B]
 have f:=GR h j A;have y:Y2 (Zu (Xp g k a (n+1))) 1 (P g.low)=(fstL (Zu g) 1+P g.low,0):=by
  have:=Rf f (k:=1) (a:=(P g.low:Int)) Z0 (by rw[QS j];simp only[YR,Zes];omega);rw[this,QS j];rfl
 have d:=WO f 1;rw[QS j]at d;simp only[YR,Zes]at d;have l:fstL {Zu g with low:=(P g.low+(n+1):Nat)} 1=fstL (Zu g) 1:=rfl;rw[l]at d;have z:XH (fstL (Zu g) 1+P g.low)=(Y8 (Zu g) 1 (P g.low),0):=by
  unfold XH Y8;rw[if_neg Z0]
 unfold fwd;have o:¬k<3:=Z0;simp only[h,r,t,w,if_neg o,Zfp,Zew,ne_eq,Zhv,ZdY,x,q,p];unfold TC;rw[if_neg Z0,if_neg Z0];simp only[y,z];rfl
theorem CZ{ws:List Int}{a:Nat}:∀(n j:Nat),j<a\/a+n<=j->(zr ws a n)[j]?=ws[j]?
 |0,_,_=>rfl
 |n+1,j,h=>by
  unfold zr;rw[ZeU Z0];exact CZ n j Z0
def AE{g:Hp}{k:Int}(o:3<=k/\k<=4){a n:Nat}(p:0<n){j:Int}(l:3<=j/\j<=4){b:Nat}(h:j≠k\/b<a\/a+n<=b):(Zy (Yh g k a n) j)[b]?=(Zy g j)[b]? :=by
 have f:k=3\/k=4:=Z0;have d:j=3\/j=4:=Z0;obtain rfl|rfl:=f<;>obtain rfl|rfl:=d<;>simp only[Yh,Xp,Z82,Z83,Ky,Kz]
 grind [List.getElem?_set_ne,CZ];grind [List.getElem?_set_ne,CZ]
def AC{g:Hp}{k:Int}(l:3<=k/\k<=4){a n:Nat}{j:Int}(h:3<=j/\j<=4):P (Zy (Yh g k a n) j)=P (Zy g j):=by
 have f:k=3\/k=4:=Z0;have d:j=3\/j=4:=Z0;obtain rfl|rfl:=f<;>obtain rfl|rfl:=d<;>simp[Yh,Xp]
def Z3s{g:Hp}{k:Int}(h:3<=k/\k<=4){a n:Nat}(f:a+n<=P (Zy g k)):(Yh g k a n).low.length=P g.low+n/\(Yh g k a n).high=g.high:=by
 have d:k=3\/k=4:=Z0;obtain rfl|rfl:=d<;>simp only[Ky,Kz]at f<;>simp[Yh,Xp]<;>omega
end Vm
namespace Vm
open Go Go.Proofs
def Ce{h:Hp}{ws:List Int}{low:List Ob}:∀(f i:Nat) (d l:List (Int×Int)),WT h ws low f i d=xk l->∃r,l=d++r
 |0,_,_,_,a=>by simp[WT]at a
 |f+1,i,d,l,a=>by
  unfold WT at a;split at a;cases a;exact⟨[],Z1⟩;split at a;split at a;cases a;obtain⟨r,g⟩:=Ce f _ _ _ a;exact⟨_,by rw[g,Zey]⟩;split at a;exact Ce f _ _ _ a;cases a
def qf{h:Hp}{ws:List Int}{low:List Ob}:∀(f i:Nat) (d k:List (Int×Int)),WT h ws low f i d=xk k->∀(p:Nat) (g l:List Ob),Xn ws k xy p i (P d) g=(l,0)->
  ∃r,l=g++r/\∀o∈r,o.gone=xy->∃q,Yz h 1 low o.target=xk q/\q.size=o.size/\q.ptrs=o.ptrs
 |0,_,_,_,j=>by simp[WT]at j
 |f+1,i,d,k,j=>by
  intro p g l a;cases p with
  |zero=>simp[Xn]at a
  |succ p=>
   unfold WT at j;unfold Xn at a;cases x:ws[i]? with
   |none=>
    simp_all
   |some w=>
    simp only[x]at j a;by_cases t:(adr w).2=0;simp only[t,Zes]at j;cases C:Yz h 1 low (adr w).1 with
    |none=>simp_all
    |some q=>
     simp only[C]at j;obtain⟨r,D⟩:=Ce _ _ _ _ j;have F:k[P d]?=xk (q.size,q.ptrs):=by rw[D];simp
     unfold XZ at a;rw[if_pos ⟨rfl,t⟩]at a;simp only[F]at a;by_cases u:YK q.size q.ptrs=xy;rw[if_pos u]at a;simp only at a;split at a;simp at a;split at a;simp at a;have n:P d+1=P (d++[(q.size,q.ptrs)]):=Z1;rw[n]at a;obtain⟨G,z,A⟩:=qf f _ _ _ j _ _ _ a;grind;simp_all
    simp only[t,Zew]at j;by_cases y:(ZP w).2.2=0;simp only[y,Zes]at j;unfold XZ at a;rw[if_neg (λB=>t B.2),if_pos y]at a;simp only at a;split at a;simp at a;split at a;simp at a;obtain⟨G,z,A⟩:=qf f _ _ _ j _ _ _ a;simp_all;simp_all
def RightH.gone_low{h:Hp}{p:Pts}(r:RightH h p){k:Int}(D:3<=k/\k<=4){o:Ob}(d:o∈p.at k)(A:o.gone=xy):∃q∈p.low,YV h 1 q.at_=o.target/\q.size=o.size/\q.ptrs=o.ptrs:=by
 have a:=r.parts;unfold Xm at a;dsimp only at a;split at a;cases a;split at a;cases a;rename_i c2
 have g:∀(f:List Int) (x:Option (List (Int×Int))),x=Vj h f (ZM h.low [] xh).1->¬x=xw->(ZM f (x.getD []) xy).2=0->o∈(ZM f (x.getD []) xy).1->
   ∃q∈(ZM h.low [] xh).1,YV h 1 q.at_=o.target/\q.size=o.size/\q.ptrs=o.ptrs:=by
  intro f x C F n d;obtain _|j:=x;simp_all;simp only[Zeb]at n d;obtain⟨H,l,t⟩:=qf _ _ _ _ C.symm (P f+1) [] (ZM f j xy).1 (Zgb rfl n);simp only[ZeC]at l;rw[l]at d;obtain⟨q,B,G⟩:=t o d A;have:=Zha B;grind [DN]
 have u:¬Vj h h.old (ZM h.low [] xh).1=xw:=λe=>c2 (.inl e);have w:¬Vj h h.far (ZM h.low [] xh).1=xw:=λe=>c2 (.inr (.inl e));have y:(ZM h.old ((Vj h h.old (ZM h.low [] xh).1).getD []) xy).2=0:=ZeO λe=>c2 (.inr (.inr (.inl e)));have z:(ZM h.far ((Vj h h.far (ZM h.low [] xh).1).getD []) xy).2=0:=ZeO λe=>c2 (.inr (.inr (.inr e)));cases a;have:k=3\/k=4:=Z0;obtain rfl|rfl:=this;exact g _ _ rfl u y ZcX;exact g _ _ rfl w z ZcX
def O0{l:List Ob}{o:Ob}(h:o∈l):WU o<=Yy l:=by
 unfold Yy;induction l with
 |nil=>simp at h
 |cons x l a=>
  grind
def Z7W{p:Pts}{k:Int}(a:3<=k/\k<=4){o:Ob}(h:o∈p.at k):WU o<=Xd p:=by
 have:k=3\/k=4:=Z0;unfold Xd;obtain rfl|rfl:=this;have:=O0 (l:=p.old) h;omega;have:=O0 (l:=p.far) h;omega
def Z5N{l:Ly}(d:ZI l=xy){k j a b:Int}(o:1<=k/\k<=4)(n:1<=j/\j<=4)(f:0<=a/\a<YR l k)(g:0<=b/\b<YR l j)(h:Y8 l k a=Y8 l j b):k=j/\a=b:=by
 have p:=Qy d o f;have q:=Qy d n g;have:fstL l k+a=fstL l j+b:=by unfold Y8 at h;omega
 simp_all
def NQ{u a:Int}(d:(adr u).2=0)(h:(adr u).1=a):u=2*a+1:=by
 unfold adr at d h;grind
def OP{u:Int}(h:(ZP u).2.2=0):¬(adr u).2=0:=by
 unfold ZP at h;split at h;rename_i a;unfold adr;grind;grind
end Vm
namespace Vm
open Go Go.Proofs
end Vm
end
section
namespace Vm
open Go Go.Proofs
def Tiles.order{ws:List Int}{old:Bool}:∀ {a:Nat} {l:List Ob},Tiles ws old a l->l.Pairwise λx y=>x.at_<y.at_
 |_,[],_=>.nil
 |a,o::l,h=>by
  have f:=Yw.1 h.2.1.shape;refine .cons (λx d=> ?_) (Tiles.order h.2.2);have:=(Tiles.stands h.2.2 x d).2;have:=h.1;omega
def Cr{h:Hp}(f:ZI (Zu h)=xy){k:Int}(d:1<=k/\k<=4){old:Bool}{o:Ob}(a:Stands (Zy h k) old o):YV h k o.at_=fstL (Zu h) k+o.at_:=by
 have:=Yw.1 a.shape;have:=a.fits;have:=a.nat;grind [YV,Rf,UO]
def Z7n{h:Hp}(f:ZI (Zu h)=xy){k:Int}(d:1<=k/\k<=4){old:Bool}{o:Ob}(a:Stands (Zy h k) old o):Yb (Zu h) (YV h k o.at_)=(k,o.at_,0):=by
 have:=Yw.1 a.shape;have:=a.fits;have:=a.nat;rw[Cr f d a];grind [Qy,UO]
def Tiles.starts{h:Hp}(f:ZI (Zu h)=xy){k:Int}(d:1<=k/\k<=4){old:Bool}{l:List Ob}(a:Tiles (Zy h k) old 0 l):l.Pairwise λx y=>YV h k x.at_≠YV h k y.at_:=by
 refine List.Pairwise.imp_of_mem ?_ a.order;intro x y j n g;rw[Cr f d (a.stands x j).1,Cr f d (a.stands y n).1];omega
def H2{h:Hp}{a:Int}:∀ {l:List Ob} {m:List (Int×(Int×Int))},(l.Pairwise λx y=>YV h 1 x.at_≠YV h 1 y.at_)->ZZ (Xa h 1 m l) a=match Yz h 1 l a with
  |some o=>xk (o.size,o.ptrs)
  |none=>ZZ m a
 | [],m,_=>rfl
 |o::l,m,f=>by
  obtain⟨g,d⟩:=Zhi.1 f;rw[Xa,H2 d];unfold Yz;rw[Zh9];cases j:l.find? (λo=>YV h 1 o.at_==a)with
  |some q=>
   grind
  |none=>
   simp only[Zes,QE];grind [YV,Y2,Zu]
def AN{h:Hp}{k:Int}(a:¬k=1):∀ {l:List Ob} {m:List (Int×(Int×Int))},Xa h k m l=m
 | [],m=>rfl
 |o::l,m=>by simp_all[Xa,if_neg,AN]
def Km{h:Hp}{k a:Int}:∀ {l:List Ob} {m:List (Int×Int)},ZZ (Wo h k m l) a=if(Yz h k l a).isSome=xy then xk k else ZZ m a
 | [],m=>rfl
 |o::l,m=>by
  rw[Wo,Km];unfold Yz;rw[Zh9,QE];by_cases f:YV h k o.at_=a;have d:(Y2 (Zu h) k o.at_).1=a:=f;have:(YV h k o.at_==a)=xy:=ZcZ;simp[this,d];have d:¬(Y2 (Zu h) k o.at_).1=a:=f;have:(YV h k o.at_==a)=xh:=ZcZ;simp[this,d]
def Cd{lm:List (Int×(Int×Int))}{ws:List Int}:∀(f i:Nat) (a:List (Int×Int)),∃r,Wz lm ws f i a=a++r
 |0,_,a=>⟨[],by simp[Wz]⟩
 |f+1,i,a=>by
  rw[Wz];cases ws[i]? with
  |none=>simp
  |some w=>
   simp only;split;split;simp;obtain⟨r,d⟩:=Cd (lm:=lm) (ws:=ws) f _ _;exact⟨_,by rw[d,Zey]⟩;split;exact Cd f _ _;simp
def qb{lm:List (Int×(Int×Int))}{h:Hp}{low:List Ob}(j:∀a,ZZ lm a=(Yz h 1 low a).map λo=>(o.size,o.ptrs)){ws:List Int}:∀(f i:Nat) (g k:List (Int×Int)),WT h ws low f i g=xk k->Wz lm ws f i g=k
 |0,_,_,_,d=>by simp[WT]at d
 |f+1,i,g,k,d=>by
  rw[WT]at d;rw[Wz];cases r:ws[i]? with
  |none=>rw[r]at d;simpa using d
  |some w=>
   rw[r]at d;simp only at d⊢;by_cases l:(adr w).2=0;rw[if_pos l]at d⊢;rw[j];cases n:Yz h 1 low (adr w).1 with
   |none=>rw[n]at d;cases d
   |some o=>rw[n]at d;exact qb j _ _ _ _ d
   rw[if_neg l]at d⊢;by_cases q:(ZP w).2.2=0;rw[if_pos q]at d⊢;exact qb j _ _ _ _ d;rw[if_neg q]at d;cases d
def qc{lm:List (Int×(Int×Int))}{h:Hp}{low:List Ob}(k:∀a,ZZ lm a=(Yz h 1 low a).map λo=>(o.size,o.ptrs)){ws:List Int}:∀(f i:Nat) (d:List (Int×Int)),0<f->P ws<f+i->WT h ws low f i d=xw->
  ∀(l:Nat) (j:List Ob),(Xn ws (Wz lm ws f i d) xy l i (P d) j).2≠0
 |0,_,_,x,_,_=>Z0
 |f+1,i,d,x,F,g=>by
  intro l j;cases l with
  |zero=>simp[Xn]
  |succ l=>
   rw[WT]at g;rw[Wz,Xn];cases u:ws[i]? with
   |none=>simp_all
   |some w=>
    have y:=(ZdJ.1 u).1;rw[u]at g;simp only at g⊢;by_cases q:(adr w).2=0;rw[if_pos q]at g⊢;rw[k];cases z:Yz h 1 low (adr w).1 with
    |none=>
     simp only[ZhX];have:XZ d xy i (P d) w=xw:=by
      unfold XZ;rw[if_pos ⟨rfl,q⟩];simp
     rw[this];simp
    |some o=>
     rw[z]at g;simp only[Ze6]at g⊢;obtain⟨r,A⟩:=Cd (lm:=lm) (ws:=ws) f (i+1+o.size.toNat) (d++[(o.size,o.ptrs)]);have D:=qc k f (i+1+o.size.toNat) (d++[(o.size,o.ptrs)]) Z0 Z0 g l;generalize Wz lm ws f (i+1+o.size.toNat) (d++[(o.size,o.ptrs)])=n at*;have B:n[P d]?=xk (o.size,o.ptrs):=by rw[A];simp
     unfold XZ;rw[if_pos ⟨rfl,q⟩,B];simp only;by_cases t:YK o.size o.ptrs=xy;rw[if_pos t];simp only;split;simp;split;simp;simp_all;simp_all
    rw[if_neg q]at g⊢;by_cases C:(ZP w).2.2=0;rw[if_pos C]at g⊢;have D:=qc k f (i+1+(ZP w).1.toNat) d Z0 Z0 g l;generalize Wz lm ws f (i+1+(ZP w).1.toNat) d=n at*;unfold XZ;grind;simp_all[if_neg,XZ]
structure Found (h:Hp) (s:Ck) (p:Pts):Prop where
 hp:s.h=h
 o1:s.o1=p.low
 o2:s.o2=p.high
 o3:s.o3=p.old
 o4:s.o4=p.far
 pm:s.pm=Wo h 4 (Wo h 3 (Wo h 2 (Wo h 1 [] p.low) p.high) p.old) p.far
def Z80{h:Hp}(C:ZI (Zu h)=xy):match Xm h with
  |some p=>(XU (X9 h)).1=xy/\Found h (XU (X9 h)).2 p
  |none=>(XU (X9 h)).1=xh:=by
 unfold XU Xm;dsimp only;have D:Xo (X9 h) 1=ZM h.low [] xh:=rfl;rw[WM,D];by_cases w:(ZM h.low [] xh).2=0;case neg=>simp_all
 rw[if_pos w];have B:Tiles h.low xh 0 (ZM h.low [] xh).1:=Sh (ws:=h.low) (shs:=[]) (Zgb rfl w);generalize (ZM h.low [] xh).1=d at*;have F:Xo (XN (X9 h) 1 d) 2=ZM h.high [] xh:=rfl;rw[WM,F];by_cases A:(ZM h.high [] xh).2=0;case neg=>simp_all
 rw[if_pos A,if_neg Z0];generalize (ZM h.high [] xh).1=n at*;have g:∀a,ZZ (Xa h 1 [] d) a=(Yz h 1 d a).map λo=>(o.size,o.ptrs):=by
  intro a;rw[H2 (Tiles.starts C (k:=1) Z0 (by simpa using B))];cases Yz h 1 d a<;>rfl
 have j:(XN (XN (X9 h) 1 d) 2 n).lm=Xa h 1 [] d:=AN Z0;have G:Xo (XN (XN (X9 h) 1 d) 2 n) 3=ZM h.old (Tn (Xa h 1 [] d) h.old) xy:=by
  rw[<-j];rfl
 rw[WM,G];cases x:Vj h h.old d with
 |none=>
  have:=qc g (P h.old+1) 0 [] Z0 Z0 x (P h.old+1) [];have q:¬(ZM h.old (Tn (Xa h 1 [] d) h.old) xy).2=0:=this;rw[if_neg q,if_pos (.inl rfl)]
 |some shs=>
 have t:Tn (Xa h 1 [] d) h.old=shs:=qb g _ _ _ _ x;rw[t];simp only[Zeb];by_cases q:(ZM h.old shs xy).2=0;case neg=>simp_all
 rw[if_pos q];generalize (ZM h.old shs xy).1=z at*;have l:(XN (XN (XN (X9 h) 1 d) 2 n) 3 z).lm=Xa h 1 [] d:=by
  rw[<-j];exact AN Z0
 have H:Xo (XN (XN (XN (X9 h) 1 d) 2 n) 3 z) 4=ZM h.far (Tn (Xa h 1 [] d) h.far) xy:=by
  rw[<-l];rfl
 rw[WM,H];cases y:Vj h h.far d with
 |none=>
  have:=qc g (P h.far+1) 0 [] Z0 Z0 y (P h.far+1) [];have r:¬(ZM h.far (Tn (Xa h 1 [] d) h.far) xy).2=0:=this;rw[if_neg r,if_pos (.inr (.inl rfl))]
 |some f=>
 have u:Tn (Xa h 1 [] d) h.far=f:=qb g _ _ _ _ y;rw[u];simp only[Zeb];by_cases r:(ZM h.far f xy).2=0;case neg=>simp_all
 rw[if_pos r,if_neg ZcK];generalize (ZM h.far f xy).1=I at*;exact⟨rfl,rfl,rfl,rfl,rfl,rfl,rfl⟩
end Vm
namespace Vm
open Go Go.Proofs
def Bi{h:Hp}{p:Pts}(a:Xm h=xk p){k:Int}(n:1<=k/\k<=4):Tiles (Zy h k) (decide (2<k)) 0 (p.at k):=by
 have:k=1\/k=2\/k=3\/k=4:=Z0;unfold Xm at a;dsimp only at a;split at a;cases a;rename_i g;split at a;cases a;rename_i c2;cases a;have c3:(ZM h.low [] xh).2=0/\(ZM h.high [] xh).2=0:=by
  refine⟨ZeO λf=>g (.inl f),ZeO λf=>g (.inr f)⟩
 have c4:∀x:Int,¬x≠0->x=0:=λx d=>ZeO d;have j:=c4 _ (λd=>c2 (.inr (.inr (.inl d))));have l:=c4 _ (λd=>c2 (.inr (.inr (.inr d))));obtain rfl|rfl|rfl|rfl:=this;exact Sh (Zgb rfl c3.1);exact Sh (Zgb rfl c3.2);exact Sh (Zgb rfl j);exact Sh (Zgb rfl l)
def Z4z{h:Hp}{p:Pts}(a:Xm h=xk p){k:Int}(C:3<=k/\k<=4){o:Ob}(d:o∈p.at k)(z:o.gone=xy):∃q∈p.low,YV h 1 q.at_=o.target/\q.size=o.size/\q.ptrs=o.ptrs:=by
 unfold Xm at a;dsimp only at a;split at a;cases a;split at a;cases a;rename_i c2
 have g:∀(f:List Int) (x:Option (List (Int×Int))),x=Vj h f (ZM h.low [] xh).1->¬x=xw->(ZM f (x.getD []) xy).2=0->o∈(ZM f (x.getD []) xy).1->
   ∃q∈(ZM h.low [] xh).1,YV h 1 q.at_=o.target/\q.size=o.size/\q.ptrs=o.ptrs:=by
  intro f x B D n d;obtain _|j:=x;simp_all;simp only[Zeb]at n d;obtain⟨G,l,r⟩:=qf _ _ _ _ B.symm (P f+1) [] (ZM f j xy).1 (Zgb rfl n);simp only[ZeC]at l;rw[l]at d;obtain⟨q,A,F⟩:=r o d z;have:=Zha A;grind [DN]
 have t:¬Vj h h.old (ZM h.low [] xh).1=xw:=λe=>c2 (.inl e);have u:¬Vj h h.far (ZM h.low [] xh).1=xw:=λe=>c2 (.inr (.inl e));have w:(ZM h.old ((Vj h h.old (ZM h.low [] xh).1).getD []) xy).2=0:=ZeO λe=>c2 (.inr (.inr (.inl e)));have y:(ZM h.far ((Vj h h.far (ZM h.low [] xh).1).getD []) xy).2=0:=ZeO λe=>c2 (.inr (.inr (.inr e)));cases a;have:k=3\/k=4:=Z0;obtain rfl|rfl:=this;exact g _ _ rfl t w ZcX;exact g _ _ rfl u y ZcX
theorem P8{h:Hp}(q:ZI (Zu h)=xy){p:Pts}(n:Xm h=xk p){k:Int}(d:1<=k/\k<=4){a:Int}(l:(Yz h k (p.at k) a).isSome=xy):∃b,Yb (Zu h) a=(k,b,0):=by
 obtain⟨o,f⟩:=ZeR.1 l;have g:=Zgo f;have j:YV h k o.at_=a:=by have:=Zha f;simpa using this
 rw[<-j];exact⟨_,Z7n q d ((Bi n d).stands o g).1⟩
def DP{h:Hp}(o:ZI (Zu h)=xy){p:Pts}(n:Xm h=xk p){k j:Int}(g:1<=k/\k<=4)(f:1<=j/\j<=4)(l:k≠j){a:Int}(d:(Yz h k (p.at k) a).isSome=xy):(Yz h j (p.at j) a).isSome=xh:=by
 grind [Yz,P8,Prod.mk.injEq]
section
variable {h:Hp}{s:Ck}{p:Pts}
theorem Found.obs(a:Found h s p){k:Int}:s.obs k=p.at k:=by
 unfold Ck.obs Pts.at;rw[a.o1,a.o2,a.o3,a.o4]
def Found.pm_at(d:Found h s p)(a:Int):ZZ s.pm a=if(Yz h 4 (p.at 4) a).isSome=xy then xk 4 else if(Yz h 3 (p.at 3) a).isSome=xy then xk 3 else if(Yz h 2 (p.at 2) a).isSome=xy then xk 2 else if(Yz h 1 (p.at 1) a).isSome=xy then xk 1 else xw:=by
 rw[d.pm,Km,Km,Km,Km];rfl
def Found.points(r:Found h s p)(z:ZI (Zu h)=xy)(y:Xm h=xk p)(w:Int):YN s w 1 2=Xu h p w 1 2/\YN s w 3 4=Xu h p w 3 4/\YN s w 1 4=(Xu h p w 1 2||Xu h p w 3 4):=by
 unfold YN Xu;by_cases d:w=0;simp[d];by_cases q:(adr w).2=0;case neg=>grind
 simp only[d,q,ZgV,Zgi,Zgj,Zgl];rw[r.pm_at];generalize (adr w).1=a;have o:=λk j u t x=>DP (k:=k) (j:=j) z y u t x (a:=a);have G:=o 4 3 Z0 Z0 Z0;have F:=o 4 2 Z0 Z0 Z0;have D:=o 4 1 Z0 Z0 Z0;have C:=o 3 2 Z0 Z0 Z0;have B:=o 3 1 Z0 Z0 Z0;have A:=o 2 1 Z0 Z0 Z0;clear o;generalize (Yz h 1 (p.at 1) a).isSome=f at*;generalize (Yz h 2 (p.at 2) a).isSome=g at*;generalize (Yz h 3 (p.at 3) a).isSome=l at*;generalize (Yz h 4 (p.at 4) a).isSome=n at*;cases f<;>cases g<;>cases l<;>cases n<;>simp_all
end
end Vm
namespace Vm
open Go Go.Proofs
def Xz(l:List Ob):List Int:=(l.filter (·.gone)).map (·.target)
def Z5e{α:Type}{l:List (Int×α)}{k:Int}{x:α}(h:ZZ l k=xw):P (XI l k x)=P l+1:=by
 grind [ZZ,Option.map_eq_none_iff,List.findIdx?_eq_none_iff,List.find?_eq_none,XI]
def LK{pm:List (Int×Int)}:∀ {l:List Ob} {m:List (Int×Bool)} {K:List Int},K.Nodup->(∀a,ZZ m a=if a∈K then xk xy else xw)->P m=P K->
  match Wg pm l m with
  |some w=>(∀t∈Xz l,(ZZ pm t).getD 0=1)/\(K++Xz l).Nodup/\P w=P (K++Xz l)/\∀a,ZZ w a=if a∈K++Xz l then xk xy else xw
  |none=>¬((∀t∈Xz l,(ZZ pm t).getD 0=1)/\(K++Xz l).Nodup)
 | [],m,K,q,f,u=>by simp only[Wg,Xz,List.filter_nil,Zfg,Zf7];exact⟨Z1,q,u,f⟩
 |o::l,m,K,q,f,u=>by
  rw[Wg];cases A:o.gone with
  |false=>
   rw[if_neg Z1];have:Xz (o::l)=Xz l:=by simp[Xz,A]
   rw[this];exact LK q f u
  |true=>
   rw[if_pos rfl];have d:Xz (o::l)=o.target::Xz l:=by simp[Xz,A]
   rw[d];by_cases k:(ZZ pm o.target).getD 0=1;by_cases n:o.target∈K;rw[if_neg (by rw[f,if_pos n];simp)];rintro⟨_,D⟩;exact(ZgL.1 D).2.2 _ n _ (ZeN ..) rfl;have j:ZZ m o.target=xw:=by rw[f,if_neg n]
   rw[if_pos ⟨k,by rw[j];rfl⟩]
   have g:=LK (pm:=pm) (l:=l) (m:=XI m o.target xy) (K:=K++[o.target]) (by
     rw[ZgL];refine⟨q,Z1,λa C b z=> ?_⟩;simp at z;subst z;intro e;subst e;exact n C) (λa=>by
     rw[QE,f];by_cases e:o.target=a;simp[e];have B:¬a=o.target:=λx=>e x.symm;simp[e,B]) (by rw[Z5e j,u];simp)
   rw[Zey,ZgT]at g;cases r:Wg pm l (XI m o.target xy)with
   |none=>
    rw[r]at g;rintro⟨y,F⟩;exact g ⟨λt d=>y t (Zek _ d),F⟩
   |some w=>
    rw[r]at g;refine⟨λt d=> ?_,g.2⟩;obtain rfl|d:=Ze5.1 d;exact k;exact g.1 t d
   rw[if_neg (λr=>k r.1)];rintro⟨y,_⟩;exact k (y _ (ZeN ..))
def Nn{l:List Ob}{a:Int}:Xy l a=(Xz l).count a:=by
 unfold Xy Xz;induction l with
 |nil=>rfl
 |cons o l d=>
  grind
def Z46{T S:List Int}(g:S.Nodup)(f:T⊆S):(T.Nodup/\P T=P S)↔ ∀a∈S,T.count a=1:=by
 constructor;rintro⟨d,q⟩ a l;rw[d.count];by_cases n:a∈T;grind;have k:T⊆S.erase a:=λx j=>(g.mem_erase_iff).2 ⟨λe=>n (e▸j),f j⟩;have o:=d.length_le_of_subset k;grind;intro h;have d:T.Nodup:=List.nodup_iff_count.2 λa=>by
  grind
 refine⟨d,Nat.le_antisymm (d.length_le_of_subset f) (g.length_le_of_subset λa l=> ?_)⟩;grind
section
variable {h:Hp}{s:Ck}{p:Pts}
def Found.copied(f:Found h s p)(C:ZI (Zu h)=xy)(y:Xm h=xk p):Rn s=(!h.cycle||p.low.all (R5 h p)):=by
 have G:=Bi y (k:=1) Z0;have F:(p.low.map λo=>YV h 1 o.at_).Nodup:=by
  have:=Tiles.starts C (k:=1) Z0 G;rw[List.nodup_iff_pairwise_ne,List.pairwise_map];exact this
 have n:∀t∈Xz s.o3++Xz s.o4,t∈p.low.map λo=>YV h 1 o.at_:=by
  intro t d;have:∃k,(3<=k/\k<=4)/\t∈Xz (p.at k):=by
   obtain d|d:=Zea.1 d;exact⟨3,Z0,by rw[f.o3]at d;exact d⟩;exact⟨4,Z0,by rw[f.o4]at d;exact d⟩
  obtain⟨k,x,d⟩:=this;simp only[Xz,ZdZ,ZgB]at d;obtain⟨o,⟨r,I⟩,rfl⟩:=d;obtain⟨q,z,B,_⟩:=Z4z y x r I;exact ZdZ.2 ⟨q,z,B⟩
 have L:∀t∈Xz s.o3++Xz s.o4,(ZZ s.pm t).getD 0=1:=by
  intro t d;obtain⟨q,z,B⟩:=ZdZ.1 (n t d);have u:(Yz h 1 (p.at 1) t).isSome=xy:=by
   unfold Yz;rw[List.find?_isSome];exact⟨q,z,ZcK⟩
  have o:=λk x J=>DP (k:=1) (j:=k) C y Z0 x J u;rw[f.pm_at,o 4 Z0 Z0,o 3 Z0 Z0,o 2 Z0 Z0,u];rfl
 unfold Rn;rw[f.hp];cases Q:h.cycle;rfl;simp only[Zgw,Zgj];have key:=Z46 F (T:=Xz s.o3++Xz s.o4) n;have g:p.low.all (R5 h p)=xy↔ ∀a∈(p.low.map λo=>YV h 1 o.at_),(Xz s.o3++Xz s.o4).count a=1:=by
  rw[ZdT];constructor;intro A a H;obtain⟨o,r,rfl⟩:=ZdZ.1 H;have:=A o r;simp only[R5,Ze4,UQ,Nn]at this;rw[List.count_append,f.o3,f.o4];exact this;intro A o r;have:=A _ (ZdZ.2 ⟨o,r,rfl⟩);rw[List.count_append,f.o3,f.o4]at this;simp_all[R5,Ze4,UQ,Nn]
 rw[Zem]at key;have w:=LK (pm:=s.pm) (l:=s.o3) (m:=[]) (K:=[]) Z1 (by simp[ZZ]) rfl;simp only[ZeC]at w;rw[Zh6,g,<-key];cases u:Wg s.pm s.o3 []with
 |none=>
  grind
 |some m=>
  rw[u]at w;obtain⟨S,M,N,O⟩:=w;simp only[ZdS];have c2:=LK (pm:=s.pm) (l:=s.o4) (m:=m) (K:=Xz s.o3) M O N;cases D:Wg s.pm s.o4 m with
  |none=>
   simp_all
  |some R=>
   rw[D]at c2;obtain⟨U,W,P,X⟩:=c2;simp only[Ze4,P,f.o1];simp_all
end
end Vm
namespace Vm
open Go Go.Proofs
def N5:∀ {l:List Int} {a:Int} {i:Nat},XK l xy a i=xy->∀w∈l,w=0
 | [],_,_,_,w,d=>Zdo
 |x::l,a,i,h,w,d=>by
  simp only[XK,ZdL,Zgw,Zgj,Ze4]at h;obtain rfl|d:=Ze5.1 d;exact h.1.1;exact N5 h.2 w d
def KJ{s:Ck}{k:Int}{q:Int->Int->Bool}:WG s k q=xy↔ ∀o∈s.obs k,o.gone=xh->∀j,j<o.ptrs.toNat->q ((o.at_.toNat+1+j:Nat):Int) (VJ (Zy s.h k) (o.at_.toNat+1+j))=xy:=by
 unfold WG obQ;grind
def Z5c{h:Hp}{p:Pts}(u:Xm h=xk p){k:Int}(r:1<=k/\k<=4):Wq h p k=xy↔ ∀o∈p.at k,o.gone=xh->∀j,j<o.ptrs.toNat->VY h p k (o.at_.toNat+1+j)=xy:=by
 unfold Wq zX;rw[ZdT];constructor;simp_all;intro y o t;rw[ZdT];intro j l;have l:=ZfY.1 l;cases q:o.gone;simp_all;have d:=((Bi u r).stands o t).1;have w:=Yw.1 d.shape;have f:=d.slots;rw[q]at f;have x:=N5 f;have g:=d.fits;have n:=d.nat;have a:o.at_.toNat+1+j< P (Zy h k):=Z0;have z:(Zy h k)[o.at_.toNat+1+j]?=xk 0:=by
  rw[ZdI a];refine ZeZ xk (x _ ?_);rw[ZgS];refine⟨j,?_⟩;rw[Zel,if_pos Z0,Zec,ZdI a]
 grind [Xu,VY]
section
variable {h:Hp}{s:Ck}{p:Pts}
def Found.ptrs(u:Found h s p)(I:ZI (Zu h)=xy)(G:Xm h=xk p):(Q7 s&&(Qa s&&RJ s))=(h.roots.all (λw=>Xu h p w 1 2)&&Wq h p 1&&Wq h p 2&&Wq h p 3&&Wq h p 4):=by
 have g:=u.points I G;have t:s.h.roots.all (λw=>YN s w 1 2)=h.roots.all (λw=>Xu h p w 1 2):=by
  rw[u.hp];congr 1;funext w;exact(g w).1
 have l:=λk=>u.obs (k:=k);have r:∀(k:Int) (q:Nat->Int->Bool) (F:1<=k/\k<=4),(∀a,VY h p k a=q a (VJ (Zy h k) a))->(Wq h p k=xy↔ ∀o∈p.at k,o.gone=xh->∀j,j<o.ptrs.toNat->q (o.at_.toNat+1+j) (VJ (Zy h k) (o.at_.toNat+1+j))=xy):=by
  intro k q F H;rw[Z5c G F];simp only[H]
 have p2:=r 2 (λ_ w=>Xu h p w 1 2) Z0 (λa=>by simp[VY,VJ]);have p3:=r 3 (λ_ w=>Xu h p w 3 4) Z0 (λa=>by simp[VY,VJ]);have p4:=r 4 (λ_ w=>Xu h p w 3 4) Z0 (λa=>by simp[VY,VJ]);have J:=r 1 (λa w=>if h.scan<=a then Xu h p w 1 2||Xu h p w 3 4 else Xu h p w 1 2) Z0 (λa=>by simp[VY,VJ]);have L:WG s 2 (λ_ w=>YN s w 1 2)=xy↔Wq h p 2=xy:=by
  rw[p2,KJ,l,u.hp];simp only[(g _).1]
 have M:WG s 3 (λ_ w=>YN s w 3 4)=xy↔Wq h p 3=xy:=by
  rw[p3,KJ,l,u.hp];simp only[(g _).2.1]
 have N:WG s 4 (λ_ w=>YN s w 3 4)=xy↔Wq h p 4=xy:=by
  rw[p4,KJ,l,u.hp];simp only[(g _).2.1]
 have K:(WG s 1 (λa w=>decide (s.h.scan<=a)||YN s w 1 2)=xy/\WG s 1 (λa w=>decide (a<s.h.scan)||YN s w 1 4)=xy)↔Wq h p 1=xy:=by
  rw[J,KJ,KJ,l,u.hp];simp only[(g _).1,(g _).2.2];constructor;rintro⟨C,D⟩ o A y j z;have C:=C o A y j z;have D:=D o A y j z;generalize o.at_.toNat+1+j=n at*;by_cases x:h.scan<=(n:Int);have:¬(n:Int)<h.scan:=Z0;simpa[x,this]using D;simpa[x]using C;intro B;refine⟨λo A y j z=> ?_,λo A y j z=> ?_⟩;have B:=B o A y j z;generalize o.at_.toNat+1+j=n at*;by_cases x:h.scan<=(n:Int);simp[x];simpa[x]using B;have B:=B o A y j z;generalize o.at_.toNat+1+j=n at*;by_cases x:h.scan<=(n:Int);have:¬(n:Int)<h.scan:=Z0;simpa[x,this]using B;have:(n:Int)<h.scan:=Z0;simp[this]
 unfold Q7 Qa RJ;rw[t,Zh6];simp only[ZdL];rw[L,M,N,<-K];constructor;rintro⟨⟨a,b,c⟩,d,e,f⟩;exact⟨⟨⟨⟨a,c,d⟩,b⟩,e⟩,f⟩;rintro⟨⟨⟨⟨a,c,d⟩,b⟩,e⟩,f⟩;exact⟨⟨a,b,c⟩,d,e,f⟩
def Found.roomy(a:Found h s p):Q4 s=decide ((P h.low:Int)+P h.high+Xd p<=h.cap):=by
 unfold Q4 Sg Xd;rw[a.hp,a.o3,a.o4]
end
def Z3R(h:Hp):Tg h=(Sq (X9 h)&&Q1 (X9 h)):=by
 grind [Tg,Sq,Q1,X9,ZI,Zu]
def Aj(h:Hp):(Vf h).isSome=YY h/\∀s,Vf h=xk s->∃p,Xm h=xk p/\Found h s p:=by
 have k:Vf h=(if Sq (X9 h)=xy then if Q1 (X9 h)=xy then if(XU (X9 h)).1=xy then
   if Rn (XU (X9 h)).2=xy then if Q7 (XU (X9 h)).2=xy then if Qa (XU (X9 h)).2=xy then if RJ (XU (X9 h)).2=xy then if Q4 (XU (X9 h)).2=xy then
    xk (XU (X9 h)).2 else xw else xw else xw else xw else xw else xw else xw else xw):=rfl
 have t:=Z3R h;unfold YY;rw[t];cases a:Sq (X9 h);simp_all;have g:ZI (Zu h)=xy:=by
  unfold Sq at a;simp only[ZdL]at a;exact a.1
 cases j:Q1 (X9 h);simp_all;have l:=Z80 g;cases f:Xm h with
 |none=>
  simp_all
 |some p=>
  rw[f]at l;obtain⟨r,d⟩:=l;rw[a,j,r]at k;simp only[Zes]at k;generalize (XU (X9 h)).2=s at*;have n:=d.copied g f;have o:=d.ptrs g f;have q:=d.roomy;have u:S7 h p=(Rn s&&((Q7 s&&(Qa s&&RJ s))&&Q4 s)):=by
   rw[n,o,q];unfold S7;simp only[Bool.and_assoc]
  grind
def Z2Y(h:Hp)(k:Int):Kp h k=Uf h k:=by
 obtain⟨d,g⟩:=Aj h;unfold Kp Uf;cases f:Vf h with
 |none=>
  simp_all
 |some s=>
  rw[f]at d;have a:YY h=xy:=d.symm;obtain⟨p,l,j⟩:=g s f;simp only[a,true_and,l,Zeb,j.obs]
def Z32(h:Hp):((qy h:Nat):Int)=Jm h:=by
 obtain⟨d,j⟩:=Aj h;unfold qy Jm;cases g:Vf h with
 |none=>
  simp_all
 |some s=>
  rw[g]at d;have a:YY h=xy:=d.symm;obtain⟨p,k,f⟩:=j s g;simp only[a,k,Zeb,Zes];unfold Sg Xd;rw[f.o3,f.o4]
end Vm
end
section
namespace Vm
open Go Go.Proofs Go.RowKit
section
def Di{α:Type}(F:Fence)(n:Nat)(P:Z5)(g:Nat)(lb:Za)(d:α->Array Value)(k:World->World->Prop)(S:List α->World->Prop)(o:List PanicEntry->List α->World->Prop)(N:Nat)(bt:ZcJ)(j:World->Prop)(w:Z4):Prop:=
 ∀(l:Nat) (J:List α->World->Prop) (W:Z4),Below (U (R w)) w W->(∀pre W,J pre W->j W)->(∀s A B row,J s A->A.grownBy B row->(∀r,row=xk r->xk r=bt)->J s B)->
  (∀pre x f,J pre f->xq pre<N->YieldAt F (n-1) P l (d x) f λe a=>e=.returned (.bool xy)/\J (pre++[x]) a/\k f a)->
  J [] W->
  CallsIn F n P g (#[.func (.yield l) #[] #[]]++lb) W λe a=>(∃v h,e=.returned v/\S h a/\J h a)\/(∃chain pre,e=.panicked chain/\o chain pre a/\J pre a)
def Z56{α:Type}(B:Nat)(d:World->World->Prop)(I:List α->World->Prop)(xs:List α)(W:Z4):Exit->Act->World->Prop
 |.normal,_,a=>KeepsFrom B W a/\d W a/\I xs a
 |_,_,_=>False
def OwnP{β:Type}(bt:ZcJ)(B:Nat)(I:β->World->Prop):Prop:=
 ∀s X Y row,I s X->X.grownBy Y row->(∀r,row=xk r->xk r=bt\/(B<=r/\∃o:Obj,X.heap[r]?=xk o/\o.isCells=xh))->I s Y
def OwnP.putObj{β:Type}{bt:ZcJ}{B:Nat}{I:β->World->Prop}(h:OwnP bt B I){s:β}{W:Z4}{l:Nat}{o:Obj}(a:Obj)(d:I s W)(f:B<=l)(g:W.heap[l]?=xk o)(j:o.isCells=xh):I s (W.putObj l a):=
 h s W _ (xk l) d (Zgf W l a) (λr e=>ZcL)
def OwnP.alloc{β:Type}{bt:ZcJ}{B:Nat}{I:β->World->Prop}(h:OwnP bt B I){s:β}{W:Z4}(o:Obj)(a:I s W):I s (W.alloc o):=
 h s W _ xw a (Zf6 W o xw) (λr e=>by cases e)
variable {F:Fence}{n:Nat}{P:Z5}
def Z8a{α:Type}{g:Operand}{ps:Array Tmp}{assign body:Code}{Q:Zh}{a:Act}{w:Z4}
  (c8:F.round=xw) (h1:1<=n) {gf:Nat} {lb:Za} (hg:a.eval g=.func (.func gf) #[] lb) (c9:F.fn gf) (eg:∀args w,(callFunc gf args).run P w=.ok (.enter gf args) w)
  {f:α->Array Value} {M:World->World->Prop} {S:List α->World->Prop} {Pp:List PanicEntry->List α->World->Prop} {N:Nat} {bt:ZcJ} {Ex:World->Prop} {w0:Z4} (a7:Di F (n-1) P gf lb f M S Pp N bt Ex w0)
  (b4:∀r,bt=xk r->r<xz (xj w))
  (T:∀ {A B C:Z4},M A B->M B C->M A C) (a0:∀(W:Z4) (l:Nat) (o o':Obj),xz (xj w)<=l->W.heap[l]?=xk o->o.isCells=xh->o.isWalk=xh->M W (W.putObj l o')) (a1:Below (xz (xj w0)) w0 w) (d0:∀x,(f x).size=ps.size)
  (I:List α->World->Prop) (hI:OwnP bt (xz (xj w)) I) (a9:∀pre W,I pre W->Ex W) (h0:I [] w) (hS:OwnP xw (xz (xj w)) S) (Ax:α->Act->World->Prop) (a8:∀x G,OwnP xw (xz (xj w)) (λ(_:Unit) W=>Ax x G W))
  (q:∀(l:Nat) (pre:List α) (x:α) (W:Z4) (K:Act->World->Prop),I pre W->(∀G W',KeepsFrom (xz (xj w)) W W'->M W W'->I pre W'->Ax x G W'->K G W')->
   assign.wpIn (F.inRound l) (n-1-1) P (Exit.then K (λ_ _ _=>False)) {tmps:=(ps.zip (f x)).foldl (λt (p,v)=>t.setIfInBounds p v) a.tmps,defers:=[]} W)
  (U:∀(l:Nat) (pre:List α) (x:α) (G:Act) (W:Z4),I pre W->Ax x G W->xq pre<N->body.wpIn (F.inRound l) (n-1-1) P (Z56 (xz (xj w)) M I (pre++[x]) W) G W)
  (X:∀(D:Nat) (xs:List α) (W:Z4),xz (xj w)<=D->S xs W->I xs W->W.heap[D]?=xk (.deferred (xk []))->Q .normal {a with defers:= {target:=.collected D,args:=#[]}::a.defers} W)
  (L:∀(D:Nat) (chain:List PanicEntry) (pre:List α) (W:Z4),xz (xj w)<=D->Pp chain pre W->I pre W->W.heap[D]?=xk (.deferred (xk []))->Q (.panic chain) {a with defers:= {target:=.collected D,args:=#[]}::a.defers} W):
  (Code.rangeFunc g ps assign body).wpIn F n P Q a w:=by
 refine wpIn_rangeFunc λfn b6=> ?_;rw[c8];obtain⟨d,z⟩:∃d:LoopState->Option Code->Loop,d=λst pe=> {state:=st,pending:=pe,fn,tmps:=a.tmps,params:=ps,assign,body,defers:=xz (xj w)}:=⟨_,rfl⟩;obtain⟨H,J⟩:∃H,(w.alloc (.deferred (xk []))).alloc (.loop (d .ready xw))=H:=⟨_,rfl⟩;have b1:H.heap[xz (xj w)+1]?=xk (.loop (d .ready xw)):=by
  have:=Zf0 (w.alloc (.deferred (xk []))) (.loop (d .ready xw));rw[Zg5]at this;rw[<-J];exact this
 have b0:H.heap[xz (xj w)]?=xk (.deferred (xk [])):=by
  rw[<-J];exact(ZdP _ _ _ Z1).trans (Zf0 w _)
 have b3:Below (xz (xj w0)) w0 H:=by
  rw[<-J];exact a1.trans ((((Zei _ w).alloc (ZdN _) _).alloc Z1 _).mono a1.size)
 refine⟨xz (xj w)+1,[{target:=.collected (xz (xj w)),args:=#[]}],H,{target:=.fn (.func gf) lb,args:=#[.func (.yield (xz (xj w)+1)) #[] #[]]},H,gf,
  #[.func (.yield (xz (xj w)+1)) #[] #[]]++lb,H,?_,?_,?_,?_,λ_=>h1,?_⟩
 simp_all[run_enterLoop_outer]
 .simp only[resolve,hg];simp[go_sem]
 simp_all[Target.leads];simp_all[invoke];have R:∀ {A B:Z4} {row:ZcJ} {k:Nat} {o:Obj},A.grownBy B row->(∀r,row=xk r->xk r=bt)->xz (xj w)<=k->A.heap[k]?=xk o->B.heap[k]?=xk o:=by
  intro A B row k o u hr hk ho;refine(u.block k (ZdO.1 ho).1 λe=> ?_).trans ho;have:=b4 k (hr k e.symm).symm;omega
 refine(a7 (xz (xj w)+1) (λpre W=>I pre W/\W.heap[xz (xj w)+1]?=xk (.loop (d .ready xw))/\W.heap[xz (xj w)]?=xk (.deferred (xk []))) H b3 (λpre W h=>a9 pre W h.1)
  (λs A B row hs u hr=>⟨hI s A B row hs.1 u (λr e=>.inl (hr r e)),R u hr Z0 hs.2.1,R u hr (ZdN _) hs.2.2⟩) ?_ ⟨by rw[<-J];exact hI.alloc _ (hI.alloc _ h0),b1,b0⟩).mono ?_
 rintro pre x W ⟨hi,Y,hk⟩ a6;have hy:=run_yield (P:=P) (args:=f x) Y ZcL;rw[z]at hy;refine⟨fn,_,assign,body,hy,roundIn_of_wpIn b6 (q _ pre x W _ hi ?_)⟩;intro G V a4 c1 b8 b2;have y:=a4.same _ _ Z0 Y rfl;have c0:=a4.same _ _ (ZdN _) hk rfl;have c6:xz (xj w)+1<xz (xj V):=(ZdO.1 y).1;refine⟨_,run_beginRound y (by rw[z]),?_⟩;have c5:(V.putObj (xz (xj w)+1) (.loop {d .ready xw with state:=.busy})).heap[xz (xj w)+1]?=xk (.loop {d .ready xw with state:=.busy}):=Zg9 c6;have b9:(V.putObj (xz (xj w)+1) (.loop {d .ready xw with state:=.busy})).heap[xz (xj w)]?=xk (.deferred (xk [])):=(Zep Z0).trans c0;have c7:M V (V.putObj (xz (xj w)+1) (.loop {d .ready xw with state:=.busy})):=a0 _ _ _ _ Z0 y rfl rfl;refine wpIn_mono (U _ pre x G _ (hI.putObj _ b8 Z0 y rfl) ((a8 x G).putObj (s:=()) _ b2 Z0 y rfl) a6) ?_;rintro e a3 W3 O;cases e with
 |normal=>
  obtain⟨a2,a5,b7⟩:=O;have Z:=a2.same _ _ Z0 c5 rfl;have b5:=a2.same _ _ (ZdN _) b9 rfl;have j:=run_endRound (P:=P) xw Z;refine⟨_,_,j,rfl,⟨hI.putObj _ b7 Z0 Z rfl,?_,(Zep Z0).trans b5⟩,T c1 (T (T c7 a5) (a0 _ _ _ _ Z0 Z rfl rfl))⟩;grind [World.putObj_heap_same,Array.getElem?_eq_some_iff]
 |ret=>exact O.elim
 |exit id=>exact O.elim
 |goto t=>exact O.elim
 |panic ch=>exact O.elim
 |outgrown=>exact O.elim
 rintro e W2 (⟨v,xs,rfl,hs,hi,Y,hk⟩|⟨chain,pre,rfl,O,hi,Y,hk⟩);have j:=run_endLoop (P:=P) Y ZcL;rw[z]at j;exact⟨xw,_,j,X _ xs _ (ZdN _) (hS.putObj _ hs Z0 Y rfl) (hI.putObj _ hi Z0 Y rfl) ((Zep Z0).trans hk)⟩;exact L _ chain pre _ (ZdN _) O hi hk
end
end Vm
end
section
namespace Vm
open Go
open Go.Proofs
def I5:Fn:=⟨4,[0,2,3,4],
pQ [pR [pV 1 pF],pC [pK 4 44 [.s 0]] [pV 2 (.ext (.s 4) 0),pV 3 (.ext (.s 4) 1)],.reg ⟨[.lt 5 [] (.bin .eql (.s 0) (pU 0))],[([(5,xh)],.bin .eql (.s 3) (pI 0))],[pV 1 (.ite (.s 5) pT (.bin .eql (.s 3) (pI 0)))]⟩] .ret,[(1,.v)]⟩
def PX:ZK Sol.prog fresh sig [.fz] [] Try.f135=xk I5:=Z2
end Vm
end
section
namespace Vm
open Go Go.Proofs Go.RowKit
def Z55{x:Int}(hx:ZC x):VC Sol.prog 135 xh [vu x] (.bool (Vy x)):=by
 refine ZU Sol.func135 follows Z2 PX rfl ?_;simp[I5];refine Zx (Jz hx) Z1 ?_;simp_all[Vy]
def IU{x:Int}(hx:ZC x)(w:World):Calls Sol.prog 135 #[.int .u64 x] w λe a=>e=.returned (.bool (Vy x))/\Below (U (R w)) w a:=
 Tw (Z55 hx) rfl rfl w
structure Words (w:World) (ws:List Int) (g o cap:Nat):Prop where
 at_:∀(i:Nat) (x:Int),ws[i]?=xk x->w.cell? ⟨g,o+i,xw⟩=xk (.int .u64 x)
 le:P ws<=cap
 cap:cap<=maxLen
 len:P ws<=1000000
 u64:∀x∈ws,ZC x
def V6(e:Int):List PanicEntry:=[{v:=.iface 189 (.agg #[.int .i64 e]),recovered:=xh}]
def Ww(o:Ob):Value:=.agg #[.int .i64 o.at_,.int .i64 o.size,.int .i64 o.ptrs,.bool o.gone,.int .u64 o.target]
def zf(ws:List Int)(o:Ob):Ending:=
 if(P ws:Int)<o.at_+1+o.size then .panicked (V6 2)else if XK ((ws.drop (o.at_.toNat+1)).take o.size.toNat) o.gone o.ptrs 0=xh then .panicked (V6 3)else .returned (.tuple #[])
def Z1k(w:World)(ws:List Int)(g o cap:Nat)(C:Words w ws g o cap)(Y:g<xz (xj w))(t:Ob)(a:Nat)(L:t.at_=a)(A:a<xq ws)(B:YK t.size t.ptrs=xy):
  Calls Sol.prog 134 #[.slice (xk ⟨g,o,xw⟩) (xq ws) cap,Ww t] w λe w'=>e=zf ws t/\Below (xz (xj w)) w w':=by
 have hl:=C.len;have hc:=C.le;have hm:=C.cap;obtain⟨at_,size,ptrs,gone,target⟩:=t;simp only at L B;subst L;obtain⟨s1,s2,s3,s4⟩:=Yw.1 B;obtain⟨m,rfl⟩:=ZdX s1;have J:=ZdR C;have r:zf ws ⟨a,m,ptrs,gone,target⟩=if(xq ws:Int)<a+1+m then .panicked (V6 2)else if XK ((ws.drop (a+1)).take m) gone ptrs 0=xh then .panicked (V6 3)else .returned (.tuple #[]):=rfl
 generalize zf ws ⟨a,m,ptrs,gone,target⟩=E at*;unfold Ww;dsimp only;by_cases l:(xq ws:Int)<a+1+m
 .rw[if_pos l]at r;have u:=ZdR r;clear r;have Q:((xq ws- (a+1):Nat):Int)<m:=Z0;go_enter Sol.func134,Try.ntmps134;go_wp2;all_goals exact⟨rfl,u.out.symm,(Zei _ _).alloc (ZdN _) _⟩
 .rw[if_neg l]at r;have u:=ZdR r;clear r;have N:(m:Int)<=((xq ws- (a+1):Nat):Int):=Z0;have O:m<=xq ws- (a+1):=Z0;have R:(xq ws- (a+1)<m)=False:=Zgr Z0;have X:m<=cap- (a+1):=Z0;have Z:m<=255:=Z0;clear C l;by_cases z:cap=a+1
  .have I:m=0:=Z0;subst I;subst z;go_enter Sol.func134,Try.ntmps134;go_wp2;go_loopw [26] (λi wr=>i=.int .i64 0/\Hid (Below (xz (xj w)) w wr)) (λi _=>0)
   case atStart=>exact⟨rfl,ZdR ((Zei _ _).alloc (ZdN _) _)⟩
   case round=>
    obtain⟨rfl,T⟩:=hrel;go_wp2;go_end0
    exact⟨u.out.symm,T.out⟩
  .go_enter Sol.func134,Try.ntmps134;go_wp2
   go_loopw [26] (λi wr=>∃k:Nat,i=.int .i64 k/\k<=m/\Hid (Below (xz (xj w)) w wr/\wr.heap[xz (xj w)]?=xk (.cells #[.int .i64 a,.int .i64 m,.int .i64 ptrs,.bool gone,.int .u64 target] 59 (0,0))/\
     XK ((ws.drop (a+1)).take m) gone ptrs 0=XK (((ws.drop (a+1)).take m).drop k) gone ptrs k)) (λi _=>m- (intOf i).toNat)
   case atStart=>exact⟨0,rfl,Z0,ZdR ⟨(Zei _ _).alloc (ZdN _) _,Ze9 w _,rfl⟩⟩
   case round=>
    obtain⟨k,rfl,hk,d⟩:=hrel;by_cases A:k<m
    .obtain⟨x,D⟩:∃x,ws[a+1+k]?=xk x:=⟨_,ZdI Z0⟩;have S:ZC x:=J.out.u64 x (ZdQ D);have K:((ws.drop (a+1)).take m)[k]?=xk x:=by
      rw[Zel,if_pos A,Zec];exact D
     have c0:wr.cell? ⟨g,o+(a+1)+k,xw⟩=xk (.int .u64 x):=by
      rw[Zf1];exact(d.out.1.cell (p:=⟨g,o+(a+1+k),xw⟩) Y).trans (J.out.at_ _ _ D)
     have c1:wr.cell? ⟨xz (xj w),1,xw⟩=xk (.int .i64 m):=Zdn;have c2:wr.cell? ⟨xz (xj w),2,xw⟩=xk (.int .i64 ptrs):=Zdn;have c3:wr.cell? ⟨xz (xj w),3,xw⟩=xk (.bool gone):=Zdn;have q:=Z7c (gone:=gone) (ptrs:=ptrs) K;have P:(k:Int)<m:=Z0;have G:=Yg d.out.2.1;clear D K;have stop:XK (((ws.drop (a+1)).take m).drop k) gone ptrs k=xh->E=.panicked (V6 3):=λh=>by
      rw[u.out,d.out.2.2,h,if_pos rfl]
     cases gone
     .by_cases hp:(k:Int)<ptrs
      .cases H:Vy x
       .have f:=ZdR (stop ZcL);clear stop q;go_wp2_with (go_at_call 135;refine(IU S _).mono ?_;rintro e w1 ⟨rfl,j⟩;have n:=ZdR j;clear j)
        exact⟨rfl,f.out.symm,d.out.1.trans (n.out.mono d.out.1.size)⟩
       .have y:=ZdR (q.trans (by simp[H]:_=XK (((ws.drop (a+1)).take m).drop (k+1)) xh ptrs (k+1)));clear stop q;go_wp2_with (go_at_call 135;refine(IU S _).mono ?_;rintro e w1 ⟨rfl,j⟩;have n:=ZdR j;clear j)
        go_wp2;go_roundw
        case rel=>
         exact⟨k+1,by go_num,Z0,ZdR ⟨d.out.1.trans (n.out.mono d.out.1.size),(n.out.block _ G).trans d.out.2.1,d.out.2.2.trans y.out⟩⟩
        case measure=>grind [intOf]
      .have y:=ZdR (q.trans (by simp[hp]:_=XK (((ws.drop (a+1)).take m).drop (k+1)) xh ptrs (k+1)));clear stop q;go_wp2;go_roundw
       case rel=>exact⟨k+1,by go_num,Z0,ZdR ⟨d.out.1,d.out.2.1,d.out.2.2.trans y.out⟩⟩
       case measure=>grind [intOf]
     .by_cases U:x=0
      .subst U;have y:=ZdR (q.trans (by simp[Vy]:_=XK (((ws.drop (a+1)).take m).drop (k+1)) xy ptrs (k+1)));clear stop q;go_wp2;go_roundw
       case rel=>exact⟨k+1,by go_num,Z0,ZdR ⟨d.out.1,d.out.2.1,d.out.2.2.trans y.out⟩⟩
       case measure=>grind [intOf]
      .have f:=ZdR (stop ZcL);clear stop q;go_wp2;exact⟨rfl,f.out.symm,d.out.1⟩
    .have:k=m:=Z0;subst this;have F:=d.out.2.2;have M:((ws.drop (a+1)).take k).drop k=[]:=Zfv ZcL;rw[M]at F;have f:=ZdR (u.out.trans (by rw[F];rfl:_=Ending.returned (.tuple #[])));clear F M;go_wp2;go_end0
     exact⟨f.out.symm,d.out.1⟩
end Vm
namespace Vm
open Go Go.Proofs Go.RowKit
def Z3D(w:World):Sem.run Sol.prog (binOp .neq 190 .nilFunc .nilFunc) w=.ok (.bool xh) w:=ZdB
def AF(w:World)(f:FuncId)(vs:Array Value):Sem.run Sol.prog (binOp .neq 190 (.func (.func f) #[] vs) .nilFunc) w=.ok (.bool xy) w:=ZdB
def yR{w:World}{b:Nat}{T:TypeId}{v0 v1 d f v4:Value}(h:w.heap[b]?=xk (.cells #[v0,v1,d,f,v4] T (0,0)))(O:Obj):
  ((w.alloc O).cell? ⟨b,0,xw⟩=xk v0/\(w.alloc O).cell? ⟨b,1,xw⟩=xk v1/\(w.alloc O).cell? ⟨b,2,xw⟩=xk d/\(w.alloc O).cell? ⟨b,3,xw⟩=xk f/\(w.alloc O).cell? ⟨b,4,xw⟩=xk v4)/\
  (w.alloc O).frozen? ⟨b,0,xw⟩=xh/\(w.alloc O).frozen? ⟨b,1,xw⟩=xh/\(w.alloc O).frozen? ⟨b,2,xw⟩=xh/\(w.alloc O).frozen? ⟨b,3,xw⟩=xh/\(w.alloc O).frozen? ⟨b,4,xw⟩=xh:=by
 have a:(w.alloc O).heap[b]?=xk (.cells #[v0,v1,d,f,v4] T (0,0)):=(ZdP _ _ _ (Yg h)).trans h;refine⟨⟨?_,?_,?_,?_,?_⟩,YA a,YA a,YA a,YA a,YA a⟩<;>(rw[ZdV _ _ _ _ _ _ a];rfl)
def Sp(a:Nat)(x:Int):Ending:=if(ZP x).2.2=0 then .returned (Ww ⟨a,(ZP x).1,(ZP x).2.1,xh,0⟩)else .panicked (V6 3)
def Pm(w:World)(ws:List Int)(g o cap:Nat)(n:Words w ws g o cap)(J:g<xz (xj w))(a:Nat)(x:Int)(hx:ws[a]?=xk x):
  Calls Sol.prog 133 #[.slice (xk ⟨g,o,xw⟩) (xq ws) cap,.int .i64 a,.nilFunc] w λe L=>e=Sp a x/\Below (xz (xj w)) w L:=by
 have T:=n.len;have S:=n.le;have U:=n.cap;have K:a<xq ws:=(ZdJ.1 hx).1;have A:(a:Int)<xq ws:=Z0;have q:ZC x:=n.u64 x (ZdQ hx);have C:=n.at_ a x hx;have z:∀W,Below (xz (xj w)) w W->W.cell? ⟨g,o+a,xw⟩=xk (.int .u64 x):=λW I=>(I.cell (p:=⟨g,o+a,xw⟩) J).trans C;have l:Sp a x=if(ZP x).2.2=0 then .returned (Ww ⟨a,(ZP x).1,(ZP x).2.1,xh,0⟩)else .panicked (V6 3):=rfl
 generalize Sp a x=E at*;have y:=ZdR z;have B:=Z3D;clear n hx z;by_cases t:(ZP x).2.2=0
 .rw[if_pos t]at l;have r:=ZdR l;clear l;go_enter Sol.func133,Try.ntmps133
  go_wp2_with (first
   |(go_at_call 44;refine(VM q _).mono ?_;rintro e w1 ⟨rfl,f⟩;have d:=ZdR f;have D:=y.out w1 (((((Zei _ w).alloc (ZdN _) _).alloc (by simp) _).trans (f.mono (by simp;omega))));clear f)
   | (go_at_call 69;refine(Jj q _).mono ?_;rintro e w2 ⟨rfl,h⟩;have j:=ZdR h
      have H:=d.out.block;have r0:w2.heap[xz (xj w)]?=xk (.cells #[.int .i64 0,.int .i64 0,.int .i64 0,.bool xh,.int .u64 0] 59 (0,0)):=(h.block _ Zdf).trans ((d.out.block _ ZcM).trans ((ZdP _ _ _ Z1).trans (Ze9 w _)));have u:w2.heap[xz (xj w)+1]?=xk (.cells #[.int .i64 a,.int .i64 0,.int .i64 0,.bool xh,.int .u64 0] 59 (0,0)):=(h.block _ Zdf).trans ((d.out.block _ Z1).trans ZcQ);obtain⟨⟨M,N,O,P,Q⟩,y0,y1,y2,y3,y4⟩:=yR r0 (.cells #[.int .i64 (ZP x).1,.int .i64 (ZP x).2.1] 52);obtain⟨⟨X,Y,p2,p3,p4⟩,Z,q1,q2,q3,q4⟩:=yR u (.cells #[.int .i64 (ZP x).1,.int .i64 (ZP x).2.1] 52);have R:=ZdR (And.intro r0 u);clear h H r0 u))
  refine ZeA (v:=Ww ⟨a,(ZP x).1,(ZP x).2.1,xh,0⟩) ?_ rfl ⟨r.out.symm,?_⟩
  .simp[results,Try.results133,go_sem,Ww,M,N,O,P,Q]
  have k:=(((Zei _ w).alloc (ZdN _) (.cells #[.int .i64 0,.int .i64 0,.int .i64 0,.bool xh,.int .u64 0] 59)).alloc Z1 (.cells #[.int .i64 a,.int .i64 0,.int .i64 0,.bool xh,.int .u64 0] 59)).trans (d.out.mono ZcM);have G:=(k.trans (j.out.mono (by have:=k.size;omega))).alloc (by have:=k.size;have:=j.out.size;omega) (.cells #[.int .i64 (ZP x).1,.int .i64 (ZP x).2.1] 52);exact((((((G.setCell (p:=⟨xz (xj w)+1,1,xw⟩) Z1 _).setCell (p:=⟨xz (xj w)+1,2,xw⟩) Z1 _).setCell (p:=⟨xz (xj w),0,xw⟩) (ZdN _) _).setCell (p:=⟨xz (xj w),1,xw⟩) (ZdN _) _).setCell (p:=⟨xz (xj w),2,xw⟩) (ZdN _) _).setCell (p:=⟨xz (xj w),3,xw⟩) (ZdN _) _).setCell (p:=⟨xz (xj w),4,xw⟩) (ZdN _) _
 .rw[if_neg t]at l;have r:=ZdR l;clear l;have F:((ZP x).2.2=0)=False:=Zgr t;go_enter Sol.func133,Try.ntmps133
  go_wp2_with (first
   |(go_at_call 44;refine(VM q _).mono ?_;rintro e w1 ⟨rfl,f⟩;have d:=ZdR f;have D:=y.out w1 (((((Zei _ w).alloc (ZdN _) _).alloc (by simp) _).trans (f.mono (by simp;omega))));clear f)
   |(go_at_call 69;refine(Jj q _).mono ?_;rintro e w2 ⟨rfl,h⟩;have j:=ZdR h;clear h))
  refine⟨rfl,r.out.symm,?_⟩;have k:=(((Zei _ w).alloc (ZdN _) (.cells #[.int .i64 0,.int .i64 0,.int .i64 0,.bool xh,.int .u64 0] 59)).alloc Z1 (.cells #[.int .i64 a,.int .i64 0,.int .i64 0,.bool xh,.int .u64 0] 59)).trans (d.out.mono ZcM);exact(k.trans (j.out.mono (by have:=k.size;omega))).alloc (by have:=k.size;have:=j.out.size;omega) _
end Vm
namespace Vm
open Go Go.Proofs Go.RowKit
def MX(s p:Int)(w:World):Calls Sol.prog 94 #[.agg #[.int .i64 s,.int .i64 p]] w λe a=>e=.returned (.bool (YK s p))/\Below (U (R w)) w a:=
 Tw Mr rfl rfl w
structure Shps (w:World) (shs:List (Int×Int)) (bs:Nat) (v:Value):Prop where
 box:w.heap[bs]?=xk (.cells #[v] 180 (0,0))
 val:(∃g o cap,v=.slice (xk ⟨g,o,xw⟩) (P shs) cap/\P shs<=cap/\cap<=maxLen/\g<U (R w)/\∀(i:Nat) (x:Int×Int),shs[i]?=xk x->w.cell? ⟨g,o+i*2,xw⟩=xk (.int .i64 x.1)/\w.cell? ⟨g,o+i*2+1,xw⟩=xk (.int .i64 x.2))\/
  (∃a cap,v=.slice a 0 cap/\shs=[])
def Z1a(w:World)(shs:List (Int×Int))(bt h:Nat)(v:Value)(x:P shs<=1000000)(d:Shps w shs h v)(f:w.heap[bt]?=xk (.cells #[.int .i64 (P shs)] 3 (0,0))):
  Calls Sol.prog 129 #[.pointer (xk ⟨bt,0,xw⟩),.pointer (xk ⟨h,0,xw⟩)] w λe p=>e=.panicked (V6 3)/\Below (U (R w)) w p:=by
 have k:w.cell? ⟨bt,0,xw⟩=xk (.int .i64 (P shs)):=by rw[ZdV _ _ _ _ _ _ f];rfl
 have n:=Yg f;have j:=Yg d.box;have q:w.cell? ⟨h,0,xw⟩=xk v:=by rw[ZdV _ _ _ _ _ _ d.box];rfl
 obtain⟨g,o,cap,rfl,r,t,u,l⟩|⟨a,cap,rfl,rfl⟩:=d.val
 .clear l d f;go_enter Sol.func129,Try.ntmps129;go_wp2;exact⟨rfl,rfl,(Zei _ _).alloc (ZdN _) _⟩
 .clear d f;simp only[Zfj]at k;go_enter Sol.func129,Try.ntmps129;go_wp2;exact⟨rfl,rfl,(Zei _ _).alloc (ZdN _) _⟩
def Z19(w:World)(shs:List (Int×Int))(bt j t:Nat)(v:Value)(x:Int×Int)(I:P shs<=1000000)(f:Shps w shs j v)(k:w.heap[bt]?=xk (.cells #[.int .i64 t] 3 (0,0)))(hx:shs[t]?=xk x)(r:YK x.1 x.2=xh):
  Calls Sol.prog 129 #[.pointer (xk ⟨bt,0,xw⟩),.pointer (xk ⟨j,0,xw⟩)] w λe A=>e=.panicked (V6 3)/\Below (U (R w)) w A:=by
 have B:w.cell? ⟨bt,0,xw⟩=xk (.int .i64 t):=by rw[ZdV _ _ _ _ _ _ k];rfl
 have u:=Yg k;have p:=Yg f.box;have y:t<P shs:=(ZdJ.1 hx).1;have z:¬t=P shs:=Z0;have q:(t:Int)<P shs:=Z0;have C:w.cell? ⟨j,0,xw⟩=xk v:=by rw[ZdV _ _ _ _ _ _ f.box];rfl
 obtain⟨g,o,cap,rfl,F,G,H,n⟩|⟨a,cap,rfl,rfl⟩:=f.val
 .obtain⟨D,d1⟩:=n t x hx;have l:=MX x.1 x.2;rw[r]at l;clear n f k hx r;go_enter Sol.func129,Try.ntmps129;go_wp2_with (go_at_call 94;refine(l _).mono ?_;rintro e w1 ⟨rfl,d⟩;have h:=ZdR d;clear d)
  exact⟨rfl,rfl,((Zei _ w).alloc (ZdN _) _).trans (h.out.mono Z1)⟩
 grind
def Z1b(w:World)(shs:List (Int×Int))(bt f t:Nat)(v:Value)(x:Int×Int)(hl:xq shs<=1000000)(y:Shps w shs f v)(l:w.heap[bt]?=xk (.cells #[.int .i64 t] 3 (0,0)))(hx:shs[t]?=xk x)(J:YK x.1 x.2=xy)(q:f≠bt)
  (r:∀g o cap,v=.slice (xk ⟨g,o,xw⟩) (xq shs) cap->g≠bt):
  Calls Sol.prog 129 #[.pointer (xk ⟨bt,0,xw⟩),.pointer (xk ⟨f,0,xw⟩)] w λe K=>e=.returned (.agg #[.int .i64 x.1,.int .i64 x.2])/\w.grownBy K (xk bt)/\K.heap[bt]?=xk (.cells #[.int .i64 ((t+1:Nat):Int)] 3 (0,0)):=by
 have L:w.cell? ⟨bt,0,xw⟩=xk (.int .i64 t):=by rw[ZdV _ _ _ _ _ _ l];rfl
 have h:=Yg l;have n:=Yg y.box;have P:t<xq shs:=(ZdJ.1 hx).1;have u:¬t=xq shs:=Z0;have I:(t:Int)<xq shs:=Z0;have M:w.cell? ⟨f,0,xw⟩=xk v:=by rw[ZdV _ _ _ _ _ _ y.box];rfl
 have hf:=YA (o:=0) l;have G:¬f=bt:=q;have H:¬bt=f:=λe=>q e.symm;obtain⟨g,o,cap,rfl,Y,Z,D,F⟩|⟨a,cap,rfl,rfl⟩:=y.val
 .obtain⟨N,d1⟩:=F t x hx;have hg:=r g o cap rfl;have C:=MX x.1 x.2;rw[J]at C;have B:=ZdR l;clear F y l hx J r;go_enter Sol.func129,Try.ntmps129
  go_wp2_with (go_at_call 94;refine(C _).mono ?_;rintro e w1 ⟨rfl,d⟩
               have z:=ZdR d;have s1:=d.size;have k0:w1.cell? ⟨bt,0,xw⟩=xk (.int .i64 t):=(d.cell (p:=⟨bt,0,xw⟩) ZcM).trans ((Zfd _ _ _ h).trans L);have k1:w1.frozen? ⟨bt,0,xw⟩=xh:=YA ((d.block bt ZcM).trans ((ZdP _ _ _ h).trans B.out));have k2:w1.cell? ⟨f,0,xw⟩=xk (.slice (xk ⟨g,o,xw⟩) (xq shs) cap):=(d.cell (p:=⟨f,0,xw⟩) ZcM).trans ((Zfd _ _ _ n).trans M);have k3:w1.cell? ⟨g,o+t*2,xw⟩=xk (.int .i64 x.1):=(d.cell (p:=⟨g,o+t*2,xw⟩) ZcM).trans ((Zfd _ _ _ D).trans N);have k4:w1.cell? ⟨g,o+t*2+1,xw⟩=xk (.int .i64 x.2):=(d.cell (p:=⟨g,o+t*2+1,xw⟩) ZcM).trans ((Zfd _ _ _ D).trans d1);have r0:w1.heap[xz (xj w)]?=xk (.cells #[.int .i64 0,.int .i64 0] 52 (0,0)):=(d.block _ Z1).trans (Ze9 w _);have T:w1.cell? ⟨xz (xj w),0,xw⟩=xk (.int .i64 0):=by rw[ZdV _ _ _ _ _ _ r0];rfl
               have U:w1.cell? ⟨xz (xj w),1,xw⟩=xk (.int .i64 0):=by rw[ZdV _ _ _ _ _ _ r0];rfl
               have y0:=YA (o:=0) r0;have y1:=YA (o:=1) r0;have R:¬xz (xj w)=bt:=Z0;have S:¬bt=xz (xj w):=Z0;have X:=ZdR r0;clear d r0)
  have j:Below (xz (xj w)) w w1:=((Zei _ w).alloc (ZdN _) (.cells #[.int .i64 0,.int .i64 0] 52)).trans (z.out.mono Z1);have Q:w1.heap[bt]?=xk (.cells #[.int .i64 t] 3 (0,0)):=(j.block bt h).trans B.out;refine ZeA (v:=.agg #[.int .i64 x.1,.int .i64 x.2]) ?_ rfl ⟨rfl,⟨j.os,j.tape,j.output,?_,λk O u=> ?_⟩,?_⟩
  .simp[results,Try.results129,go_sem,T,U,R,S]
  simp[World.setCell];exact j.size;have A:k≠bt:=λe=>u (by rw[e]);rw[Ze7 _ _ _ _ ZcK,Ze7 _ _ _ _ ZcK,Ze7 _ _ _ _ A];exact j.block k O;simp_all[Ze7,World.setCell,Zer]
 grind
end Vm
namespace Vm
open Go Go.Proofs Go.RowKit
def Pn(w:World)(f:FuncId)(vs:Array Value)(ws:List Int)(g o cap:Nat)(q:Words w ws g o cap)(M:g<xz (xj w))(a:Nat)(x:Int)(hx:ws[a]?=xk x)(y:¬(adr x).2=0):
  Calls Sol.prog 133 #[.slice (xk ⟨g,o,xw⟩) (xq ws) cap,.int .i64 a,.func (.func f) #[] vs] w λe O=>e=Sp a x/\Below (xz (xj w)) w O:=by
 have Y:=q.len;have X:=q.le;have Z:=q.cap;have N:a<xq ws:=(ZdJ.1 hx).1;have C:(a:Int)<xq ws:=Z0;have r:ZC x:=q.u64 x (ZdQ hx);have F:=q.at_ a x hx;have B:∀W,Below (xz (xj w)) w W->W.cell? ⟨g,o+a,xw⟩=xk (.int .u64 x):=λW K=>(K.cell (p:=⟨g,o+a,xw⟩) M).trans F;have n:Sp a x=if(ZP x).2.2=0 then .returned (Ww ⟨a,(ZP x).1,(ZP x).2.1,xh,0⟩)else .panicked (V6 3):=rfl
 generalize Sp a x=E at*;have A:=ZdR B;have L:=λW=>AF W f vs;have D:((adr x).2=0)=False:=Zgr y;clear q hx B;by_cases u:(ZP x).2.2=0
 .rw[if_pos u]at n;have t:=ZdR n;clear n;go_enter Sol.func133,Try.ntmps133
  go_wp2_with (first
   |(go_at_call 44;refine(VM r _).mono ?_;rintro e w1 ⟨rfl,h⟩;have d:=ZdR h;have G:=A.out w1 (((((Zei _ w).alloc (ZdN _) _).alloc (by simp) _).trans (h.mono (by simp;omega))));clear h)
   | (go_at_call 69;refine(Jj r _).mono ?_;rintro e w2 ⟨rfl,j⟩;have k:=ZdR j
      have J:=d.out.block;have r0:w2.heap[xz (xj w)]?=xk (.cells #[.int .i64 0,.int .i64 0,.int .i64 0,.bool xh,.int .u64 0] 59 (0,0)):=(j.block _ Zdf).trans ((d.out.block _ ZcM).trans ((ZdP _ _ _ Z1).trans (Ze9 w _)));have z:w2.heap[xz (xj w)+1]?=xk (.cells #[.int .i64 a,.int .i64 0,.int .i64 0,.bool xh,.int .u64 0] 59 (0,0)):=(j.block _ Zdf).trans ((d.out.block _ Z1).trans ZcQ);obtain⟨⟨P,Q,R,S,T⟩,y0,y1,y2,y3,y4⟩:=yR r0 (.cells #[.int .i64 (ZP x).1,.int .i64 (ZP x).2.1] 52);obtain⟨⟨p0,p1,p2,p3,p4⟩,q0,q1,q2,q3,q4⟩:=yR z (.cells #[.int .i64 (ZP x).1,.int .i64 (ZP x).2.1] 52);have U:=ZdR (And.intro r0 z);clear j J r0 z))
  refine ZeA (v:=Ww ⟨a,(ZP x).1,(ZP x).2.1,xh,0⟩) ?_ rfl ⟨t.out.symm,?_⟩
  .simp[results,Try.results133,go_sem,Ww,P,Q,R,S,T]
  have l:=(((Zei _ w).alloc (ZdN _) (.cells #[.int .i64 0,.int .i64 0,.int .i64 0,.bool xh,.int .u64 0] 59)).alloc Z1 (.cells #[.int .i64 a,.int .i64 0,.int .i64 0,.bool xh,.int .u64 0] 59)).trans (d.out.mono ZcM);have I:=(l.trans (k.out.mono (by have:=l.size;omega))).alloc (by have:=l.size;have:=k.out.size;omega) (.cells #[.int .i64 (ZP x).1,.int .i64 (ZP x).2.1] 52);exact((((((I.setCell (p:=⟨xz (xj w)+1,1,xw⟩) Z1 _).setCell (p:=⟨xz (xj w)+1,2,xw⟩) Z1 _).setCell (p:=⟨xz (xj w),0,xw⟩) (ZdN _) _).setCell (p:=⟨xz (xj w),1,xw⟩) (ZdN _) _).setCell (p:=⟨xz (xj w),2,xw⟩) (ZdN _) _).setCell (p:=⟨xz (xj w),3,xw⟩) (ZdN _) _).setCell (p:=⟨xz (xj w),4,xw⟩) (ZdN _) _
 .rw[if_neg u]at n;have t:=ZdR n;clear n;have H:((ZP x).2.2=0)=False:=Zgr u;go_enter Sol.func133,Try.ntmps133
  go_wp2_with (first
   |(go_at_call 44;refine(VM r _).mono ?_;rintro e w1 ⟨rfl,h⟩;have d:=ZdR h;have G:=A.out w1 (((((Zei _ w).alloc (ZdN _) _).alloc (by simp) _).trans (h.mono (by simp;omega))));clear h)
   |(go_at_call 69;refine(Jj r _).mono ?_;rintro e w2 ⟨rfl,j⟩;have k:=ZdR j;clear j))
  refine⟨rfl,t.out.symm,?_⟩;have l:=(((Zei _ w).alloc (ZdN _) (.cells #[.int .i64 0,.int .i64 0,.int .i64 0,.bool xh,.int .u64 0] 59)).alloc Z1 (.cells #[.int .i64 a,.int .i64 0,.int .i64 0,.bool xh,.int .u64 0] 59)).trans (d.out.mono ZcM);exact(l.trans (k.out.mono (by have:=l.size;omega))).alloc (by have:=l.size;have:=k.out.size;omega) _
def DT(w:World)(vs:Array Value)(ws:List Int)(g o cap:Nat)(h:Words w ws g o cap)(G:g<U (R w))(a:Nat)(x:Int)(hx:ws[a]?=xk x)(A:(adr x).2=0)
  (d:∀W,Below (U (R w)) w W->Calls Sol.prog 129 vs W λe W'=>e=.panicked (V6 3)/\Below (U (R W)) W W'):
  Calls Sol.prog 133 #[.slice (xk ⟨g,o,xw⟩) (P ws) cap,.int .i64 a,.func (.func 129) #[] vs] w λe C=>e=.panicked (V6 3)/\Below (U (R w)) w C:=by
 have H:=h.len;have F:=h.le;have I:=h.cap;have z:a<P ws:=(ZdJ.1 hx).1;have t:(a:Int)<P ws:=Z0;have B:ZC x:=h.u64 x (ZdQ hx);have D:=h.at_ a x hx;have y:=λW=>AF W 129 vs;have u:=ZdR d;clear h hx d;go_enter Sol.func133,Try.ntmps133
 go_wp2_with (first
  | (go_at_call 44;refine(VM B _).mono ?_;rintro e w1 ⟨rfl,f⟩
     have r:Below (U (R w)) w w1:=((((Zei _ w).alloc (ZdN _) _).alloc Z1 _).trans (f.mono ZcM));have k:w1.heap[U (R w)+1]?=xk (.cells #[.int .i64 a,.int .i64 0,.int .i64 0,.bool xh,.int .u64 0] 59 (0,0)):=(f.block _ Z1).trans ZcQ;have p3:w1.cell? ⟨U (R w)+1,3,xw⟩=xk (.bool xh):=by rw[ZdV _ _ _ _ _ _ k];rfl
     have p4:w1.cell? ⟨U (R w)+1,4,xw⟩=xk (.int .u64 0):=by rw[ZdV _ _ _ _ _ _ k];rfl
     have J:=YA (o:=3) k;have K:=YA (o:=4) k;have n:=ZdR r;clear f r k)
  |(go_at_call 129;refine(u.out _ ?_).mono ?_;rotate_left;rintro e w2 ⟨rfl,j⟩;have l:=ZdR j;clear j))
 case refine_1=>exact(n.out.setCell (p:=⟨U (R w)+1,3,xw⟩) Z1 _).setCell (p:=⟨U (R w)+1,4,xw⟩) Z1 _
 case refine_2=>
  have q:=(n.out.setCell (p:=⟨U (R w)+1,3,xw⟩) Z1 (.bool xy)).setCell (p:=⟨U (R w)+1,4,xw⟩) Z1 (.int .u64 (adr x).1);exact⟨rfl,rfl,q.trans (l.out.mono q.size)⟩
theorem Z1d{w W:World}{r:Option Nat}(h:w.grownBy W r){p:Addr}(f:U (R w)<=p.block)(u:Value):w.grownBy (W.setCell p u) r:=
 ⟨h.os,h.tape,h.output,by simpa[World.setCell]using h.size,λk d a=>(Ze7 _ _ _ _ Z0).trans (h.block k d a)⟩
def Pk(w:World)(vs:Array Value)(ws:List Int)(g o cap:Nat)(r:Words w ws g o cap)(Z:g<xz (xj w))(a:Nat)(x:Int)(hx:ws[a]?=xk x)(N:(adr x).2=0)
  (bt:Nat) (O:Obj) (s p:Int) (J:bt<xz (xj w))
  (f:∀W,Below (xz (xj w)) w W->Calls Sol.prog 129 vs W λe W'=>e=.returned (.agg #[.int .i64 s,.int .i64 p])/\W.grownBy W' (xk bt)/\W'.heap[bt]?=xk O):
  Calls Sol.prog 133 #[.slice (xk ⟨g,o,xw⟩) (xq ws) cap,.int .i64 a,.func (.func 129) #[] vs] w λe H=>e=.returned (Ww ⟨a,s,p,xy,(adr x).1⟩)/\w.grownBy H (xk bt)/\H.heap[bt]?=xk O:=by
 have hl:=r.len;have Y:=r.le;have hm:=r.cap;have M:a<xq ws:=(ZdJ.1 hx).1;have G:(a:Int)<xq ws:=Z0;have P:ZC x:=r.u64 x (ZdQ hx);have X:=r.at_ a x hx;have K:=λW=>AF W 129 vs;have I:=ZdR f;clear r hx f;go_enter Sol.func133,Try.ntmps133
 go_wp2_with (first
  | (go_at_call 44;refine(VM P _).mono ?_;rintro e w1 ⟨rfl,j⟩
     have D:Below (xz (xj w)) w w1:=((((Zei _ w).alloc (ZdN _) _).alloc Z1 _).trans (j.mono ZcM));have t:w1.heap[xz (xj w)+1]?=xk (.cells #[.int .i64 a,.int .i64 0,.int .i64 0,.bool xh,.int .u64 0] 59 (0,0)):=(j.block _ Z1).trans ZcQ;have p3:w1.cell? ⟨xz (xj w)+1,3,xw⟩=xk (.bool xh):=by rw[ZdV _ _ _ _ _ _ t];rfl
     have p4:w1.cell? ⟨xz (xj w)+1,4,xw⟩=xk (.int .u64 0):=by rw[ZdV _ _ _ _ _ _ t];rfl
     have q3:=YA (o:=3) t;have q4:=YA (o:=4) t;have r0:w1.heap[xz (xj w)]?=xk (.cells #[.int .i64 0,.int .i64 0,.int .i64 0,.bool xh,.int .u64 0] 59 (0,0)):=(j.block _ ZcM).trans ((ZdP _ _ _ Z1).trans (Ze9 w _));have z:=ZdR (And.intro r0 t);have C:=ZdR D;clear j D r0 t)
  | (go_at_call 129;refine(I.out _ ?_).mono ?_;rotate_left;rintro e w2 ⟨rfl,l,u⟩
     have d:=ZdR l;have A:=ZdR u;have n:w2.heap[xz (xj w)+1]?=xk (.cells #[.int .i64 a,.int .i64 0,.int .i64 0,.bool xy,.int .u64 (adr x).1] 59 (0,0)):=(l.block _ (by simp[World.setCell];exact Yg z.out.2) ZcM).trans (by simp[World.setCell,Zer,z.out.2]);have h:w2.heap[xz (xj w)]?=xk (.cells #[.int .i64 0,.int .i64 0,.int .i64 0,.bool xh,.int .u64 0] 59 (0,0)):=(l.block _ (by simp[World.setCell];exact Yg z.out.1) ZcM).trans (by simp[World.setCell,Zer,z.out.1]);have s0:w2.cell? ⟨xz (xj w)+1,0,xw⟩=xk (.int .i64 a):=Zd8;have s1:w2.cell? ⟨xz (xj w)+1,1,xw⟩=xk (.int .i64 0):=Zd8;have s2:w2.cell? ⟨xz (xj w)+1,2,xw⟩=xk (.int .i64 0):=Zd8;have s3:w2.cell? ⟨xz (xj w)+1,3,xw⟩=xk (.bool xy):=Zd8;have s4:w2.cell? ⟨xz (xj w)+1,4,xw⟩=xk (.int .u64 (adr x).1):=Zd8;have Q:w2.cell? ⟨xz (xj w),0,xw⟩=xk (.int .i64 0):=Zd7;have R:w2.cell? ⟨xz (xj w),1,xw⟩=xk (.int .i64 0):=Zd7;have S:w2.cell? ⟨xz (xj w),2,xw⟩=xk (.int .i64 0):=Zd7;have T:w2.cell? ⟨xz (xj w),3,xw⟩=xk (.bool xh):=Zd7;have U:w2.cell? ⟨xz (xj w),4,xw⟩=xk (.int .u64 0):=Zd7;have u1:=YA (o:=1) n;have u2:=YA (o:=2) n;have v0:=YA (o:=0) h;have v1:=YA (o:=1) h;have v2:=YA (o:=2) h;have v3:=YA (o:=3) h;have v4:=YA (o:=4) h;clear l u h n))
 case refine_1=>exact(C.out.setCell (p:=⟨xz (xj w)+1,3,xw⟩) Z1 _).setCell (p:=⟨xz (xj w)+1,4,xw⟩) Z1 _
 next=>
  have q:=(C.out.setCell (p:=⟨xz (xj w)+1,3,xw⟩) Z1 (.bool xy)).setCell (p:=⟨xz (xj w)+1,4,xw⟩) Z1 (.int .u64 (adr x).1);have L:w.grownBy w2 (xk bt):=⟨d.out.os.trans q.os,d.out.tape.trans q.tape,d.out.output.trans q.output,Zef q.size d.out.size,λk F B=>(d.out.block k (ZdU F q.size) B).trans (q.block k F)⟩;have k1:bt≠xz (xj w)+1:=Z0;have y:bt≠xz (xj w):=Z0;clear q;refine ZeA (v:=Ww ⟨a,s,p,xy,(adr x).1⟩) ?_ rfl ⟨rfl,?_,?_⟩
  .simp[results,Try.results133,go_sem,Ww,Q,R,S,T,U]
  grind [Z1d];rw[Ze7 _ _ _ _ y,Ze7 _ _ _ _ y,Ze7 _ _ _ _ y,Ze7 _ _ _ _ y,Ze7 _ _ _ _ y,Ze7 _ _ _ _ k1,Ze7 _ _ _ _ k1];exact A.out
end Vm
namespace Vm
open Go Go.Proofs Go.RowKit Go.Shelf
def Uk(W:World)(bl:Nat):Option Nat:=(W.cell? ⟨bl,0,xw⟩).bind Value.ownBlock
structure KpW (bl base:Nat) (A B:World):Prop where
 size:U (R A)<=U (R B)
 same:∀k o,A.heap[k]?=xk o->o.isCells=xy->k≠bl->(k<base\/Uk A bl≠xk k)->B.heap[k]?=xk o
 row:∀k,k<U (R A)->Uk B bl=xk k->Uk A bl=xk k
theorem KpW.trans{bl base:Nat}{A B C:World}(h:KpW bl base A B)(k:KpW bl base B C):KpW bl base A C:=
 ⟨Zef h.size k.size,λi o a j l d=>k.same i o (h.same i o a j l d) j l (d.imp id λf e=>f (h.row i (Yg a) e)),λi a d=>h.row i a (k.row i (ZdU a h.size) d)⟩
theorem KpW.put{bl base:Nat}{W:World}{l:Nat}{o:Obj}(d:Obj)(n:W.heap[l]?=xk o)(p:o.isCells=xh)(h:bl≠l):KpW bl base W (W.putObj l d):=by
 have a:(W.putObj l d).cell? ⟨bl,0,xw⟩=W.cell? ⟨bl,0,xw⟩:=ZeE (Zep Z0);refine⟨(Zgf W l d).size,λk r j f _ _=> ?_,λk _ q=> ?_⟩;grind [World.putObj_heap_other,trans];simp_all[Uk]
def Ll(ws:List Int)(g o cap:Nat)(gv:Value)(shs:List (Int×Int))(old:Bool)(bt:Option Nat)(K:Nat->World->Prop):Prop:=
 ∀(W:World) (a t:Nat) (x:Int),Words W ws g o cap->g<U (R W)->K t W->ws[a]?=xk x->
  Calls Sol.prog 133 #[.slice (xk ⟨g,o,xw⟩) (P ws) cap,.int .i64 a,gv] W λe W'=>W.grownBy W' bt/\match XZ shs old a t x with
   |some (d,f)=>e=.returned (Ww d)/\K f W'
   |none=>e=.panicked (V6 3)
def LM(ws:List Int)(shs:List (Int×Int))(old:Bool)(K:Nat->World->Prop)(xs:List Ob)(W:World):Prop:=
 ∃t,K t W/\ZM ws shs old=(if t<(P shs) then([],3)else(xs,0))
def Z0B(ws:List Int)(shs:List (Int×Int))(old:Bool)(chain:List PanicEntry)(pre:List Ob)(W:World):Prop:=
 ∃e,(e=2\/e=3)/\chain=V6 e/\ZM ws shs old=([],e)
structure Stat6 (ws:List Int) (g o cap:Nat) (sv:Value) (bw bg base bl:Nat) (bt:Option Nat) (gv:Value) (W:World):Prop where
 words:Words W ws g o cap
 sv_:sv=.slice (xk ⟨g,o,xw⟩) (P ws) cap\/(ws=[]/\∃a c,sv=.slice a 0 c)
 hbw:W.heap[bw]?=xk (.cells #[sv] 35 (0,0))
 hbg:W.heap[bg]?=xk (.cells #[gv] 190 (0,0))
 gb:ws≠[]->∃ob,W.heap[g]?=xk ob/\ob.isCells=xy
 lt:g<base/\bw<base/\bg<base/\base<=U (R W)
 ne:g≠bl/\bw≠bl/\bg≠bl
 nt:xk g≠bt/\xk bw≠bt/\xk bg≠bt
section
variable {ws:List Int}{g o cap bw bg base bl:Nat}{bt:Option Nat}{sv gv:Value}{W W':World}
theorem Stat6.of(h:Stat6 ws g o cap sv bw bg base bl bt gv W)(n:U (R W)<=U (R W'))(d:∀k a,W.heap[k]?=xk a->a.isCells=xy->k<base->k≠bl->xk k≠bt->W'.heap[k]?=xk a):Stat6 ws g o cap sv bw bg base bl bt gv W':=by
 refine⟨⟨λi x p=> ?_,h.words.le,h.words.cap,h.words.len,h.words.u64⟩,h.sv_,d _ _ h.hbw rfl h.lt.2.1 h.ne.2.1 h.nt.2.1,d _ _ h.hbg rfl h.lt.2.2.1 h.ne.2.2 h.nt.2.2,λj=> ?_,⟨h.lt.1,h.lt.2.1,h.lt.2.2.1,Zef h.lt.2.2.2 n⟩,h.ne,h.nt⟩;have j:ws≠[]:=λe=>ZcL;obtain⟨a,l,f⟩:=h.gb j;have q:=d _ _ l f h.lt.1 h.ne.1 h.nt.1;rw[<-h.words.at_ i x p];grind [World.cell?_of_block];obtain⟨a,l,f⟩:=h.gb j;exact⟨a,d _ _ l f h.lt.1 h.ne.1 h.nt.1,f⟩
def Stat6.grown(h:Stat6 ws g o cap sv bw bg base bl bt gv W)(a:W.grownBy W' bt):Stat6 ws g o cap sv bw bg base bl bt gv W':=
 h.of a.size λk j d _ _ _ f=>(a.block k (Yg d) f).trans d
def Stat6.kp(h:Stat6 ws g o cap sv bw bg base bl bt gv W)(j:KpW bl base W W'):Stat6 ws g o cap sv bw bg base bl bt gv W':=
 h.of j.size λk n a l d f _=>j.same k n a l f (.inl d)
end
def UA{W W':World}(a:Below (U (R W)) W W')(r:Option Nat):W.grownBy W' r:=⟨a.os,a.tape,a.output,a.size,λk d _=>a.block k d⟩
def Pi{ws:List Int}{g o cap:Nat}:Ll ws g o cap .nilFunc [] xh xw (λt _=>t=0):=by
 intro W a t x h f k j;refine(Pm W ws g o cap h f a x j).mono ?_;rintro e W' ⟨rfl,d⟩;refine⟨UA d xw,?_⟩;unfold XZ Sp;grind
def Shps.grown{W W':World}{shs:List (Int×Int)}{d:Nat}{v:Value}{r:Option Nat}(h:Shps W shs d v)(j:W.grownBy W' r)(f:xk d≠r)(k:shs≠[]->∀g o cap,v=.slice (xk ⟨g,o,xw⟩) (P shs) cap->xk g≠r):Shps W' shs d v:=by
 refine⟨(j.block _ (Yg h.box) f).trans h.box,?_⟩;obtain⟨g,o,cap,rfl,n,p,l,q⟩|⟨a,cap,rfl,rfl⟩:=h.val;refine .inl ⟨g,o,cap,rfl,n,p,ZdU l j.size,λi x u=> ?_⟩;have t:=j.block g l (k (λe=>ZcL) _ _ _ rfl);grind [World.cell?_of_block,trans];simp
def KOld(shs:List (Int×Int))(bt a:Nat)(v:Value)(t:Nat)(W:World):Prop:=W.heap[bt]?=xk (.cells #[.int .i64 t] 3 (0,0))/\Shps W shs a v/\t<=P shs
def Pj{ws:List Int}{g o cap:Nat}{shs:List (Int×Int)}{bt k:Nat}{v:Value}(B:P shs<=1000000)(n:k≠bt)(q:shs≠[]->∀g o cap,v=.slice (xk ⟨g,o,xw⟩) (P shs) cap->g≠bt):
  Ll ws g o cap (.func (.func 129) #[] #[.pointer (xk ⟨bt,0,xw⟩),.pointer (xk ⟨k,0,xw⟩)]) shs xy (xk bt) (KOld shs bt k v):=by
 intro W a t x y w F z;obtain⟨A,D,K⟩:=F;have p:xk k≠xk bt:=λe=>n ZcK;have r:shs≠[]->∀g o cap,v=.slice (xk ⟨g,o,xw⟩) (P shs) cap->xk g≠xk bt:=λJ g o cap e M=>q J g o cap e ZcK;have h:∀W',Below (U (R W)) W W'->Shps W' shs k v:=λW' d=>D.grown (UA d xw) Z1 (λ_ _ _ _ _=>Z1);have f:∀W',Below (U (R W)) W W'->W'.heap[bt]?=xk (.cells #[.int .i64 t] 3 (0,0)):=λW' d=>(d.block _ (Yg A)).trans A;by_cases l:(adr x).2=0;unfold XZ;rw[if_pos ⟨rfl,l⟩];cases j:shs[t]? with
 |none=>
  have:t=P shs:=by have:=ZfX.1 j;omega
  subst this;refine(DT W _ ws g o cap y w a x z l λW' d=>Z1a W' shs bt k v B (h W' d) (f W' d)).mono ?_;rintro e W' ⟨rfl,d⟩;exact⟨UA d _,rfl⟩
 |some s=>
  simp only;cases u:YK s.1 s.2;refine(DT W _ ws g o cap y w a x z l λW' d=>Z19 W' shs bt k t v s B (h W' d) (f W' d) j u).mono ?_;rintro e W' ⟨rfl,d⟩;exact⟨UA d _,Z1⟩;refine(Pk W _ ws g o cap y w a x z l bt _ s.1 s.2 (Yg A) λW' d=>Z1b W' shs bt k t v s B (h W' d) (f W' d) j u n (q (λe=>ZcL))).mono ?_;rintro e W' ⟨rfl,C,G⟩;have I:=(ZdJ.1 j).1;refine⟨C,?_⟩;simp only[Zes];exact⟨trivial,G,D.grown C p r,Z0⟩
 refine(Pn W _ _ ws g o cap y w a x z l).mono ?_;rintro e W' ⟨rfl,d⟩;refine⟨UA d _,?_⟩;unfold XZ Sp;rw[if_neg (λH=>l H.2)];by_cases L:(ZP x).2.2=0;simp only[L,Zes];exact⟨trivial,f W' d,h W' d,K⟩;simp_all
end Vm
end
section
namespace Vm
open Go Go.Proofs Go.RowKit Go.Shelf
def Dh(a:Nat)(W:World):Prop:=∀k,Uk W a=xk k->k<U (R W)
def TE{A B C:World}{r:Option Nat}(h:A.grownBy B r)(k:B.grownBy C r):A.grownBy C r:=
 ⟨k.os.trans h.os,k.tape.trans h.tape,k.output.trans h.output,Zef h.size k.size,λi a d=>(k.block i (ZdU a h.size) d).trans (h.block i a d)⟩
def Z7X(ws:List Int)(shs:List (Int×Int))(old:Bool){a t g:Nat}{x:Int}{d:Ob}(hx:ws[a]?=xk x)(h:XZ shs old a t x=xk (d,g)){f:Nat}{pre:List Ob}:
  Xn ws shs old (f+1) a t pre=if(P ws:Int)<a+1+d.size then([],2)else if XK ((ws.drop (a+1)).take d.size.toNat) d.gone d.ptrs 0=xh then([],3)else Xn ws shs old f (a+1+d.size.toNat) g (pre++[d]):=by
 simp_all[Xn]
def Z0x(n:Nat){w:World}{ws:List Int}{g o cap bw bg base z:Nat}{bt:Option Nat}{sv gv:Value}{shs:List (Int×Int)}{old:Bool}{K:Nat->World->Prop}(c9:Stat6 ws g o cap sv bw bg base z bt gv w)
  (e5:z<base) (b0:xk z≠bt) (a7:Ll ws g o cap gv shs old bt K) (c6:K 0 w) (a4:∀t W W',K t W->Below (xz (xj W)) W W'->K t W') (c7:∀t W W',K t W->KpW z base W W'->K t W'):
  Di Fence.wide n Sol.prog 132 #[.pointer (xk ⟨bw,0,xw⟩),.pointer (xk ⟨bg,0,xw⟩)] (λd:Ob=> #[Ww d]) (KpW z base) (LM ws shs old K) (Z0B ws shs old) (xq ws) bt (Dh z) w:=by
 intro l J W hW c5 hJ hY h0;refine callsIn_of_wp Sol.func132 rfl trivial ?_ rfl;simp only[Try.ntmps132,ZeY,Zf4,Zfj,Nat.reduceAdd,Nat.reduceSub,ZfA,ZfB,Zg1,ZfI,ZeC,ZeV];have b9:=ZdR (c9.grown (UA hW bt));have b7:=ZdR (a4 0 w W c6 hW);have b5:=ZdR h0;clear h0;gi_wp2
 gi_loopw [4] (λp wr=>∃(a t f:Nat) (pre:List Ob),p=.int .i64 a/\Hid (J pre wr/\K t wr/\Stat6 ws g o cap sv bw bg base z bt gv wr/\xq ws<f+a/\0<f/\a<=xq ws/\xq pre<=a/\ZM ws shs old=Xn ws shs old f a t pre))
  (λp _=>xq ws- (intOf p).toNat)
 case atStart=>exact⟨0,0,xq ws+1,[],rfl,ZdR ⟨b5.out,b7.out,b9.out,Z0,Z0,Z0,Z1,rfl⟩⟩
 case round=>
  obtain⟨a,t,f,pre,rfl,j⟩:=hrel;have k:=j.out.2.2.1;have Z:=k.sv_;have c1:wr.cell? ⟨bw,0,xw⟩=xk sv:=by rw[ZdV _ _ _ _ _ _ k.hbw];rfl
  have c2:wr.cell? ⟨bg,0,xw⟩=xk gv:=by rw[ZdV _ _ _ _ _ _ k.hbg];rfl
  have d6:=k.words.len;clear k;by_cases a9:a<xq ws
  .obtain⟨x,hx⟩:∃x,ws[a]?=xk x:=⟨_,ZdI a9⟩;obtain rfl:sv=.slice (xk ⟨g,o,xw⟩) (xq ws) cap:=Z.resolve_right (λh=>ZcL);clear Z;have d7:((a:Int)<xq ws)=True:=Zgt Z0;have hb:=a7 wr a t x j.out.2.2.1.words (by have:=j.out.2.2.1.lt;omega) j.out.2.1 hx;cases ho:XZ shs old a t x with
   |none=>
    rw[ho]at hb;have HX:=ZdR hb;clear hb;gi_wp2
    refine⟨trivial,λh=>Zd0,(ZfS.2 HX.out).mono ?_⟩;rintro e w1 ⟨y,rfl⟩;have H:=ZdR y;clear y;gi_wp2
    refine⟨rfl,.inr ⟨_,pre,rfl,⟨3,.inr rfl,rfl,?_⟩,hJ _ _ _ _ j.out.1 H.out (λr e=>e.symm)⟩⟩;obtain⟨_,_,_,hf,M,_,_,I⟩:=j.out;cases f with
    |zero=>omega
    |succ f=>
     simp_all[Xn]
   |some q=>
    obtain⟨d,t'⟩:=q;rw[ho]at hb;have HX:=ZdR hb;clear hb;obtain⟨Y,B⟩:=zY ho;gi_wp2
    refine⟨trivial,λh=>Zd0,(ZfS.2 HX.out).mono ?_⟩;rintro e w1 ⟨y,rfl,a8⟩;have H:=ZdR y;have b8:=ZdR a8;have L:=j.out.2.2.1.grown y;have e3:=ZdR L;have e1:∀O,(w1.alloc O).cell? ⟨bw,0,xw⟩=xk (.slice (xk ⟨g,o,xw⟩) (xq ws) cap):=λO=>by
     rw[Zfd _ _ _ (Yg L.hbw),ZdV _ _ _ _ _ _ L.hbw];rfl
    have X:wr.grownBy (w1.alloc (.cells #[.int .i64 a,.int .i64 d.size,.int .i64 d.ptrs,.bool d.gone,.int .u64 d.target] 59)) bt:=TE y (Zf6 _ _ _);have a6:=ZdR (j.out.2.2.1.grown X);have hh:=Z1k (w1.alloc (.cells #[.int .i64 a,.int .i64 d.size,.int .i64 d.ptrs,.bool d.gone,.int .u64 d.target] 59)) ws g o cap a6.out.words (by have:=a6.out.lt;omega) d a B a9 Y;unfold Ww at hh;rw[B]at hh;have b3:=ZdR X;have Q:=ZdR hh;have G:∀f pre,Xn ws shs old (f+1) a t pre=_:=λf pre=>Z7X ws shs old hx ho (f:=f) (pre:=pre);have R:=ZdR G;clear y a8 L X hh G hx;unfold Ww;gi_wp2
    refine⟨trivial,λh=>Zd0,(ZfS.2 Q.out).mono ?_⟩;rintro e w2 ⟨rfl,C⟩;have A:wr.grownBy w2 bt:=TE b3.out (UA C bt);have P:=ZdR A;have b1:=ZdR C;unfold zf;by_cases S:(xq ws:Int)<d.at_+1+d.size
    .rw[if_pos S];rw[B]at S;clear C A;gi_wp2
     refine⟨rfl,.inr ⟨_,pre,rfl,⟨2,.inl rfl,rfl,?_⟩,hJ _ _ _ _ j.out.1 P.out (λr e=>e.symm)⟩⟩;obtain⟨_,_,_,hf,M,_,_,I⟩:=j.out;obtain⟨f,rfl⟩:∃f',f=f'+1:=⟨f-1,Z0⟩;rw[I,R.out,if_pos S]
    .rw[if_neg S];by_cases T:XK ((ws.drop (d.at_.toNat+1)).take d.size.toNat) d.gone d.ptrs 0=xh
     .rw[if_pos T];rw[B]at S T;clear C A;gi_wp2
      refine⟨rfl,.inr ⟨_,pre,rfl,⟨3,.inr rfl,rfl,?_⟩,hJ _ _ _ _ j.out.1 P.out (λr e=>e.symm)⟩⟩;obtain⟨_,_,_,hf,M,_,_,I⟩:=j.out;obtain⟨f,rfl⟩:∃f',f=f'+1:=⟨f-1,Z0⟩;rw[I,R.out,if_neg Z0];simp_all
     .rw[if_neg T];rw[B]at S T;simp only[ZdY]at T;have b4:=ZdR (And.intro S T);have U:=hJ _ _ _ _ j.out.1 A (λr e=>e.symm);have e0:=ZdR U;have c0:=ZdR (j.out.2.2.1.grown A);have u:w2.heap[xz (xj w1)]?=xk (.cells #[.int .i64 a,.int .i64 d.size,.int .i64 d.ptrs,.bool d.gone,.int .u64 d.target] 59 (0,0)):=(C.block _ Z1).trans (Ze9 w1 _);have b2:=ZdR u;obtain⟨fn,d9,assign,d5,hy,I⟩:=hY pre d w2 U (by have:=j.out.2.2.2.2.2.2.1;omega);unfold Ww at hy;rw[B]at hy;have d0:w2.cell? ⟨xz (xj w1),0,xw⟩=xk (.int .i64 a):=Zd9;have d1:w2.cell? ⟨xz (xj w1),1,xw⟩=xk (.int .i64 d.size):=Zd9;have d2:w2.cell? ⟨xz (xj w1),2,xw⟩=xk (.int .i64 d.ptrs):=Zd9;have d3:w2.cell? ⟨xz (xj w1),3,xw⟩=xk (.bool d.gone):=Zd9;have d4:w2.cell? ⟨xz (xj w1),4,xw⟩=xk (.int .u64 d.target):=Zd9;clear C A U u;gi_wp2
      refine⟨λh=>Zd0,I.mono ?_⟩;rintro e W3 ⟨rfl,a1,D⟩;have b6:=ZdR a1;have e2:=ZdR D;have F:Uk w2 z≠xk (xz (xj w1)):=by
       intro e;have c8:z<xz (xj wr):=by have:=j.out.2.2.1.lt.2.2.2;omega
       have:Uk w2 z=Uk wr z:=by
        unfold Uk;rw[ZeE (a:=⟨z,0,xw⟩) (P.out.block z c8 b0)]
       rw[this]at e;have:=c5 _ _ j.out.1 _ e;have:=H.out.size;omega
      have N:=D.same _ _ b2.out rfl (by have:=j.out.2.2.1.lt.2.2.2;have:=H.out.size;omega) (.inr F);have f1:W3.cell? ⟨xz (xj w1),1,xw⟩=xk (.int .i64 d.size):=by rw[ZdV _ _ _ _ _ _ N];rfl
      have a5:=c0.out.kp D;have a2:K t' w2:=a4 _ _ _ b8.out (((Zei _ _).alloc (ZdN _) _).trans (b1.out.mono Z1));have a3:=c7 _ _ _ a2 D;have a0:=ZdR (And.intro a5 a3);obtain⟨m,hm⟩:∃m:Nat,d.size=m:=⟨d.size.toNat,by have:=(Yw.1 Y).1;omega⟩;rw[hm]at f1;have e7:(m:Int)<=255:=by have:=(Yw.1 Y);omega
      have q1:IntKind.i64.wrap (1+(m:Int))=((1+m:Nat):Int):=ZcY;have q2:IntKind.i64.wrap ((a:Int)+((1+m:Nat):Int))=((a+(1+m):Nat):Int):=ZcY;clear a1 D N a5 a2 a3 F;clear T;gi_wp2
      obtain⟨_,_,_,hf,M,e4,e8,I⟩:=j.out;obtain⟨f,rfl⟩:∃f',f=f'+1:=⟨f-1,Z0⟩;rw[R.out,if_neg Z0,if_neg b4.out.2]at I;have e6:a+1+m<=xq ws:=Z0;refine⟨⟨a+(1+m),t',f,pre++[d],Z1,ZdR ⟨b6.out,a0.out.2,a0.out.1,Z0,Z0,Z0,ZcM,?_⟩⟩,by grind [intOf]⟩;grind
  .have d8:((a:Int)<xq ws)=False:=Zgr Z0
   have HE:Hid (LM ws shs old K pre wr):=ZdR (by
    obtain⟨_,hK,_,hf,M,_,_,I⟩:=j.out;refine⟨t,hK,?_⟩;cases f with
    |zero=>omega
    |succ f=>
     simp_all[Xn,ZeL])
   obtain⟨sa,sc,rfl⟩:∃sa sc,sv=.slice sa (xq ws) sc:=by
    grind
   clear Z;gi_wp2
   go_end0
   exact .inl ⟨_,pre,rfl,HE.out,j.out.1⟩
end Vm
namespace Vm
open Go Go.Proofs Go.RowKit Go.Shelf
def Z0y(w:World)(g d:Value)(k:∃a n c,g=.slice a n c)(h:d=.nilFunc\/∃f vs,d=.func (.func f) #[] vs):
  Calls Sol.prog 131 #[g,d] w λe l=>e=.returned (.func (.func 132) #[] #[.pointer (xk ⟨U (R w),0,xw⟩),.pointer (xk ⟨U (R w)+1,0,xw⟩)])/\
   l=(w.alloc (.cells #[g] 35)).alloc (.cells #[d] 190):=by
 have j:∀(fn:Go.Fn) (first cap:Array Value) (w:World),(Instr.makeFunc fn first cap).run Sol.prog w=.ok (.func fn first cap) w:=λ_ _ _ _=>rfl;obtain⟨a,n,c,rfl⟩:=k;obtain rfl|⟨f,vs,rfl⟩:=h
 .go_enter Sol.func131,Try.ntmps131;go_wp2;exact ZeA (results_tmp rfl _ _ _) rfl ⟨rfl,rfl⟩
 .go_enter Sol.func131,Try.ntmps131;go_wp2;exact ZeA (results_tmp rfl _ _ _) rfl ⟨rfl,rfl⟩
def Z3B(w:World):Sem.run Sol.prog (binOp .neq 20 .nilIface .nilIface) w=.ok (.bool xh) w:=ZdB
def Z3C(w:World)(T:TypeId)(v:Value):Sem.run Sol.prog (binOp .neq 20 (.iface T v) .nilIface) w=.ok (.bool xy) w:=ZdB
def Z7z(w:World)(x:Int):Sem.run Sol.prog (Instr.typeAssert (.iface 189 (.agg #[.int .i64 x])) 20 189 xy) w=.ok (.tuple #[.agg #[.int .i64 x],.bool xy]) w:=ZdB
def Z0e(n:Nat)(p q:Addr)(w:World):
  CallsDIn Fence.wide n Sol.prog 130 #[.pointer (xk p),.pointer (xk q)] .returning w λe f g=>e=.returned (.tuple #[])/\f=.returning/\g=w:=by
 have j:=Z3B;refine callsDIn_of_wpSIn Sol.func130 rfl trivial λa h d=> ?_;simp only[Try.ntmps130,ZeY,Zf4,Zfj,Nat.reduceAdd,Nat.reduceSub,ZfA,ZfB,Zg1,ZfI,ZeC,ZeV];apply wpSIn_seq;apply wpSIn_region;simp[wpOpsSIn,go_sem,recoverD,d,Exit.thenS];refine wpSIn_of_wpIn rfl ?_;gi_wp2
 cases a;simp_all [bodyPostS,results,Try.results130]
def Z0f(n:Nat)(a d:Nat)(x:Int)(w:World)(z l:Value)(f:Boxed w a 55 z)(g:Boxed w d 32 l)(h:a≠d):
  CallsDIn Fence.wide n Sol.prog 130 #[.pointer (xk ⟨a,0,xw⟩),.pointer (xk ⟨d,0,xw⟩)] (.panicking (V6 x)) w λe y j=>
   e=.returned (.tuple #[])/\y=.panicking [{v:=.iface 189 (.agg #[.int .i64 x]),recovered:=xy}]/\
   Boxed j a 55 (.slice xw 0 0)/\Boxed j d 32 (.int .i64 x)/\(xz (xj w)<=xz (xj j)/\∀k,k<xz (xj w)->k≠a->k≠d->j.heap[k]?=w.heap[k]?)/\j.os=w.os/\j.tape=w.tape/\j.output=w.output:=by
 have C:=Z3C;have D:=Z7z;have N:=(f.alloc (.cells #[.int .i64 x] 189)).cell;have p2:=(f.alloc (.cells #[.int .i64 x] 189)).frozen;have O:=(g.alloc (.cells #[.int .i64 x] 189)).cell;have P:=(g.alloc (.cells #[.int .i64 x] 189)).frozen;have p3:=f.cell;have p4:=f.frozen;have Q:=g.cell;have R:=g.frozen;have H:=f.lt;have I:=g.lt;have t:¬a=d:=h;have u:¬d=a:=λe=>h e.symm;have J:¬a=xz (xj w):=Z0;have K:¬xz (xj w)=a:=Z0;have L:¬d=xz (xj w):=Z0;have M:¬xz (xj w)=d:=Z0;have o:=ZdR (And.intro f g);clear f g h;refine callsDIn_of_wpSIn Sol.func130 rfl trivial λB A r=> ?_;simp only[Try.ntmps130,ZeY,Zf4,Zfj,Nat.reduceAdd,Nat.reduceSub,ZfA,ZfB,Zg1,ZfI,ZeC,ZeV];apply wpSIn_seq;apply wpSIn_region;simp[wpOpsSIn,go_sem,recoverD,r,V6,Exit.thenS];refine wpSIn_of_wpIn rfl ?_;gi_wp2
 gi_region
 all_goals gi_wp2
 obtain⟨f,g⟩:=o.out;have p:Boxed ((w.setCell ⟨a,0,xw⟩ (.slice xw 0 0)).setCell ⟨d,0,xw⟩ (.int .i64 x)) a 55 (.slice xw 0 0):=(Ze7 _ ⟨d,0,xw⟩ _ a t).trans (f.set _);have q:Boxed ((w.setCell ⟨a,0,xw⟩ (.slice xw 0 0)).setCell ⟨d,0,xw⟩ (.int .i64 x)) d 32 (.int .i64 x):=Boxed.set _ (show Boxed (w.setCell ⟨a,0,xw⟩ (.slice xw 0 0)) d 32 l from(Ze7 _ ⟨a,0,xw⟩ _ d u).trans g);refine⟨rfl,_,rfl,_,by simp[results,Try.results130],rfl,rfl,p.alloc _,q.alloc _,⟨?_,λk F k1 G=> ?_⟩,rfl,rfl,rfl⟩;simp;show(World.alloc _ _).heap[k]?=_;grind [Below.heap_alloc,World.setCell,Below.heap_setCell]
end Vm
namespace Vm
open Go Go.Proofs Go.RowKit Go.Shelf
def Th(a:Ob):List Value:=[.int .i64 a.at_,.int .i64 a.size,.int .i64 a.ptrs,.bool a.gone,.int .u64 a.target]
def Wx(l:List Ob):List Value:=l.flatMap Th
def Z3U(l:List Ob)(x:Ob):Wx (l++[x])=Wx l++Th x:=by simp[Wx]
structure WIv (w:World) (bt:Option Nat) (pre:List Ob) (W:World):Prop where
 row:∃v,Boxed W (U (R w)) 55 v/\W.ownsRow (U (R w)+4) 59 5 v (P pre) (Wx pre)
 e:Boxed W (U (R w)+1) 32 (.int .i64 0)
 gr:w.grownBy W bt
 size:U (R w)+4<=U (R W)
def UB{w X Y:World}{bt row:Option Nat}(h:w.grownBy X bt)(k:X.grownBy Y row)(f:∀r,row=xk r->xk r=bt\/U (R w)<=r):w.grownBy Y bt:=
 ⟨k.os.trans h.os,k.tape.trans h.tape,k.output.trans h.output,Zef h.size k.size,λi a d=>
  (k.block i (ZdU a h.size) (λe=>ZcK)).trans (h.block i a d)⟩
theorem yS{W:World}{b:Nat}{t:TypeId}{v:Value}(h:Boxed W b t v):Uk W b=v.ownBlock:=by
 unfold Uk;rw[h.cell];rfl
def WIv.rowIn{w:World}{bt:Option Nat}{pre:List Ob}{W:World}(h:WIv w bt pre W):Dh (U (R w)) W:=by
 obtain⟨v,f,d⟩:=h.row;intro k a;rw[yS f]at a;exact(d.lt k a).2
def WIv.own{w:World}{bt:Option Nat}(y:∀r,bt=xk r->r<U (R w)):OwnP bt (U (R w)+4) (WIv w bt):=by
 intro s X Y row h d l;have f:∀k,U (R w)<=k->k<U (R w)+4->xk k≠row:=by
  intro k u x e;obtain n|⟨n,_⟩:=l k e.symm;grind;omega
 obtain⟨v,A,a⟩:=h.row;refine⟨⟨v,A.kept d (f _ (ZdN _) Z0),a.kept d ?_⟩,h.e.kept d (f _ Z0 Z0),UB h.gr d λr e=>(l r e).imp id λx=>Z0,Zef h.size d.size⟩;cases p:v.ownBlock with
 |none=>simp
 |some b=>
  refine .inr λe=> ?_;have u:=a.lt b p;obtain n|⟨_,o,q,z⟩:=l b e.symm;grind;obtain⟨rfl,_⟩|⟨g,cap,t,rfl,_,j,_⟩:=a.2;simp[Value.ownBlock]at p;obtain rfl:g=b:=by grind [Value.ownBlock]
  rw[j]at q;cases q;cases z
def WIv.appended{w W w1:World}{bt:Option Nat}{pre:List Ob}{x:Ob}{v v':Value}{tmp:Obj}(C:∀r,bt=xk r->r<U (R w))(h:WIv w bt pre W)(A:Boxed W (U (R w)) 55 v)
  (g:W.ownsRow (U (R w)+4) 59 5 v (P pre) (Wx pre)) (d:w1.ownsRow (U (R w)+4) 59 5 v' (P pre+1) (Wx pre++Th x))
  (a:(W.alloc tmp).grownBy w1 v.ownBlock) (f:v'.ownBlock=v.ownBlock\/v'.ownBlock=xk (U (R (W.alloc tmp)))):
  Boxed w1 (U (R w)) 55 v/\KeepsFrom (U (R w)+4) W (w1.setCell ⟨U (R w),0,xw⟩ v')/\KpW (U (R w)) (U (R w)+4) W (w1.setCell ⟨U (R w),0,xw⟩ v')/\WIv w bt (pre++[x]) (w1.setCell ⟨U (R w),0,xw⟩ v'):=by
 have u:=h.size;obtain⟨y,l,F,j,B⟩:=A.appended (by decide) (yk g (B':=U (R w)) Z0) Z0 (ZdN _) (yk d (B':=U (R w)) Z0) a;have z:∀b,v.ownBlock=xk b->U (R w)+4<=b:=λb p=>(g.lt b p).1
 have t:(w1.setCell ⟨U (R w),0,xw⟩ v').ownsRow (U (R w)+4) 59 5 v' (P pre+1) (Wx pre++Th x):=d.kept (Zg6 w1 (U (R w)) v') (by
  cases p:v'.ownBlock with
  |none=>simp
  |some b=>exact .inr λe=>by have G:=(d.lt b p).1;grind)
 refine⟨y,j.from _,⟨j.size,λk o n H D I=> ?_,λk n e=> ?_⟩,⟨v',l,?_⟩,?_,?_,Zef u j.size⟩;rw[Ze7 _ _ _ _ D,a.block k (by have:=Yg n;simp;omega) (λe=> ?_),ZdP _ _ _ (Yg n),n];grind [yS,trans];rw[yS l]at e;rw[yS A];obtain f|f:=f;simp_all;rw[f]at e;simp at e;omega;simp_all[Zeu,Z3U];have q:Boxed w1 (U (R w)+1) 32 (.int .i64 0):=(h.e.alloc tmp).kept a (λe=>ZcK);exact(Ze7 _ _ _ _ Z1).trans q;refine UB (UB (UB h.gr (Zf6 W tmp xw) Z1) a λr e=>.inr ?_) (Zg6 w1 (U (R w)) v') λr e=>.inr ?_;grind;simp_all
def KpW.alloc{a base:Nat}{W:World}(o:Obj)(f:a<U (R W)):KpW a base W (W.alloc o):=by
 refine⟨Z1,λk h d _ _ _=>(ZdP _ _ _ (Yg d)).trans d,λk _ g=> ?_⟩;simp_all[Uk,Zfd]
end Vm
namespace Vm
open Go Go.Proofs Go.RowKit Go.Shelf
attribute [local go_sem] Oper.semAt_some
def Z2w:(Sol.prog.info? 59).map (λi=>(i.zero,i.size,i.bytes))=xk (xk (.agg #[.int .i64 0,.int .i64 0,.int .i64 0,.bool xh,.int .u64 0]),5,40):=Z2
def unO:Sol.prog.underlying 55=xk (.slice 59):=Z2
def Z0j(w:World)(a b c d e:Value)(t:TypeId):∀j u,[a,b,c,d,e][j]?=xk u->(w.alloc (.cells #[a,b,c,d,e] t)).cell? ((⟨U (R w),0,xw⟩:Addr).add j)=xk u:=by
 intro j u h;have:=ZdV _ _ j _ _ _ (Ze9 w (.cells #[a,b,c,d,e] t));grind [add,Addr.add]
def Dn(w:World)(ws:List Int)(shs:List (Int×Int))(old:Bool)(bt:Option Nat)(K:Nat->World->Prop)(e:Ending)(W:World):Prop:=
 ∃v n a,e=.returned (.tuple #[v,.int .i64 n])/\w.grownBy W bt/\W.ownsRow (U (R w)+4) 59 5 v (P a) (Wx a)/\((n=0/\LM ws shs old K a W)\/((n=2\/n=3)/\a=[]/\ZM ws shs old=([],n)))
def NK{w:World}{ws:List Int}{g o cap:Nat}{bt:Option Nat}{p j:Value}{shs:List (Int×Int)}{old:Bool}{K:Nat->World->Prop}(hw:Words w ws g o cap)
  (a9:p=.slice (xk ⟨g,o,xw⟩) (xq ws) cap\/(ws=[]/\∃a c,p=.slice a 0 c)) (hg:(ws≠[]->g<xz (xj w))/\g<xz (xj w)+4/\g≠xz (xj w)) (c5:j=.nilFunc\/∃f vs,j=.func (.func f) #[] vs)
  (T:∀r,bt=xk r->r<xz (xj w)) (c0:xk g≠bt) (a4:Ll ws g o cap j shs old bt K) (b4:K 0 w)
  (z:∀t A B row,K t A->A.grownBy B row->(∀r,row=xk r->xz (xj w)<=r)->K t B)
  (b6:∀bl base t A B,xz (xj w)<=bl->xz (xj w)<=base->K t A->KpW bl base A B->K t B):
  Calls Sol.prog 128 #[p,j] w (Dn w ws shs old bt K):=by
 refine(ZfS (n:=5)).1 ?_;have f3:∀(fn:Go.Fn) (first cap:Array Value) (w:World),(Instr.makeFunc fn first cap).run Sol.prog w=.ok (.func fn first cap) w:=λ_ _ _ _=>rfl;have c9:∃a n c,p=.slice a n c:=by
  obtain rfl|⟨_,a,c,rfl⟩:=a9;simp;simp
 refine callsIn_of_wp_marks Sol.func128 rfl trivial ?_ rfl;simp only[Try.ntmps128,ZeY,Zf4,Zfj,Nat.reduceAdd,Nat.reduceSub,ZfA,ZfB,Zg1,ZfI,ZeC,ZeV];have he:=λW=>Z0y W p j c9 c5;gi_wp2
 refine⟨trivial,(ZfS.2 (he _)).mono ?_⟩;rintro e w1 ⟨rfl,rfl⟩;gi_wp2
 have a0:∀b:Nat,b<xz (xj w)->((((w.alloc (Obj.cells #[.slice xw 0 0] 55)).alloc (.cells #[.int .i64 0] 32)).alloc (.cells #[p] 35)).alloc (.cells #[j] 190)).heap[b]?=w.heap[b]? :=λb hb=>by
  grind [Below.heap_alloc]
 have b0:Boxed ((((w.alloc (Obj.cells #[.slice xw 0 0] 55)).alloc (.cells #[.int .i64 0] 32)).alloc (.cells #[p] 35)).alloc (.cells #[j] 190)) (xz (xj w)) 55 (.slice xw 0 0):=(((Boxed.new w _ _).alloc _).alloc _).alloc _;have b1:Boxed ((((w.alloc (Obj.cells #[.slice xw 0 0] 55)).alloc (.cells #[.int .i64 0] 32)).alloc (.cells #[p] 35)).alloc (.cells #[j] 190)) (xz (xj w)+1) 32 (.int .i64 0):=by
  have:=((Boxed.new (w.alloc (Obj.cells #[.slice xw 0 0] 55)) 32 (.int .i64 0)).alloc (.cells #[p] 35)).alloc (.cells #[j] 190);rwa[Zg5]at this
 have b2:Boxed ((((w.alloc (Obj.cells #[.slice xw 0 0] 55)).alloc (.cells #[.int .i64 0] 32)).alloc (.cells #[p] 35)).alloc (.cells #[j] 190)) (xz (xj w)+2) 35 p:=by
  have:=(Boxed.new ((w.alloc (Obj.cells #[.slice xw 0 0] 55)).alloc (.cells #[.int .i64 0] 32)) 35 p).alloc (.cells #[j] 190);simp_all
 have b3:Boxed ((((w.alloc (Obj.cells #[.slice xw 0 0] 55)).alloc (.cells #[.int .i64 0] 32)).alloc (.cells #[p] 35)).alloc (.cells #[j] 190)) (xz (xj w)+3) 190 j:=by
  have:=Boxed.new (((w.alloc (Obj.cells #[.slice xw 0 0] 55)).alloc (.cells #[.int .i64 0] 32)).alloc (.cells #[p] 35)) 190 j;simp_all
 have I:w.grownBy ((((w.alloc (Obj.cells #[.slice xw 0 0] 55)).alloc (.cells #[.int .i64 0] 32)).alloc (.cells #[p] 35)).alloc (.cells #[j] 190)) bt:=⟨rfl,rfl,rfl,ZcM,λk Z _=>a0 k Z⟩;have N:xz (xj ((((w.alloc (Obj.cells #[.slice xw 0 0] 55)).alloc (.cells #[.int .i64 0] 32)).alloc (.cells #[p] 35)).alloc (.cells #[j] 190)))=xz (xj w)+4:=Z1;generalize e9:(((w.alloc (Obj.cells #[.slice xw 0 0] 55)).alloc (.cells #[.int .i64 0] 32)).alloc (.cells #[p] 35)).alloc (.cells #[j] 190)=W0 at*;have d5:Stat6 ws g o cap p (xz (xj w)+2) (xz (xj w)+3) (xz (xj w)+4) (xz (xj w)) bt j W0:=by
  refine⟨⟨λi x F=> ?_,hw.le,hw.cap,hw.len,hw.u64⟩,a9,b2,b3,λhn=> ?_,⟨Z0,Z0,Z0,Z0⟩,⟨Z0,Z0,Z0⟩,c0,?_,?_⟩;rw[<-hw.at_ i x F];grind [World.cell?_of_block];obtain⟨x,F⟩:∃x,ws[0]?=xk x:=by cases ws with|nil=>simp_all|cons x l=>simp
  have:=hw.at_ 0 x F;rw[a0 g (hg.1 hn)];unfold World.cell? at this;cases hh:w.heap[g]? with
  |none=>simp_all
  |some ob=>
   refine⟨ob,rfl,?_⟩;grind [Obj.isCells]
  grind;grind
 have a3:K 0 W0:=z 0 w W0 xw b4 ⟨I.os,I.tape,I.output,I.size,λk Z _=>a0 k Z⟩ Z1;have a8:=Z0x 4 d5 Z0 (λe=>ZcK) a4 a3 (λt A B hA M=>z t A B xw hA ⟨M.os,M.tape,M.output,M.size,λk Z _=>M.block k Z⟩ Z1) (λt A B hA M=>b6 _ _ t A B (ZdN _) Z0 hA M)
 refine Z8a rfl Z0 (gf:=132) (lb:=#[.pointer (xk ⟨xz (xj w)+2,0,xw⟩),.pointer (xk ⟨xz (xj w)+3,0,xw⟩)]) rfl trivial (enters_of Sol.func132 Z2 rfl)
  a8 (λr e=>ZcK) KpW.trans (λW l o o' h1 h2 h3 _=>KpW.put o' h2 h3 Z0) (Zei _ _) (λ_=>rfl)
  (WIv w bt) (N▸WIv.own T) (λpre W h=>h.rowIn) ⟨⟨_,b0,Zf9 _ _ _ _⟩,b1,I,Z0⟩ ?hS
  (λx a' W=>∃y,xz (xj w)+4<=y/\W.heap[y]?=xk (.cells #[.int .i64 x.at_,.int .i64 x.size,.int .i64 x.ptrs,.bool x.gone,.int .u64 x.target] 59 (0,0))/\
   a'= {tmps:=#[p,j,undef,undef,.pointer (xk ⟨xz (xj w),0,xw⟩),.pointer (xk ⟨xz (xj w)+1,0,xw⟩),.pointer (xk ⟨y,0,xw⟩),
    .func (.func 130) #[] #[.pointer (xk ⟨xz (xj w),0,xw⟩),.pointer (xk ⟨xz (xj w)+1,0,xw⟩)],p,j,.func (.func 132) #[] #[.pointer (xk ⟨xz (xj w)+2,0,xw⟩),.pointer (xk ⟨xz (xj w)+3,0,xw⟩)],Ww x,undef,undef,undef,undef,undef],defers:=[]})
  ?hAx ?assign ?body ?done ?panic
 case hS=>
  rintro u X Y row ⟨t,hK,hR⟩ J d;exact⟨t,z t X Y row hK J λr e=>(d r e).elim (λe2=>by cases e2) (λe2=>Z0),hR⟩
 case hAx=>
  rintro x a' s X Y row ⟨y,M,F,ha⟩ J d;refine⟨y,M,(J.block y (Yg F) λe=> ?_).trans F,ha⟩;obtain e2|⟨_,o2,h2,h3⟩:=d y e.symm;cases e2;rw[F]at h2;cases h2;cases h3
 case assign=>
  rintro l pre x W K2 q b5;simp only[List.zip_cons_cons,Array.zip,Ww];gi_wp2
  exact b5 _ _ ((KeepsOthers.alloc W _).from _) (KpW.alloc _ (by have:=q.size;omega)) ((WIv.own T).alloc _ q) ⟨xz (xj W),q.size,Ze9 W _,rfl⟩
 case body=>
  rintro l pre x a' W q ⟨y,e8,F,rfl⟩ a6;obtain⟨v,O,d⟩:=q.row;obtain⟨i0,c6,d6,d7,d8⟩:=info_parts Z2w;obtain⟨G,H,rfl⟩:=Yx d;have c1:=O.cell;have c2:=O.frozen;have d0:W.cell? ⟨y,0,xw⟩=xk (.int .i64 x.at_):=Zd6;have d1:W.cell? ⟨y,1,xw⟩=xk (.int .i64 x.size):=Zd6;have d2:W.cell? ⟨y,2,xw⟩=xk (.int .i64 x.ptrs):=Zd6;have d3:W.cell? ⟨y,3,xw⟩=xk (.bool x.gone):=Zd6;have d4:W.cell? ⟨y,4,xw⟩=xk (.int .u64 x.target):=Zd6;have f4:xq pre<=1000000:=Zef (Nat.le_of_lt a6) hw.len;have e7:=q.size;have HA:=λtmp w1 v'=>WIv.appended (W:=W) (w1:=w1) (x:=x) (v':=v') (tmp:=tmp) T q O d;gi_wp2_with (gi_at_builtin;refine wpListIn_append_own_at _ rfl _ _ 55 rfl (xz (xj w)+4) 59 i0 _ 5 40 unO c6 d6 d7 d8 rfl (by decide) _ _ _ rfl (d.alloc _) ⟨xz (xj W),0,xw⟩ 1 1 (Th x) rfl rfl (Z0j _ _ _ _ _ _ _) (by simp[Th,Value.oneCell']) Zdy Z0 ZcM ?_;intro v' w1 L U _ b8;obtain⟨g',e0,rfl⟩:=ownsRow_succ L;obtain⟨e1,e2,e3,e4⟩:=HA _ _ _ L U b8;have e5:=e1.cell;have e6:=e1.frozen)
  rw[N];exact⟨e2,e3,e4⟩
 case done=>
  rintro D u W hD hS q S;obtain⟨v,O,d⟩:=q.row;obtain⟨G,H,rfl⟩:=Yx d;have c1:=O.cell;have c2:=O.frozen;have c3:=q.e.cell;have c4:=q.e.frozen;rw[N]at hD;gi_wp2
  have a2:((W.setCell ⟨xz (xj w),0,xw⟩ (.slice G (xq u) H)).setCell ⟨xz (xj w)+1,0,xw⟩ (.int .i64 0)).heap[D]?=xk (.deferred (xk [])):=by
   rw[Ze7 _ _ _ _ ZcK,Ze7 _ _ _ _ ZcK];exact S
  have f0:Boxed ((W.setCell ⟨xz (xj w),0,xw⟩ (.slice G (xq u) H)).setCell ⟨xz (xj w)+1,0,xw⟩ (.int .i64 0)) (xz (xj w)) 55 (.slice G (xq u) H):=
   (Ze7 _ _ _ _ Z1).trans (O.set _)
  have f1:Boxed ((W.setCell ⟨xz (xj w),0,xw⟩ (.slice G (xq u) H)).setCell ⟨xz (xj w)+1,0,xw⟩ (.int .i64 0)) (xz (xj w)+1) 32 (.int .i64 0):=
   Boxed.set _ (show Boxed (W.setCell ⟨xz (xj w),0,xw⟩ (.slice G (xq u) H)) (xz (xj w)+1) 32 (.int .i64 0)from(Ze7 _ _ _ _ Z1).trans q.e)
  have g1:=Zg6 W (xz (xj w)) (.slice G (xq u) H);have g2:=Zg6 (W.setCell ⟨xz (xj w),0,xw⟩ (.slice G (xq u) H)) (xz (xj w)+1) (.int .i64 0);have P:=d.lt
  have r2:=(d.kept g1 (by
   cases hb:(Value.slice G (xq u) H).ownBlock with
   |none=>simp
   |some b=>exact .inr λe=>by have:=(P b hb).1;grind)).kept g2 (by
   cases hb:(Value.slice G (xq u) H).ownBlock with
   |none=>simp
   |some b=>exact .inr λe=>by have:=(P b hb).1;grind)
  generalize f2:(W.setCell ⟨xz (xj w),0,xw⟩ (.slice G (xq u) H)).setCell ⟨xz (xj w)+1,0,xw⟩ (.int .i64 0)=W2 at*;have g3:=Zgf W2 D (.deferred xw);have Q:Boxed (W2.putObj D (.deferred xw)) (xz (xj w)) 55 (.slice G (xq u) H):=(Zep Z0).trans f0;have R:Boxed (W2.putObj D (.deferred xw)) (xz (xj w)+1) 32 (.int .i64 0):=(Zep Z0).trans f1;have k0:=Q.cell;have k1:=R.cell;refine⟨Z1,.inl ⟨D,_,rfl,ZgX a2,?_⟩⟩;refine⟨Z1,.inr ⟨λh=>Zd0,.func 130,_,130, #[.pointer (xk ⟨xz (xj w),0,xw⟩),.pointer (xk ⟨xz (xj w)+1,0,xw⟩)],rfl,ZdB,λ_ _=>trivial,?_⟩⟩;refine(Z0e _ _ _ _).mono ?_;rintro e u' d9 ⟨rfl,rfl,rfl⟩;refine⟨.tuple #[.slice G (xq u) H,.int .i64 0],by simp[results,Try.results128,go_sem,k0,k1],?_⟩;obtain⟨t,hK,hR⟩:=hS;refine⟨_,0,u,rfl,UB (UB (UB q.gr g1 λr e=>.inr ?_) g2 λr e=>.inr ?_) g3 λr e=>.inr ?_,ownsRow_putObj r2 _ a2 rfl,.inl ⟨rfl,t,z t _ _ _ (z t _ _ _ (z t _ _ _ hK g1 λr e=> ?_) g2 λr e=> ?_) g3 λr e=> ?_,hR⟩⟩;all_goals (grind)
 case panic=>
  rintro D chain pre W hD ⟨e,b9,rfl,b7⟩ q S;rw[N]at hD;obtain⟨v,O,d⟩:=q.row;have g3:=Zgf W D (.deferred xw);have Q:Boxed (W.putObj D (.deferred xw)) (xz (xj w)) 55 v:=(Zep Z0).trans O;have R:Boxed (W.putObj D (.deferred xw)) (xz (xj w)+1) 32 (.int .i64 0):=(Zep Z0).trans q.e;have C:w.grownBy (W.putObj D (.deferred xw)) bt:=UB q.gr g3 λr e=>.inr ZcK;refine⟨Z1,.inl ⟨D,_,rfl,ZgX S,?_⟩⟩;refine⟨Z1,.inr ⟨λh=>Zd0,.func 130,_,130, #[.pointer (xk ⟨xz (xj w),0,xw⟩),.pointer (xk ⟨xz (xj w)+1,0,xw⟩)],rfl,ZdB,λ_ _=>trivial,?_⟩⟩;refine(Z0f _ (xz (xj w)) (xz (xj w)+1) e _ _ _ Q R Z0).mono ?_;rintro e' u' d9 ⟨rfl,rfl,h0,h1,⟨c8,Z⟩,c7,a1,a7⟩;have k0:=h0.cell;have k1:=h1.cell;refine⟨.tuple #[.slice xw 0 0,.int .i64 e],by simp[results,Try.results128,go_sem,k0,k1],?_⟩;refine⟨_,e,[],rfl,⟨c7.trans C.os,a1.trans C.tape,a7.trans C.output,Zef C.size c8,λk a5 hn=> ?_⟩,Zf9 _ _ _ _,.inr ⟨b9,rfl,b7⟩⟩;exact(Z k (ZdU a5 C.size) Z0 Z0).trans (C.block k a5 hn)
end Vm
namespace Vm
open Go Go.Proofs Go.RowKit Go.Shelf
theorem TX{w:World}{G:Nat->Prop}{k:IntKind}{n:Int}{v:Value}(r:Rd w G (.int k n) v):v=.int k n:=by cases r;rfl
theorem Mc{w:World}{G:Nat->Prop}{b:Bool}{v:Value}(r:Rd w G (.bool b) v):v=.bool b:=by cases r;rfl
def NS{w:World}{G:Nat->Prop}{ws:List Int}{v:Value}(r:Rd w G (.sl (ws.map vu)) v)(p:∀b,G b->b<U (R w))(B:P ws<=1000000)(C:∀x∈ws,ZC x)(q:Nat):
  ∃g o cap,Words w ws g o cap/\(v=.slice (xk ⟨g,o,xw⟩) (P ws) cap\/(ws=[]/\∃a c,v=.slice a 0 c))/\((ws≠[]->g<U (R w))/\(g<(U (R w))\/g=q)):=by
 generalize t:ws.map vu=L at r;cases r with
 |nil a cap D=>
  have:ws=[]:=List.map_eq_nil_iff.1 t;subst this;exact⟨q,0,0,⟨λi x d=>Zdo,Z1,Zdy,Z1,Z1⟩,.inr ⟨rfl,a,cap,rfl⟩,λh=>absurd rfl h,.inr rfl⟩
 |sl _ b o cap k vs f y j l n z=>
  subst t;simp only[Zem]at f n⊢;refine⟨b,o,cap,⟨λi x d=> ?_,f,y,B,C⟩,.inl rfl,λ_=>p b j,.inl (p b j)⟩;have u:(ws.map vu)[i]?=xk (vu x):=by rw[Ze3,d];rfl
  have A:k=1:=((l _ (ZdQ u)).1).symm;subst A;have F:i<P ws:=(ZdJ.1 d).1;rw[n i Z0];have:=z i (vu x) (by have:=Vr l u 0 Z0;simp_all);rw[TX this]
def Z6U{w:World}{G:Nat->Prop}{shs:List (Int×Int)}{v:Value}(r:Rd w G (.sl (shs.map Wc)) v)(t:∀b,G b->b<U (R w)):
  (∃g o cap,v=.slice (xk ⟨g,o,xw⟩) (P shs) cap/\P shs<=cap/\cap<=maxLen/\g<U (R w)/\∀(i:Nat) (x:Int×Int),shs[i]?=xk x->w.cell? ⟨g,o+i*2,xw⟩=xk (.int .i64 x.1)/\w.cell? ⟨g,o+i*2+1,xw⟩=xk (.int .i64 x.2))\/
  (∃a cap,v=.slice a 0 cap/\shs=[]):=by
 generalize u:shs.map Wc=L at r;cases r with
 |nil a cap B=>
  simp_all
 |sl _ b o cap k vs h n p d q j=>
  subst u;simp only[Zem]at h q⊢;refine .inl ⟨b,o,cap,rfl,h,n,t b p,λi x l=> ?_⟩;have f:(shs.map Wc)[i]?=xk (Wc x):=by rw[Ze3,l];rfl
  have y:k=2:=((d _ (ZdQ f)).1).symm;subst y;have C:i<P shs:=(ZdJ.1 l).1;have z:=j (i*2) (vi x.1) (by have:=Vr d f 0 Z0;simp_all);have A:=j (i*2+1) (vi x.2) (by have:=Vr d f 1 Z0;simp_all);grind [TX,Nat.add_assoc]
def H9{w:World}{G:Nat->Prop}:∀(l:List Ob) (i:Nat) (c:V),(flat (l.map ZL))[i]?=xk c->Rd w G c ((Wx l).getD i undef)
 | [],i,c,h=>ZcL
 |x::l,i,c,h=>by
  rw[Zeh,SB]at h;have e:Wx (x::l)=Th x++Wx l:=by simp[Wx]
  rw[e];by_cases d:i<5
  match i,d with
  |0,_=>simp[ZL,V.cells]at h;subst h;exact .int _ _
  |1,_=>simp[ZL,V.cells]at h;subst h;exact .int _ _
  |2,_=>simp[ZL,V.cells]at h;subst h;exact .int _ _
  |3,_=>simp[ZL,V.cells]at h;subst h;exact .bool _
  |4,_=>simp[ZL,V.cells]at h;subst h;exact .int _ _
  have a:(flat (l.map ZL))[i-5]?=xk c:=by
   rw[Ze8 ZcL]at h;simpa[ZL,V.cells]using h
  have:=H9 (w:=w) (G:=G) l (i-5) c a;have f:(Th x++Wx l).getD i undef=(Wx l).getD (i-5) undef:=by
   simp only[List.getD_eq_getElem?_getD];rw[Ze8 (by grind [Th])];simp[Th]
  simp_all
def Z3V(l:List Ob):∀x∈l.map ZL,V.fits 5 x:=by
 intro x d;obtain⟨o,_,rfl⟩:=ZdZ.1 d;exact⟨rfl,λc a=>by simp[ZL,V.cells]at a;obtain rfl|rfl|rfl|rfl|rfl:=a<;>rfl⟩
def Ha{w:World}{G:Nat->Prop}{B:Nat}{e:TypeId}{v:Value}{l:List Ob}(h:w.ownsRow B e 5 v (P l) (Wx l))(n:∀c,B<=c->c<U (R w)->G c):Rd w G (.sl (l.map ZL)) v:=by
 have a:P (Wx l)=P l*5:=h.1;obtain⟨rfl,k⟩|⟨g,cap,j,rfl,o,q,t,d,_⟩:=h.2;have:l=[]:=ZfD.1 k;subst this;exact .nil _ _ Zdy
 have:=Rd.sl (w:=w) (G:=G) (l.map ZL) g 0 cap 5 (λi=>(Wx l).getD i undef) ZcL d (n g o (Yg q)) (Z3V l) (λi r=>by
   have f:i< P (Wx l):=by rw[a];simpa using r
   rw[Zev,h.cellAt i Z0];simp[f]) (λi c p=>H9 l i c p)
 simp_all
def Z7Y{ws:List Int}{shs:List (Int×Int)}{old:Bool}{K:Nat->World->Prop}{n:Int}{xs:List Ob}{W:World}(a:shs=[])(h:(n=0/\LM ws shs old K xs W)\/((n=2\/n=3)/\xs=[]/\ZM ws shs old=([],n))):ZM ws shs old=(xs,n):=by
 subst a;obtain⟨rfl,t,_,h⟩|⟨_,rfl,h⟩:=h;simp_all;exact h
def qJ:Rc:=by
 intro S M N;refine⟨Z2,λw G vs I p q=> ?_⟩;have r0:=q 0 _ rfl;obtain⟨⟨l⟩⟩:=vs;simp at p;rename_i v0 l;cases l with
 |cons _ _=>simp at p
 |nil=>
  simp at r0;obtain⟨g,o,cap,C,k,x,L⟩:=NS r0 I M N (xz (xj w)+1);have z:=NK (w:=w) (shs:=[]) (old:=xh) (bt:=xw) (K:=λt _=>t=0) C k ⟨x,Z0,Z0⟩ (.inl rfl) Z1 Z1 Pi rfl (λt A B row h _ _=>h) (λO base t A B _ _ h _=>h);obtain⟨Q,R,sc,rfl⟩:∃a n c,v0=.slice a n c:=by
   obtain rfl|⟨_,a,c,rfl⟩:=k;simp;simp
  have D:=ZdR z;clear z C k r0 q;go_enter Sol.func117,Try.ntmps117;go_wp2_with (go_at_call 128;refine D.out.mono ?_;rintro e w1 ⟨v,n,T,rfl,f,d,u⟩;have F:=ZdR (And.intro f (And.intro d u));clear f d u)
  obtain⟨f,d,u⟩:=F.out;have J:=Z7Y rfl u;refine ZeA (v:=.tuple #[v,.int .i64 n]) (by simp[results,Try.results117,go_sem]) rfl ⟨_,rfl,(Zei _ w).grown f (ZdN _) (λj e=>by cases e),?_⟩;rw[J];refine .tup _ _ rfl ?_;intro i y r
  match i,r with
  |0,r=>cases r;exact Ha d λc P H=>.inr ⟨Z0,H⟩
  |1,r=>cases r;exact .int _ _
def KpW.cell{l base:Nat}{A B:World}(h:KpW l base A B){k i:Nat}{c:Value}(hc:A.cell? ⟨k,i,xw⟩=xk c)(n:k<base)(o:k≠l):B.cell? ⟨k,i,xw⟩=xk c:=by
 have d:=hc;unfold World.cell? at hc;cases f:A.heap[k]? with
 |none=>simp_all
 |some j=>
  have g:j.isCells=xy:=by
   rw[f]at hc;cases j<;>simp_all [Obj.isCells]
  rw[<-d];exact ZeE (a:=⟨k,i,xw⟩) ((h.same k j f g o (.inl n)).trans f.symm)
def KOld.grown{shs:List (Int×Int)}{bt a t n:Nat}{v:Value}{A B:World}{row:Option Nat}(h:KOld shs bt a v t A)(f:A.grownBy B row)(p:bt<n)(l:a<n)(x:shs≠[]->∀g o cap,v=.slice (xk ⟨g,o,xw⟩) (P shs) cap->g<n)(w:∀r,row=xk r->n<=r):KOld shs bt a v t B:=by
 obtain⟨d,j,k⟩:=h;exact⟨(f.block _ (Yg d) (λe=>ZcK)).trans d,j.grown f (λe=>ZcK) (λu g o cap e q=>ZcK),k⟩
def KOld.kp{shs:List (Int×Int)}{bt d t n j base:Nat}{v:Value}{A B:World}(h:KOld shs bt d v t A)(a:KpW j base A B)(u:bt<n)(r:d<n)(w:shs≠[]->∀g o cap,v=.slice (xk ⟨g,o,xw⟩) (P shs) cap->g<n)(D:n<=j)(h2:n<=base):KOld shs bt d v t B:=by
 obtain⟨k1,⟨y,z⟩,C⟩:=h;refine⟨a.same _ _ k1 rfl Z0 (.inl Z0),⟨a.same _ _ y rfl Z0 (.inl Z0),?_⟩,C⟩;obtain⟨g,o,cap,rfl,l,p,q,f⟩|h:=z;refine .inl ⟨g,o,cap,rfl,l,p,ZdU q a.size,λi x k=> ?_⟩;have:=w (λe=>ZcL) _ _ _ rfl;exact⟨a.cell (f i x k).1 Z0 Z0,a.cell (f i x k).2 Z0 Z0⟩;simp_all
def Words.below2{w W:World}{ws:List Int}{g o cap:Nat}(h:Words w ws g o cap)(d:ws≠[]->g<U (R w))(a:Below (U (R w)) w W):Words W ws g o cap:=
 ⟨λi x f=>by rw[a.cell (p:=⟨g,o+i,xw⟩) (d (λe=>ZcL))];exact h.at_ i x f,h.le,h.cap,h.len,h.u64⟩
def qI:Re:=by
 intro C d hl a7 hu b2;refine⟨Z2,λw G vs hG L N=> ?_⟩;have r0:=N 0 _ rfl;have r1:=N 1 _ rfl;obtain⟨⟨l⟩⟩:=vs;simp at L;rename_i v0 l;cases l with
 |nil=>simp at L
 |cons v1 l=>
 cases l with
 |cons _ _=>simp at L
 |nil=>
  simp at r0 r1;obtain⟨g,o,cap,hw,K,P,a0⟩:=NS r0 hG hl hu (xz (xj w)+3);have M:=Z6U r1 hG;obtain⟨sa,sn,sc,rfl⟩:∃a n c,v0=.slice a n c:=by
   obtain rfl|⟨_,a,c,rfl⟩:=K;simp;simp
  obtain⟨k,q,rfl⟩:∃a c,v1=.slice a (xq d) c:=by
   grind
  have b0:((w.alloc (.cells #[.slice k (xq d) q] 180)).alloc (.cells #[.int .i64 0] 3)).heap[xz (xj w)]?=xk (.cells #[.slice k (xq d) q] 180 (0,0)):=(ZdP _ _ _ Z1).trans (Ze9 w _);have b1:((w.alloc (.cells #[.slice k (xq d) q] 180)).alloc (.cells #[.int .i64 0] 3)).heap[xz (xj w)+1]?=xk (.cells #[.int .i64 0] 3 (0,0)):=by
   have:=Ze9 (w.alloc (.cells #[.slice k (xq d) q] 180)) (.cells #[.int .i64 0] 3);simp_all
  have z:Below (xz (xj w)) w ((w.alloc (.cells #[.slice k (xq d) q] 180)).alloc (.cells #[.int .i64 0] 3)):=((Zei _ w).alloc (ZdN _) _).alloc Z1 _;have J:xz (xj ((w.alloc (.cells #[.slice k (xq d) q] 180)).alloc (.cells #[.int .i64 0] 3)))=xz (xj w)+2:=Z1;have a5:d≠[]->∀g o cap,Value.slice k (xq d) q=.slice (xk ⟨g,o,xw⟩) (xq d) cap->g<xz (xj w):=by
   intro T g o cap e;obtain⟨g1,U,c1,Z,_,_,h4,_⟩|⟨_,_,_,h⟩:=M;simp_all;simp_all
  have S:Calls Sol.prog 128 #[.slice sa sn sc,.func (.func 129) #[] #[.pointer (xk ⟨xz (xj w)+1,0,xw⟩),.pointer (xk ⟨xz (xj w),0,xw⟩)]] ((w.alloc (.cells #[.slice k (xq d) q] 180)).alloc (.cells #[.int .i64 0] 3))
    (Dn ((w.alloc (.cells #[.slice k (xq d) q] 180)).alloc (.cells #[.int .i64 0] 3)) C d xy (xk (xz (xj w)+1)) (KOld d (xz (xj w)+1) (xz (xj w)) (.slice k (xq d) q))):=by
   generalize a8:(w.alloc (.cells #[.slice k (xq d) q] 180)).alloc (.cells #[.int .i64 0] 3)=Y at*;have I:d≠[]->∀g o cap,Value.slice k (xq d) q=.slice (xk ⟨g,o,xw⟩) (xq d) cap->g<xz (xj Y):=λT g o cap e=>ZcK;refine NK (hw.below2 P z) K ⟨λh=>ZcK,Z0,Z0⟩ (.inr ⟨_,_,rfl⟩) (λr e=>ZcK) (λe=>ZcK) (Pj a7 Z0 (λT g o cap e=>ZcK)) ⟨b1,⟨b0,?_⟩,Z0⟩ (λt A B row h hg hr=>h.grown hg (n:=xz (xj Y)) Z0 Z0 I hr) (λbl base t A B h1 h2 h S=>h.kp S (n:=xz (xj Y)) Z0 Z0 I h1 h2);obtain⟨g1,U,c1,Z,a1,a2,a3,a4⟩|⟨a,c,Z,h⟩:=M;exact .inl ⟨g1,U,c1,Z,a1,a2,Z0,λi x hx=>⟨(z.cell (p:=⟨g1,U+i*2,xw⟩) a3).trans (a4 i x hx).1,(z.cell (p:=⟨g1,U+i*2+1,xw⟩) a3).trans (a4 i x hx).2⟩⟩;simp_all
  have F:∀w1 v n (O:List Ob),(v=.slice xw 0 0/\O=[]\/w1.ownsRow (xz (xj w)+6) 59 5 v (xq O) (Wx O))->ZM C d xy=(O,n)->Rd w1 (λb=>xy=xh/\G b\/xz (xj w)<=b/\b<xz (xj w1)) (.tup [.sl ((ZM C d xy).1.map ZL),vi (ZM C d xy).2]) (.tuple #[v,.int .i64 n]):=by
   intro w1 v n O f hW;rw[hW];refine .tup _ _ rfl ?_;intro i y R
   match i,R with
   |0,R=>
    cases R;obtain⟨rfl,rfl⟩|f:=f;exact .nil _ _ Zdy;exact Ha f λc h1 h2=>.inr ⟨Z0,h2⟩
   |1,R=>cases R;exact .int _ _
  have Q:Calls Sol.prog 128 #[.slice sa sn sc,.func (.func 129) #[] #[.pointer (xk ⟨xz (xj w)+1,0,xw⟩),.pointer (xk ⟨xz (xj w),0,xw⟩)]] ((w.alloc (.cells #[.slice k (xq d) q] 180)).alloc (.cells #[.int .i64 0] 3)) λe w1=>
    (∃(v:Value) (t:Nat),e=.returned (.tuple #[v,.int .i64 0])/\w1.cell? ⟨xz (xj w)+1,0,xw⟩=xk (.int .i64 t)/\w1.cell? ⟨xz (xj w),0,xw⟩=xk (.slice k (xq d) q)/\(t:Int)<xq d/\Hid (Below (xz (xj w)) w w1/\Rd w1 (λb=>xy=xh/\G b\/xz (xj w)<=b/\b<xz (xj w1)) (.tup [.sl ((ZM C d xy).1.map ZL),vi (ZM C d xy).2]) (.tuple #[.slice xw 0 0,.int .i64 3])))\/
    (∃(v:Value) (t:Nat),e=.returned (.tuple #[v,.int .i64 0])/\w1.cell? ⟨xz (xj w)+1,0,xw⟩=xk (.int .i64 t)/\w1.cell? ⟨xz (xj w),0,xw⟩=xk (.slice k (xq d) q)/\¬(t:Int)<xq d/\Hid (Below (xz (xj w)) w w1/\Rd w1 (λb=>xy=xh/\G b\/xz (xj w)<=b/\b<xz (xj w1)) (.tup [.sl ((ZM C d xy).1.map ZL),vi (ZM C d xy).2]) (.tuple #[v,.int .i64 0])))\/
    (∃(v:Value) (n:Int),e=.returned (.tuple #[v,.int .i64 n])/\¬n=0/\Hid (Below (xz (xj w)) w w1/\Rd w1 (λb=>xy=xh/\G b\/xz (xj w)<=b/\b<xz (xj w1)) (.tup [.sl ((ZM C d xy).1.map ZL),vi (ZM C d xy).2]) (.tuple #[.slice xw 0 0,.int .i64 n]))):=by
   refine S.mono ?_;rintro e w1 ⟨v,n,O,rfl,a6,f,hE⟩;rw[J]at f;have hB:Below (xz (xj w)) w w1:=z.trans ((Zei _ _).grown a6 Z0 (λj e=>ZcK));obtain⟨rfl,t,⟨hb,hs,ht⟩,u⟩|⟨T,rfl,u⟩:=hE;have W:w1.cell? ⟨xz (xj w)+1,0,xw⟩=xk (.int .i64 t):=by rw[ZdV _ _ _ _ _ _ hb];rfl
   have X:w1.cell? ⟨xz (xj w),0,xw⟩=xk (.slice k (xq d) q):=by rw[ZdV _ _ _ _ _ _ hs.box];rfl
   by_cases D:t<xq d;rw[if_pos D]at u;exact .inl ⟨v,t,rfl,W,X,Z0,ZdR ⟨hB,F w1 _ _ [] (.inl ⟨rfl,rfl⟩) u⟩⟩;rw[if_neg D]at u;exact .inr (.inl ⟨v,t,rfl,W,X,Z0,ZdR ⟨hB,F w1 _ _ O (.inr f) u⟩⟩);exact .inr (.inr ⟨v,n,rfl,Z0,ZdR ⟨hB,F w1 _ _ [] (.inl ⟨rfl,rfl⟩) u⟩⟩)
  have HK:=ZdR Q;clear hw K r0 r1 N M P a0 S Q z b0 b1 a5 J F;go_enter Sol.func119,Try.ntmps119;have a9:∀(fn:Go.Fn) (first cap:Array Value) (w:World),(Instr.makeFunc fn first cap).run Sol.prog w=.ok (.func fn first cap) w:=λ_ _ _ _=>rfl;go_wp2_with (go_at_call 128;refine HK.out.mono ?_;rintro e w1 (⟨v,t,rfl,W,X,D,H⟩|⟨v,t,rfl,W,X,D,H⟩|⟨v,n,rfl,T,H⟩))
  .refine ZeA (v:=.tuple #[.slice xw 0 0,.int .i64 3]) (by simp[results,Try.results119,go_sem]) rfl ⟨_,rfl,H.out.1,H.out.2⟩
  .refine ZeA (v:=.tuple #[v,.int .i64 0]) (by simp[results,Try.results119,go_sem]) rfl ⟨_,rfl,H.out.1,H.out.2⟩
  .refine ZeA (v:=.tuple #[.slice xw 0 0,.int .i64 n]) (by simp[results,Try.results119,go_sem]) rfl ⟨_,rfl,H.out.1,H.out.2⟩
end Vm
namespace Vm
open Go Go.Proofs Go.RowKit
def Z3W{w:World}{G:Nat->Prop}{l:List Ob}{v:Value}(r:Rd w G (.sl (l.map ZL)) v)(u:∀b,G b->b<U (R w)):
  (∃g o cap,v=.slice (xk ⟨g,o,xw⟩) (P l) cap/\P l<=cap/\cap<=maxLen/\g<U (R w)/\∀(i:Nat) (x:Ob),l[i]?=xk x->w.cell? ⟨g,o+i*5,xw⟩=xk (.int .i64 x.at_)/\w.cell? ⟨g,o+i*5+1,xw⟩=xk (.int .i64 x.size)/\
   w.cell? ⟨g,o+i*5+2,xw⟩=xk (.int .i64 x.ptrs)/\w.cell? ⟨g,o+i*5+3,xw⟩=xk (.bool x.gone)/\w.cell? ⟨g,o+i*5+4,xw⟩=xk (.int .u64 x.target))\/
  (∃a cap,v=.slice a 0 cap/\l=[]):=by
 generalize y:l.map ZL=L at r;cases r with
 |nil a cap H=>
  simp_all
 |sl _ b o cap k vs j p q d t h=>
  subst y;simp only[Zem]at j t⊢;refine .inl ⟨b,o,cap,rfl,j,p,u b q,λi x n=> ?_⟩;have f:(l.map ZL)[i]?=xk (ZL x):=by rw[Ze3,n];rfl
  have z:k=5:=((d _ (ZdQ f)).1).symm;subst z;have I:i<P l:=(ZdJ.1 n).1;have A:=h (i*5) (vi x.at_) (by have:=Vr d f 0 Z0;simp_all);have B:=h (i*5+1) (vi x.size) (by have:=Vr d f 1 Z0;simp_all);have C:=h (i*5+2) (vi x.ptrs) (by have:=Vr d f 2 Z0;simp_all);have D:=h (i*5+3) (.bool x.gone) (by have:=Vr d f 3 Z0;simp_all);have F:=h (i*5+4) (vu x.target) (by have:=Vr d f 4 Z0;simp_all);grind [TX,Nat.add_assoc,Mc]
end Vm
end
section

end
section
namespace Vm
open Go Go.Proofs
def Lm{h:Hp}(a:h.ok):VC Sol.prog 25 xh [ZG h] (.bool (YY h)):=by
 rw[<-(Aj h).1];exact Od qJ qI a
def O9{h:Hp}(a:h.ok){k:Int}:VC Sol.prog 27 xh [ZG h,vi k] (.tup [.sl ((Uf h k).1.map ZL),vi (Uf h k).2]):=by
 rw[<-Z2Y h k];exact Oa qJ qI a
def Of{h:Hp}(a:h.ok):VC Sol.prog 22 xh [ZG h] (vi (Jm h)):=by
 rw[<-Z32 h];exact Og qJ qI a
def Vt(l:Zj):List (Int×Int):=(l.filter λo=>o.gone).map λo=>(o.size,o.ptrs)
def NI{ws:Z8}{shs:List (Int×Int)}{old:Bool}:∀(l:Zj) (f a k:Nat) (g:Zj),Tiles ws old a l->xq ws<f+a->0<f->shs.drop k=Vt l->Xn ws shs old f a k g=(g++l,0)
 | [],f,a,k,g,D,K,I,B=>by
   obtain⟨f,rfl⟩:∃C,f=C+1:=⟨f-1,Z0⟩;have:xq ws<=a:=D;have r:xq shs<=k:=List.drop_eq_nil_iff.1 B;rw[Xn,ZeL this];simp only;rw[if_neg Z0,Zf7]
 |o::l,f,a,k,g,D,K,I,B=>by
  obtain⟨f,rfl⟩:∃C,f=C+1:=⟨f-1,Z0⟩;obtain⟨t,r,J⟩:=D;obtain⟨w,F,j⟩:=r.word;have M:=Yw.1 r.shape;have u:=r.fits;have q:=r.slots;rw[t]at F u q;simp only[ZdY]at F q;have z:∀d:Nat,shs.drop d=Vt l->Xn ws shs old f (a+1+o.size.toNat) d (g++[o])=(g++o::l,0):=λd p=>by
   rw[NI l f _ d _ J Z0 Z0 p];simp
  have y:∃d,XZ shs old a k w=xk (o,d)/\shs.drop d=Vt l:=by
   unfold XZ;cases n:o.gone;rw[n]at j;simp only[Ze1,Zew]at j;rw[if_neg (λh=>j.1 h.1 h.2),j.2.1];refine⟨k,?_,?_⟩;simp only[Zes];obtain⟨N,P,op,O,Q⟩:=o;simp only at n t j⊢;rw[n,t,j.2.2];rw[B];simp[Vt,n];rw[n]at j;simp only[Zes]at j;rw[if_pos ⟨j.1,j.2.1⟩];have A:shs.drop k=(o.size,o.ptrs)::Vt l:=by rw[B];simp[Vt,n]
   have x:k<xq shs:=by
    have:=ZeZ List.length A;simp at this;omega
   rw[ZeH x]at A;have G:=(List.cons.inj A).1;have H:=(List.cons.inj A).2;rw[ZdI x,G];simp only[r.shape,Zes];refine⟨k+1,?_,H⟩;obtain⟨N,P,op,O,Q⟩:=o;simp only at n t j⊢;rw[n,t,j.2.2]
  obtain⟨d,L,p⟩:=y;rw[Xn,F];simp only;rw[L];simp only;rw[if_neg Z0,if_neg (by rw[q];simp)];exact z d p
def Lh{ws:Z8}{shs:List (Int×Int)}{old:Bool}{l:Zj}(d:Tiles ws old 0 l)(a:shs=Vt l):ZM ws shs old=(l,0):=by
 unfold ZM;rw[NI l (P ws+1) 0 0 [] d Z0 Z0 (by simpa using a),ZeC]
def Qj(h:Hp)(low l:Zj):Prop:=∀o∈l,o.gone=xy->∃q,Yz h 1 low o.target=xk q/\q.size=o.size/\q.ptrs=o.ptrs
def qe{h:Hp}{ws:Z8}{low:Zj}:∀(l:Zj) (f i:Nat) (a:List (Int×Int)),Tiles ws xy i l->P ws<f+i->0<f->Qj h low l->WT h ws low f i a=xk (a++Vt l)
 | [],f,i,a,u,D,B,r=>by
   obtain⟨f,rfl⟩:∃n,f=n+1:=⟨f-1,Z0⟩;have:P ws<=i:=u;rw[WT,ZeL this];simp[Vt]
 |o::l,f,i,a,u,D,B,r=>by
  obtain⟨f,rfl⟩:∃n,f=n+1:=⟨f-1,Z0⟩;obtain⟨C,p,y⟩:=u;obtain⟨w,x,g⟩:=p.word;have F:=Yw.1 p.shape;have j:=p.fits;rw[C]at x j;simp only[ZdY]at x;have k:Qj h low l:=λq t=>r q (Zek _ t);rw[WT,x];simp only;cases d:o.gone;rw[d]at g;simp only[Ze1,Zew,true_implies]at g;rw[if_neg g.1,g.2.1];simp only[Zes];rw[qe l f _ a y Z0 Z0 k];simp[Vt,d];rw[d]at g;simp only[Zes,true_and]at g;rw[if_pos g.1];obtain⟨q,t,z,A⟩:=r o (.head _) d;rw[<-g.2,t];simp only;rw[z,A,qe l f _ _ y Z0 Z0 k];simp[Vt,d]
def IJ{h:Hp}{p:Pts}(d:Tiles h.low xh 0 p.low)(h2:Tiles h.high xh 0 p.high)(f:Tiles h.old xy 0 p.old)(g:Tiles h.far xy 0 p.far)(q:Qj h p.low p.old)(r:Qj h p.low p.far):Xm h=xk p:=by
 have k:∀ {n:Z8} {a:Nat} {l:Zj},Tiles n xh a l->Vt l=[]:=λ{n a l} x=>by
  unfold Vt;rw[List.map_eq_nil_iff,ZgJ];intro o u t;obtain⟨w,_,j⟩:=(x.stands o u).1.word;rw[if_pos t]at j;cases j.1
 unfold Xm;rw[Lh d (k d).symm,Lh h2 (k h2).symm];unfold Vj;simp only[ne_eq,Zhv,or_self,Zew];rw[qe p.old _ 0 [] f Z0 Z0 q,qe p.far _ 0 [] g Z0 Z0 r];simp only[ZeC,Zeb];rw[Lh f rfl,Lh g rfl];simp
def Ms{h:Hp}{p:Pts}(a:Tg h=xy)(d:Xm h=xk p)(f:S7 h p=xy):YY h=xy:=by
 unfold YY;rw[a,d];simpa using f
def DO{h:Hp}{k:Int}{l:Zj}{o:Ob}(a:o∈l)(f:∀q∈l,YV h k q.at_=YV h k o.at_->q=o):Yz h k l (YV h k o.at_)=xk o:=by
 unfold Yz;induction l with
 |nil=>simp at a
 |cons x l j=>
  rw[Zh9];by_cases d:YV h k x.at_=YV h k o.at_;rw[f x (.head _) d];simp;have:(YV h k x.at_==YV h k o.at_)=xh:=ZcX;rw[this];obtain rfl|a:=Ze5.1 a;exact absurd rfl d;exact j a λq g=>f q (Zek _ g)
def qR{h:Hp}{k:Int}{l:Zj}{a:Int}:(Yz h k l a).isSome=xy↔ ∃o∈l,YV h k o.at_=a:=by
 unfold Yz;rw[List.find?_isSome];simp
section
structure Tld (h:Hp) (p:Pts):Prop where
 lay:ZI (Zu h)=xy
 tiles:∀k:Int,1<=k/\k<=4->Tiles (Zy h k) (decide (2<k)) 0 (p.at k)
def Gos(h:Hp)(p:Pts)(w one a:Int):Prop:=w=0\/∃k o,(k=one\/k=a)/\o∈p.at k/\w=Y8 (Zu h) k o.at_
def Wi(h:Hp)(p:Pts)(k:Int)(i:Nat)(w:Int):Prop:=if 2<k then Gos h p w 3 4 else if k=1/\h.scan<=i then Gos h p w 1 2\/Gos h p w 3 4 else Gos h p w 1 2
section
variable {h:Hp}{p:Pts}
def Tld.ob(t:Tld h p){k:Int}(g:1<=k/\k<=4){o:Ob}(j:o∈p.at k):∃a n m:Nat,o.at_=a/\o.size=n/\o.ptrs=m/\a+(n+1)<=P (Zy h k)/\n<=255/\m<=n:=by
 have d:=((t.tiles k g).stands o j).1;have f:=Yw.1 d.shape;obtain⟨a,l⟩:=ZdX d.nat;obtain⟨n,r⟩:=ZdX f.1;obtain⟨m,q⟩:=ZdX f.2.2.1;have:=d.fits;grind
def Tld.start(t:Tld h p){k:Int}(d:1<=k/\k<=4){o:Ob}(f:o∈p.at k):YV h k o.at_=fstL (Zu h) k+o.at_:=by
 obtain⟨a,n,m,g,_,_,j,_⟩:=t.ob d f;unfold YV;rw[Rf t.lay d (by grind [UO])]
def Tld.same_at(t:Tld h p){k:Int}(d:1<=k/\k<=4){o q:Ob}(f:o∈p.at k)(g:q∈p.at k)(e:q.at_=o.at_):q=o:=by
 rcases(t.tiles k d).apart q g o f with a|a|a;exact a;have:=Yw.1 ((t.tiles k d).stands q g).1.shape;omega;have:=Yw.1 ((t.tiles k d).stands o f).1.shape;omega
def Tld.find(t:Tld h p){k:Int}(a:1<=k/\k<=4){o:Ob}(d:o∈p.at k):Yz h k (p.at k) (fstL (Zu h) k+o.at_)=xk o:=by
 rw[<-t.start a d];refine DO d λq f e=>t.same_at a d f ?_;rw[t.start a d,t.start a f]at e;omega
theorem Tld.inj(t:Tld h p){k j:Int}(d:1<=k/\k<=4)(f:1<=j/\j<=4){o q:Ob}(g:o∈p.at k)(l:q∈p.at j)(e:Y8 (Zu h) k o.at_=Y8 (Zu h) j q.at_):k=j/\o=q:=by
 obtain⟨a,n,m,x,_,_,z,_⟩:=t.ob d g;obtain⟨b,B,A,y,_,_,w,_⟩:=t.ob f l;obtain⟨r,u⟩:=Z5N t.lay d f (by grind [UO]) (by grind [UO]) e;subst r;exact⟨rfl,t.same_at d l g u⟩
theorem Tld.adr(t:Tld h p){k:Int}(d:1<=k/\k<=4){o:Ob}(f:o∈p.at k):adr (Y8 (Zu h) k o.at_)=(fstL (Zu h) k+o.at_,0):=by
 obtain⟨a,n,m,g,_⟩:=t.ob d f;exact U4 t.lay Z0
def Tld.at_iff(t:Tld h p){k:Int}(d:1<=k/\k<=4){w:Int}(f:(Vm.adr w).2=0):(Yz h k (p.at k) (Vm.adr w).1).isSome=xy↔ ∃o∈p.at k,w=Y8 (Zu h) k o.at_:=by
 rw[qR];constructor;rintro⟨o,a,e⟩;rw[t.start d a]at e;exact⟨o,a,NQ f e.symm⟩;rintro⟨o,a,rfl⟩;exact⟨o,a,by rw[t.adr d a,t.start d a]⟩
def Tld.goes_iff(t:Tld h p){i j:Int}(g:1<=i/\i<=4)(l:1<=j/\j<=4){w:Int}:Xu h p w i j=xy↔Gos h p w i j:=by
 unfold Xu Gos;by_cases d:w=0;simp[d];by_cases a:(Vm.adr w).2=0;simp only[d,a,Zgi,ZgV,Zgj,Zgl,Ze0,false_or,t.at_iff g a,t.at_iff l a];simp;simp only[d,a,ZgV,ZgN,Bool.or_self,Ze1,false_or,false_iff];rintro⟨k,o,n,q,rfl⟩;have f:1<=k/\k<=4:=by obtain rfl|rfl:=n<;>assumption
 exact a (by rw[t.adr f q])
def N4:∀ {l:Z8} {a:Int} {i:Nat},XK l xy a i=xy->∀w∈l,w=0
 | [],_,_,_,w,d=>Zdo
 |y::l,a,i,f,w,d=>by
  simp only[XK,ZdL]at f;obtain rfl|d:=Ze5.1 d;have g:=f.1;simp at g;exact g.1;exact N4 f.2 w d
def Tld.slot(t:Tld h p){k:Int}(d:1<=k/\k<=4){o:Ob}(f:o∈p.at k){j:Nat}(x:(j:Int)<o.size):∃w,(Zy h k)[o.at_.toNat+1+j]?=xk w/\(o.gone=xy->w=0):=by
 obtain⟨a,n,m,l,u,z,y,_⟩:=t.ob d f;have r:a+1+j< P (Zy h k):=Z0;refine⟨(Zy h k)[a+1+j],ZcL,λq=> ?_⟩;have g:=((t.tiles k d).stands o f).1.slots;rw[q]at g;refine N4 g _ ?_;rw[l,u,ZdY,ZdY];refine ZdQ (i:=j) ?_;simp_all
end
structure Body (h:Hp) (p:Pts):Prop extends Tld h p where
 gone:∀k:Int,3<=k/\k<=4->∀o∈p.at k,o.gone=xy->∃q∈p.low,o.target=fstL (Zu h) 1+q.at_/\q.size=o.size/\q.ptrs=o.ptrs
 ptr:∀k:Int,1<=k/\k<=4->∀o∈p.at k,o.gone=xh->∀j:Nat,(j:Int)<o.ptrs->∀w,(Zy h k)[o.at_.toNat+1+j]?=xk w->Wi h p k (o.at_.toNat+1+j) w
 room:(P h.low:Int)+P h.high+Xd p<=h.cap
structure Rt (h:Hp) (p:Pts):Prop extends Body h p where
 nroots:P h.roots<=16
 scan0:0<=h.scan
 scanL:h.scan<=P h.low
 cyc:h.cycle=xy->h.scan<P h.low
 rest:h.cycle=xh->h.scan=P h.low/\h.old=[]/\h.far=[]
 once:h.cycle=xy->∀o∈p.low,UQ p (fstL (Zu h) 1+o.at_)=1
 roots:∀w∈h.roots,Gos h p w 1 2
section
variable {h:Hp}{p:Pts}
def Dd(t:Tld h p){k:Int}{i:Nat}{w:Int}(a:(Zy h k)[i]?=xk w):VY h p k i=xy↔Wi h p k i w:=by
 unfold VY Wi;simp only[a,Zeb];split;exact t.goes_iff Z0 Z0;split;rw[Ze0,t.goes_iff Z0 Z0,t.goes_iff Z0 Z0];exact t.goes_iff Z0 Z0
theorem OI(k:Int)(i:Nat):Wi h p k i 0:=by
 unfold Wi;split;exact .inl rfl;split;exact .inl (.inl rfl);exact .inl rfl
def M0(t:Tld h p){k:Int}(g:1<=k/\k<=4):Wq h p k=xy↔ ∀o∈p.at k,o.gone=xh->∀j:Nat,(j:Int)<o.ptrs->∀w,(Zy h k)[o.at_.toNat+1+j]?=xk w->Wi h p k (o.at_.toNat+1+j) w:=by
 unfold Wq zX;simp only[ZdT,ZfY];constructor;intro l o d _ j q w f;exact(Dd t f).1 (l o d j Z0);intro l o d j q;obtain⟨a,n,m,r,y,x,u,_⟩:=t.ob g d;obtain⟨w,f,z⟩:=t.slot g d (j:=j) Z0;refine(Dd t f).2 ?_;grind [OI]
def RightH.tld(r:RightH h p):Tld h p:=⟨r.lay,λk a=>r.tiles a⟩
def RightH.rt(r:RightH h p):Rt h p:=by
 have t:=r.tld;have j:=r.num;have a:=r.ok;unfold Tg at j;unfold S7 at a;simp only[ZdL,Ze4]at j a;obtain⟨⟨⟨⟨G,A⟩,B⟩,C⟩,H⟩:=j;obtain⟨⟨⟨⟨⟨⟨l,D⟩,I⟩,J⟩,K⟩,L⟩,F⟩:=a;have f:∀k:Int,1<=k/\k<=4->Wq h p k=xy:=λk d=>by
  have:k=1\/k=2\/k=3\/k=4:=Z0;grind
 refine⟨⟨t,λk d o a y=> ?_,λk d=>(M0 t d).1 (f k d),F⟩,A,B,C,λg=> ?_,λg=> ?_,λg o a=> ?_,λw z=> ?_⟩;obtain⟨q,n,e,u,x⟩:=r.gone_low d a y;exact⟨q,n,by rw[<-e,t.start (k:=1) Z0 n],u,x⟩;simp_all;simp_all;rw[g]at l;simp only[Zgw,Zgj,ZdT]at l;have:=l o a;unfold R5 at this;rw[t.start (k:=1) Z0 a]at this;simp_all;exact(t.goes_iff Z0 Z0).1 (ZdT.1 D w z)
def Rt.parts(r:Rt h p):Xm h=xk p:=by
 have g:∀k:Int,3<=k/\k<=4->Qj h p.low (p.at k):=λk j o l f=>by
  obtain⟨q,n,e,a,d⟩:=r.gone k j o l f;exact⟨q,by rw[e];exact r.toTld.find (k:=1) Z0 n,a,d⟩
 exact IJ (r.tiles 1 Z0) (r.tiles 2 Z0) (r.tiles 3 Z0) (r.tiles 4 Z0) (g 3 Z0) (g 4 Z0)
theorem Rt.right(r:Rt h p):YY h=xy:=by
 have t:=r.toTld;refine Ms ?_ r.parts ?_;unfold Tg;simp only[ZdL,Ze4];refine⟨⟨⟨⟨r.lay,r.nroots⟩,r.scan0⟩,r.scanL⟩,?_⟩;cases a:h.cycle;obtain⟨l,n,q⟩:=r.rest a;simp_all;simp[r.cyc a];unfold S7;simp only[ZdL,Ze4];have d:=λk f=>(M0 t f).2 (r.ptr k f);refine⟨⟨⟨⟨⟨⟨?_,?_⟩,d 1 Z0⟩,d 2 Z0⟩,d 3 Z0⟩,d 4 Z0⟩,r.room⟩;cases a:h.cycle;rfl;simp only[Zgw,Zgj,ZdT];intro o g;unfold R5;rw[t.start (k:=1) Z0 g,Ze4];exact r.once a o g;rw[ZdT];exactλw j=>(t.goes_iff Z0 Z0).2 (r.roots w j)
def yQ:YY h=xy↔ ∃p,Rt h p:=
 ⟨λa=>by obtain⟨p,r⟩:=Z63 a;exact⟨p,r.rt⟩,λ⟨p,r⟩=>r.right⟩
def Rt.objs(r:Rt h p){k:Int}(a:1<=k/\k<=4):Uf h k=(p.at k,0):=by
 unfold Uf;rw[if_pos ⟨r.right,a⟩,r.parts];rfl
def Rt.wait(r:Rt h p):Jm h=Xd p:=by
 unfold Jm;rw[if_pos r.right,r.parts];rfl
end
end
section
def Un(l:Zj):Nat:=(l.map λo=>1+o.size.toNat).sum
def Tiles.sum{ws:Z8}{old:Bool}:∀ {a:Nat} {l:Zj},Tiles ws old a l->a<=P ws->a+Un l=P ws
 |a,[],h,d=>by have:P ws<=a:=h;simp[Un];omega
 |a,o::l,h,d=>by
  have g:=Yw.1 h.2.1.shape;have f:=h.2.1.fits;rw[h.1]at f;have:=Tiles.sum h.2.2 Z0;simp[Un]at this⊢;omega
def Tiles.last{ws:Z8}{old:Bool}{l:Zj}(h:Tiles ws old (P ws) l):l=[]:=by
 obtain _|⟨o,l⟩:=l;rfl;have d:=Yw.1 h.2.1.shape;have a:=h.2.1.fits;rw[h.1]at a;omega
def Tiles.det{ws d:Z8}{old:Bool}:∀ {a:Nat} {l j:Zj},Tiles ws old a l->Tiles d old a j->(∀i,i<xq ws->d[i]?=ws[i]?)->xq ws<=xq d->
  (∀o∈l,∀q∈j,o.gone=xy->q.gone=xy->o.target=q.target->o.size=q.size/\o.ptrs=q.ptrs)->a<=xq ws->∃r,j=l++r/\Tiles d old (xq ws) r
 |a,[],j,h,k,_,_,_,z=>by
  have:xq ws<=a:=h;grind
 |a,o::l,[],h,k,_,B,_,z=>by
  have I:=Yw.1 h.2.1.shape;have A:=h.2.1.fits;have e:=h.1;have:xq d<=a:=k;omega
 |a,o::l,q::j,h,k,C,B,H,z=>by
  obtain⟨t,n,D⟩:=h;obtain⟨k1,L,M⟩:=k;have I:=Yw.1 n.shape;have A:=n.fits;obtain⟨w,g,F⟩:=n.word;obtain⟨u,f,G⟩:=L.word;rw[t]at g A;rw[k1]at f;simp only[ZdY]at g f;rw[C a Z0,g]at f;cases f;have e:o=q:=by
   obtain⟨R,S,op,N,T⟩:=o;obtain⟨U,X,W,O,Y⟩:=q;simp only at*;subst t k1;cases N<;>cases O<;>simp at F G
   simp_all;simp_all;simp_all;simp_all
  subst e;obtain⟨r,P,Q⟩:=Tiles.det D M C B (λx J y K=>H x (.tail _ J) y (.tail _ K)) Z0;simp_all
def Tiles.uniq{ws:Z8}{old:Bool}{l a:Zj}(h:Tiles ws old 0 l)(h':Tiles ws old 0 a)(g:∀o∈l,∀q∈a,o.gone=xy->q.gone=xy->o.target=q.target->o.size=q.size/\o.ptrs=q.ptrs):a=l:=by
 obtain⟨r,d,f⟩:=h.det h' (λ_ _=>rfl) (ZdN _) g (ZeS _);rw[d,f.last,Zf7]
def Tiles.no_gone{ws:Z8}{a:Nat}{l:Zj}(h:Tiles ws xh a l):∀o∈l,o.gone=xh:=λo d=>by
 obtain⟨w,_,f⟩:=(h.stands o d).1.word;simp_all
def Tiles.uniq0{ws:Z8}{l d:Zj}(h:Tiles ws xh 0 l)(h':Tiles ws xh 0 d):d=l:=h.uniq h' λo f q g a=>by rw[h.no_gone o f]at a;cases a
section
variable {h:Hp}{p:Pts}
def Tld.low_at(t:Tld h p){o:Ob}(d:o∈p.low):0<=o.at_/\o.at_<P h.low:=by
 obtain⟨a,n,m,f,_,_,g,_⟩:=t.ob (k:=1) Z0 d;grind [VB]
def Tiles.pairwise{ws:Z8}{old:Bool}:∀ {a:Nat} {l:Zj},Tiles ws old a l->l.Pairwise λx y=>x.at_<y.at_
 |_,[],_=>.nil
 |a,o::l,h=>by
  have f:=Yw.1 h.2.1.shape;refine .cons (λy d=> ?_) (Tiles.pairwise h.2.2);have:=(Tiles.stands h.2.2 y d).2;rw[h.1];omega
def Tiles.nil{old:Bool}{l:Zj}(h:Tiles [] old 0 l):l=[]:=Tiles.last (ws:=[]) h
def Rt.empty(r:Rt h p)(hc:h.cycle=xh):p.old=[]/\p.far=[]:=by
 obtain⟨_,f,g⟩:=r.rest hc;have a:=r.tiles 3 Z0;have d:=r.tiles 4 Z0;simp only[Ky,Kz,f,g]at a d;exact⟨a.nil,d.nil⟩
def Gos.odd(t:Tld h p){w i j:Int}(r:1<=i/\i<=4)(u:1<=j/\j<=4)(l:Gos h p w i j):w=0\/∃k,1<=k/\k<=4/\(k=i\/k=j)/\∃o∈p.at k,(adr w).2=0/\(adr w).1=fstL (Zu h) k+o.at_/\o.at_<YR (Zu h) k/\0<=o.at_:=by
 obtain rfl|⟨k,o,g,f,rfl⟩:=l;omega;have d:1<=k/\k<=4:=by obtain rfl|rfl:=g<;>assumption
 obtain⟨a,n,m,q,_,_,x,_⟩:=t.ob d f;exact .inr ⟨k,d.1,d.2,g,o,f,by rw[t.adr d f],by rw[t.adr d f],by grind [UO],Z0⟩
end
end
section
section
variable {h:Hp}{p:Pts}
def Body.fwd_here(r:Body h p){k:Int}(d:1<=k/\k<=2){o:Ob}(f:o∈p.at k):Vm.fwd h (Y8 (Zu h) k o.at_)=(Y8 (Zu h) k o.at_,h,0):=by
 obtain⟨a,n,m,g,_,_,j,_⟩:=r.toTld.ob Z0 f;exact Vm.fwd_here r.lay d ⟨Z0,Z0⟩
def Body.fwd_gone(r:Body h p){k:Int}(q:3<=k/\k<=4){o:Ob}(g:o∈p.at k)(l:o.gone=xy):Vm.fwd h (Y8 (Zu h) k o.at_)=(2*o.target+1,h,0):=by
 obtain⟨a,n,m,f,_,_,t,_⟩:=r.toTld.ob Z0 g;obtain⟨u,j,d⟩:=((r.tiles k Z0).stands o g).1.word;rw[if_pos l]at d;rw[f,ZdY]at j;rw[f,Vm.fwd_gone r.lay q j d.2.1,NQ d.2.1 d.2.2.symm]
def Body.fwd_wait(r:Body h p){k:Int}(t:3<=k/\k<=4){o:Ob}(f:o∈p.at k)(q:o.gone=xh){a n:Nat}(j:o.at_=a)(l:o.size=n):
  Vm.fwd h (Y8 (Zu h) k o.at_)=(Y8 (Zu h) 1 (P h.low),Yh h k a (n+1),0)/\((n+1:Nat):Int)<=Xq (Zu h):=by
 obtain⟨z,y,m,A,B,_,C,_⟩:=r.toTld.ob Z0 f;have:z=a:=Z0;subst this;have:y=n:=Z0;subst this;obtain⟨u,x,d⟩:=((r.tiles k Z0).stands o f).1.word;rw[if_neg (by simp[q])]at d;rw[j,ZdY]at x;have D:=r.room;have g:=Z7W t f;unfold WU at g;rw[q,l]at g;simp at g;have e:Xq (Zu h)=h.cap-P h.low-P h.high:=by unfold Xq;rw[if_pos r.lay];rfl
 have w:((y+1:Nat):Int)<=Xq (Zu h):=Z0;rw[j];exact⟨Vm.fwd_wait r.lay t x (d.1 (Zi3 Z0)) (by rw[d.2.1,l]) C w,w⟩
end
def AD(h:Hp){k:Int}(d:3<=k/\k<=4)(a n:Nat):(Yh h k a n).low=h.low++((Zy h k).take (a+n)).drop a/\(Yh h k a n).high=h.high/\Zy (Yh h k a n) k=(zr (Zy h k) a n).set a (Y8 (Zu h) 1 (P h.low))/\Zy (Yh h k a n) (7-k)=Zy h (7-k)/\
  (Yh h k a n).roots=h.roots/\(Yh h k a n).scan=h.scan/\(Yh h k a n).cycle=h.cycle/\(Yh h k a n).cap=h.cap/\(Yh h k a n).base=h.base/\(Yh h k a n).to=h.to:=by
 have:k=3\/k=4:=Z0;obtain rfl|rfl:=this<;>exact⟨rfl,rfl,rfl,rfl,rfl,rfl,rfl,rfl,rfl,rfl⟩
end
section
def Bh{h:Hp}{k j:Int}(n:1<=k/\k<=4)(g:1<=j/\j<=4)(l:Z8):Zy (Xj h k l) j=if j=k then l else Zy h j:=by
 have a:k=1\/k=2\/k=3\/k=4:=Z0;have f:j=1\/j=2\/j=3\/j=4:=Z0;obtain rfl|rfl|rfl|rfl:=a<;>obtain rfl|rfl|rfl|rfl:=f<;>rfl
def ZN(b:Bt)(i:Nat):Nd:=(b.g.nodes[i]?).getD default
def ZD(b:Bt)(i:Nat):Pl:=(b.here[i]?).getD ⟨0,0⟩
def Y3(b:Bt)(i:Nat):Pl:=(b.old[i]?).getD ⟨0,0⟩
def JY(n:Nd):Int:=(Ug ((P n.ptrs:Int)+P n.data) (P n.ptrs)).1
def XM(b:Bt)(p:Pl)(n:Nd)(tw:Int):List Int:=JY n::(XJ b p p.at_.toNat n.ptrs tw++n.data)
def Vs(b:Bt)(p:Pl)(n:Nd):List Int:=YF b.h p::List.replicate (ZJ n-1) 0
def YS(b:Bt)(x:Rw)(k:Int)(i:Nat):List Int:=
 if(ZD b i).part=k then XM b (ZD b i) (ZN b i) (IntKind.i64.wrap (x.slack+i))
 else if(Y3 b i).part=k then(if(ZD b i).part=0 then XM b (Y3 b i) (ZN b i) 0 else Vs b (ZD b i) (ZN b i))
 else []
def X0(b:Bt)(x:Rw)(k:Int)(i:Nat):List Int:=(List.range i).flatMap (YS b x k)
theorem VQ(b:Bt)(x:Rw)(k:Int)(i:Nat):X0 b x k (i+1)=X0 b x k i++YS b x k i:=by
 simp_all[X0,Zg2,ZfJ]
theorem Ud(b:Bt)(p:Pl)(n:Nd)(tw:Int):P (XM b p n tw)=ZJ n:=by
 grind [XM,XJ,ZJ]
theorem RB(b:Bt)(p:Pl)(n:Nd):P (Vs b p n)=ZJ n:=by
 grind [Vs,ZJ]
structure Placed (b:Bt) (x:Rw):Prop where
 ok:BOk b
 here:∀i,i<P b.g.nodes->(ZD b i=⟨0,0⟩/\∃k:Int,(k=3\/k=4)/\(Y3 b i).part=k)\/(((ZD b i).part=1\/(ZD b i).part=2)/\(ZD b i).at_=(P (X0 b x (ZD b i).part i):Nat))
 old:∀i,i<P b.g.nodes->Y3 b i=⟨0,0⟩\/(((Y3 b i).part=3\/(Y3 b i).part=4)/\(Y3 b i).at_=(P (X0 b x (Y3 b i).part i):Nat)/\(ZD b i).part≠2)
 zero:∀k:Int,1<=k/\k<=4->Zy b.h k=List.replicate (P (X0 b x k (P b.g.nodes))) 0
section
variable {b d:Bt}{x:Rw}
def BS(a:Like b d)(p:Pl):YF d.h p=YF b.h p:=by
 unfold YF;rw[a.lay]
theorem Z77(a:Like b d)(p:Pl)(to tw:Int):V5 d p to tw=V5 b p to tw:=by
 unfold V5;rw[a.here,a.old,a.scan,BS a,BS a]
def Gd(a:Like b d)(p:Pl)(n:Nd)(tw:Int):XM d p n tw=XM b p n tw:=by
 grind [XM,XJ,Z77]
def Ac{p:Pl}{a m:Nat}{n:Nd}{tw:Int}{F:Z8}(k:Zy d.h p.part=F++List.replicate m 0)(g:P F=a)(f:p.at_.toNat=a)(j:ZJ n<=m):TL d p a n tw=F++XM d p n tw++List.replicate (m-ZJ n) 0:=by
 simp_all[TL,List.replicate,ZJ,ZgY,Zfv,XM,JY]
def Z6N{F:Z8}{a m s:Nat}{w:Int}(f:P F=a)(j:1<=s)(h:s<=m):(F++List.replicate m (0:Int)).set a w=F++(w::List.replicate (s-1) 0)++List.replicate (m-s) 0:=by
 rw[<-f,ZhR _ _ (ZdN _),ZfG];obtain⟨m,rfl⟩:∃g,m=g+1:=⟨m-1,Z0⟩;rw[List.replicate_succ,List.set_cons_zero,Zey];congr 1;simp;omega
def JG(b:Bt)(x:Rw)(k:Int){i j:Nat}(h:i<=j):∃r,X0 b x k j=X0 b x k i++r:=by
 induction j with
 |zero=>simp_all
 |succ j f=>
  by_cases a:i=j+1;simp_all;grind [YS,VQ,List.append_assoc]
def qH(b:Bt)(x:Rw)(i:Nat)(d:Bt):Prop:=∀k:Int,1<=k/\k<=4->Zy d.h k=X0 b x k i++List.replicate (P (X0 b x k (P b.g.nodes))- P (X0 b x k i)) 0
def BX(b:Bt)(x:Rw)(k:Int){i:Nat}(a:i<P b.g.nodes):P (X0 b x k i)+P (YS b x k i)<=P (X0 b x k (P b.g.nodes)):=by
 obtain⟨r,f⟩:=JG b x k (Z0:i+1<=P b.g.nodes);grind [VQ]
def Z0L(C:Placed b x){i:Nat}(G:i<xq b.g.nodes)(z:Like b d)(w:qH b x i d):qH b x (i+1) (Qx x d i):=by
 have R:(d.g.nodes[i]?).getD default=ZN b i:=by rw[z.g];rfl
 have T:(d.here[i]?).getD ⟨0,0⟩=ZD b i:=by rw[z.here];rfl
 have S:(d.old[i]?).getD ⟨0,0⟩=Y3 b i:=by rw[z.old];rfl
 unfold Qx;simp only[R,T,S];have W:=C.here i G;have O:=C.old i G;have r:=λk=>BX b x k G;have j:∀k,YS b x k i=if(ZD b i).part=k then XM b (ZD b i) (ZN b i) (IntKind.i64.wrap (x.slack+i))else if(Y3 b i).part=k then(if(ZD b i).part=0 then XM b (Y3 b i) (ZN b i) 0 else Vs b (ZD b i) (ZN b i))else []:=λk=>rfl
 have P:=Ud b (ZD b i) (ZN b i) (IntKind.i64.wrap (x.slack+i));have Z:=Ud b (Y3 b i) (ZN b i) 0;have l3:=RB b (ZD b i) (ZN b i);have M:=Gd z (ZD b i) (ZN b i) (IntKind.i64.wrap (x.slack+i));have Q:=Gd z (Y3 b i) (ZN b i) 0;generalize ZD b i=p at*;generalize Y3 b i=o at*;generalize ZN b i=n at*;have L:1<=ZJ n:=by unfold ZJ;omega
 obtain⟨rfl,ko,a,N⟩|⟨hp,U⟩:=W
 ·
  have I:(o.part=3\/o.part=4)/\o.at_=(xq (X0 b x o.part i):Nat):=by
   obtain rfl|⟨h1,h2,_⟩:=O;grind;omega
  have D:U8 x d i n ⟨0,0⟩=d:=by unfold U8;rw[if_neg Z1]
  have F:U9 d n ⟨0,0⟩ o=XY d o n 0:=by unfold U9;rw[if_pos ⟨Z0,rfl⟩]
  have A:∀q,VR q ⟨0,0⟩ o=q:=λq=>by simp_all[VR,if_neg]
  rw[D,F,A];intro k t;have l:YS b x o.part i=XM b o n 0:=by rw[j,if_neg ZcK,if_pos rfl,if_pos rfl]
  have y:=r o.part;rw[l,Z]at y;unfold XY;simp only;rw[Bh Z0 t];by_cases a:k=o.part;rw[if_pos a,a,Ac (w o.part Z0) Z0 rfl Z0,VQ,l,Q];grind;rw[if_neg a,VQ,j k,if_neg ZcK,if_neg (λh=>a h.symm),Zf7];exact w k t
 have J:¬p.part=0:=Z0;have D:U8 x d i n p=XY d p n (IntKind.i64.wrap (x.slack+i)):=by unfold U8;rw[if_pos Z0]
 have F:∀q,U9 q n p o=q:=λq=>by simp_all[U9,if_neg]
 rw[D,F];have B:YS b x p.part i=XM b p n (IntKind.i64.wrap (x.slack+i)):=by rw[j,if_pos rfl]
 have K:=r p.part;rw[B,P]at K;have u:∀k:Int,1<=k/\k<=4->Zy (XY d p n (IntKind.i64.wrap (x.slack+i))).h k=if k=p.part then X0 b x p.part (i+1)++List.replicate (xq (X0 b x p.part (xq b.g.nodes))- xq (X0 b x p.part (i+1))) 0 else Zy d.h k:=by
  intro k t;unfold XY;simp only;rw[Bh Z0 t];by_cases f:k=p.part;rw[if_pos f,if_pos f,Ac (w p.part Z0) Z0 rfl Z0,VQ,B,M];grind;simp_all
 have H:YF (XY d p n (IntKind.i64.wrap (x.slack+i))).h p=YF b.h p:=by
  unfold YF;have:Zu (XY d p n (IntKind.i64.wrap (x.slack+i))).h=Zu b.h:=by
   rw[<-z.lay];unfold XY;simp only;refine CS ?_;rw[Ac (w p.part Z0) Z0 rfl Z0,w p.part Z0,M];simp[P];omega
  rw[this]
 generalize XY d p n (IntKind.i64.wrap (x.slack+i))=q at*;obtain rfl|⟨X,I,Y⟩:=O;have A:VR q p ⟨0,0⟩=q:=by simp_all[VR,if_neg]
 rw[A];intro k t;rw[u k t];by_cases f:k=p.part;simp_all;rw[if_neg f,VQ,j k,if_neg (λh=>f h.symm),if_neg ZcK,Zf7];exact w k t;have A:VR q p o= {q with h:=Xj q.h o.part ((Zy q.h o.part).set o.at_.toNat (YF q.h p))}:=by unfold VR;rw[if_pos ⟨Z0,Z0⟩]
 rw[A];have l:YS b x o.part i=Vs b p n:=by rw[j,if_neg Z0,if_pos rfl,if_neg J]
 have y:=r o.part;rw[l,l3]at y;intro k t;simp only;rw[Bh Z0 t,u o.part Z0,if_neg (Z0:¬o.part=p.part),w o.part Z0,H];by_cases a:k=o.part;rw[if_pos a,a,Z6N Z0 L Z0,VQ,l];grind [Vs];rw[if_neg a,u k t];by_cases f:k=p.part;simp_all;rw[if_neg f,VQ,j k,if_neg (λh=>f h.symm),if_neg (λh=>a h.symm),Zf7];exact w k t
def EJ(a:Placed b x):∀i,i<=P b.g.nodes->qH b x i (VS x b i)
 |0,_=>by
  intro k f;rw[VS,a.zero k f];simp[X0]
 |i+1,h=>by
  rw[VS];exact Z0L a Z0 (Kb a.ok i Z0) (EJ a i Z0)
def EI(a:Placed b x){k:Int}(f:1<=k/\k<=4):Zy (Yr x b) k=X0 b x k (P b.g.nodes):=by
 have h:=EJ a (P b.g.nodes) (ZdN _) k f;rw[ZfG,List.replicate_zero,Zf7]at h;rw[<-h];rfl
end
end
section
def RC(x:Rw)(c:Bool)(g:Gr)(i:Nat):Pl:=if WN x i c=0 then⟨2,(Y1 x c g i).n2⟩else if WN x i c=1 then⟨1,(Y1 x c g i).n1⟩else⟨0,0⟩
def QZ(x:Rw)(c:Bool)(g:Gr)(i:Nat):Pl:=if(decide (0<WN x i c)&&c)=xy then(if Wk x i then⟨4,(Y1 x c g i).n4⟩else⟨3,(Y1 x c g i).n3⟩)else⟨0,0⟩
def Cq{x:Rw}{c:Bool}{g:Gr}(d:∀n∈g.nodes,ZJ n<=9):∀j,j<=P g.nodes->∀i,i<j->(Y1 x c g j).here[i]?=xk (RC x c g i)/\(Y1 x c g j).old[i]?=xk (QZ x c g i)
 |0,_,i,f=>Z0
 |j+1,l,i,f=>by
  obtain⟨_,_,h,k⟩:=La (x:=x) (cycle:=c) d j Z0;rw[Y1];simp only[X3];by_cases a:i<j;have:=Cq (x:=x) (c:=c) d j Z0 i a;rw[Zed Z0,Zed Z0];exact this;have:i=j:=Z0;subst this;rw[Ze8 Z0,Ze8 Z0,h,k,ZfG];exact⟨rfl,rfl⟩
def nk(s:St8)(k:Int):Nat:=if k=1 then s.n1 else if k=2 then s.n2 else if k=3 then s.n3 else s.n4
section
variable {x:Rw}{c:Bool}
def CA(x:Rw):∀n∈(ZT x.nodes x.roots).nodes,ZJ n<=9:=λn d=>by
 obtain⟨_,_,a⟩:=Aw x.nodes x.roots;have:=a n d;unfold ZJ;omega
def R4(x:Rw)(c:Bool):(Ys x c).g=ZT x.nodes x.roots:=rfl
def JZ{i:Nat}(a:i< (ZT x.nodes x.roots).nodes.length):ZD (Ys x c) i=RC x c (ZT x.nodes x.roots) i:=by
 unfold ZD;show((Y1 x c (ZT x.nodes x.roots) (ZT x.nodes x.roots).nodes.length).here[i]?).getD _=_;rw[(Cq (CA x) _ (ZdN _) i a).1];rfl
def ye{i:Nat}(a:i< (ZT x.nodes x.roots).nodes.length):Y3 (Ys x c) i=QZ x c (ZT x.nodes x.roots) i:=by
 unfold Y3;show((Y1 x c (ZT x.nodes x.roots) (ZT x.nodes x.roots).nodes.length).old[i]?).getD _=_;rw[(Cq (CA x) _ (ZdN _) i a).2];rfl
def LF:∀i,i<=(ZT x.nodes x.roots).nodes.length->∀k:Int,1<=k/\k<=4->P (X0 (Ys x c) x k i)=nk (Y1 x c (ZT x.nodes x.roots) i) k
 |0,_,k,f=>by simp[X0,Y1,nk]
 |i+1,p,k,f=>by
  have o:=LF i Z0 k f;rw[VQ,Zeu,o];have l:ZN (Ys x c) i=((ZT x.nodes x.roots).nodes[i]?).getD default:=rfl;unfold YS;rw[JZ (Z0:i< (ZT x.nodes x.roots).nodes.length),ye (Z0:i< (ZT x.nodes x.roots).nodes.length),l,Y1];generalize ((ZT x.nodes x.roots).nodes[i]?).getD default=n;have a:k=1\/k=2\/k=3\/k=4:=Z0;unfold RC QZ;generalize Y1 x c (ZT x.nodes x.roots) i=s;obtain g|h|⟨j,rfl⟩:=Ss x i c;obtain rfl|rfl|rfl|rfl:=a<;>simp[nk,X3,g,Ud];cases c<;>cases d:Wk x i<;>obtain rfl|rfl|rfl|rfl:=a<;>simp[nk,X3,h,d,Ud,RB]
  cases d:Wk x i<;>obtain rfl|rfl|rfl|rfl:=a<;>simp[nk,X3,j,d,Ud,RB]
def Nb(hx:x.ok):Placed (Ys x c) x:=by
 refine⟨(Lb hx c).1,λi a=> ?_,λi a=> ?_,λk g=> ?_⟩;rw[R4]at a;rw[JZ a,ye a];have d:=λk g=>LF (x:=x) (c:=c) i Z0 k g;unfold RC QZ;obtain j|h|⟨f,rfl⟩:=Ss x i c;right;simp[j,d 2,nk];right;simp[h,d 1,nk];left;refine⟨by simp[f],?_⟩;cases n:Wk x i;exact⟨3,.inl rfl,by simp[f]⟩;exact⟨4,.inr rfl,by simp[f]⟩;rw[R4]at a;rw[JZ a,ye a];have d:=λk g=>LF (x:=x) (c:=c) i Z0 k g;unfold RC QZ;obtain j|h|⟨f,rfl⟩:=Ss x i c;left;simp[j];cases c;left;simp;right;cases n:Wk x i;simp[h,d 3,nk];simp[h,d 4,nk];right;cases n:Wk x i;simp[f,d 3,nk];simp[f,d 4,nk];rw[R4,LF _ (ZdN _) k g];have l:k=1\/k=2\/k=3\/k=4:=Z0;obtain rfl|rfl|rfl|rfl:=l<;>rfl
end
end
section
def MZ(h:Hp){k:Int}(d:1<=k/\k<=4):YR (Zu h) k=P (Zy h k):=by
 have a:k=1\/k=2\/k=3\/k=4:=Z0;obtain rfl|rfl|rfl|rfl:=a<;>rfl
def Z7L{s p:Int}(h:YK s p=xy):ZP (Ug s p).1=(s,p,0):=by
 have a:=Yw.1 h;unfold Ug;rw[if_pos h];unfold ZP;grind
theorem Z2A(h:Hp)(p:Pl):Vy (YF h p)=xy:=by
 unfold YF Vy;split;rfl;unfold XH;split;rfl;rename_i a;unfold adr;grind
theorem Z2B(b:Bt)(p:Pl)(to tw:Int):Vy (V5 b p to tw)=xy:=by
 unfold V5;split;rfl;grind [Z2A]
def R3{gone:Bool}{ptrs:Int}:∀ {l:Z8} {i:Nat},(∀(j:Nat) (w:Int),l[j]?=xk w->(gone=xy->w=0)/\(((i+j:Nat):Int)<ptrs->Vy w=xy))->XK l gone ptrs i=xy
 | [],_,_=>rfl
 |w::l,i,h=>by
  obtain⟨f,g⟩:=h 0 w rfl;have d:XK l gone ptrs (i+1)=xy:=R3 λj y a=>by
   have:=h (j+1) y a;grind
  rw[XK,d];grind
theorem Nf{b:Bt}{p:Pl}{n:Nd}{tw:Int}{F r:Z8}{old:Bool}(f:p.at_=(P F:Nat))(o:ZJ n<=9):Stands (F++XM b p n tw++r) old ⟨p.at_,(P n.ptrs:Int)+P n.data,P n.ptrs,xh,0⟩:=by
 have a:YK ((P n.ptrs:Int)+P n.data) (P n.ptrs)=xy:=by
  unfold ZJ at o;exact Yw.2 Z0
 have d:(F++XM b p n tw++r)[P F]?=xk (JY n):=by
  rw[Zey,Ze8 (ZdN _),ZfG];rfl
 have t:=Z7L a;refine⟨ZcL,a,?_,?_,JY n,ZcL,?_⟩;grind [Ud,ZJ,List.length_append];simp only[f,ZdY];have e:((F++XM b p n tw++r).drop (P F+1)).take ((P n.ptrs:Int)+P n.data).toNat=XJ b p p.at_.toNat n.ptrs tw++n.data:=by
  have k:((P n.ptrs:Int)+P n.data).toNat=P (XJ b p p.at_.toNat n.ptrs tw++n.data):=by simp[XJ];omega
  rw[k,Zey,ZgY,Zfv Z0,ZgD,ZeC];have l:(XM b p n tw++r).drop 1=(XJ b p p.at_.toNat n.ptrs tw++n.data)++r:=rfl;rw[l,ZgO]
 rw[e];refine R3 λj w d=>⟨Z1,λg=> ?_⟩;have h:j<P n.ptrs:=by simpa using g
 rw[Zed (by simp_all[XJ])]at d;simp only[XJ,Ze3,ZdK]at d;obtain⟨q,_,rfl⟩:=d;grind [Z2B];simp_all[Ze1,Zew,OP,JY,trivial]
def Z7m{b:Bt}{p o:Pl}{n:Nd}{F r:Z8}(a:o.at_=(P F:Nat))(q:ZJ n<=9)(l:(adr (YF b.h p)).2=0):Stands (F++Vs b p n++r) xy ⟨o.at_,(P n.ptrs:Int)+P n.data,P n.ptrs,xy,(adr (YF b.h p)).1⟩:=by
 have d:YK ((P n.ptrs:Int)+P n.data) (P n.ptrs)=xy:=by
  unfold ZJ at q;exact Yw.2 Z0
 have f:(F++Vs b p n++r)[P F]?=xk (YF b.h p):=by
  rw[Zey,Ze8 (ZdN _),ZfG];rfl
 refine⟨by show 0<=o.at_;omega,d,?_,?_,_,by rw[a];simpa using f,?_⟩;have:=RB b p n;unfold ZJ at this;simp only[Zeu,this,a];omega;simp only[a,ZdY];have e:((F++Vs b p n++r).drop (P F+1)).take ((P n.ptrs:Int)+P n.data).toNat=List.replicate (ZJ n-1) 0:=by
  have g:((P n.ptrs:Int)+P n.data).toNat=P (List.replicate (ZJ n-1) (0:Int)):=by simp[ZJ];omega
  rw[g,Zey,ZgY,Zfv Z0,ZgD,ZeC];have k:(Vs b p n++r).drop 1=List.replicate (ZJ n-1) 0++r:=rfl;rw[k,ZgO]
 rw[e];refine R3 λj w f=> ?_;have:=(List.mem_replicate.1 (ZdQ f)).2;subst this;exact⟨λ_=>rfl,λ_=>rfl⟩;simp only[Zes];exact⟨trivial,l,trivial⟩
def Xb(b:Bt)(k:Int)(i:Nat):List Ob:=
 if(ZD b i).part=k then [⟨(ZD b i).at_,((ZN b i).ptrs.length:Int)+(ZN b i).data.length,(ZN b i).ptrs.length,xh,0⟩]
 else if(Y3 b i).part=k then(if(ZD b i).part=0 then [⟨(Y3 b i).at_,((ZN b i).ptrs.length:Int)+(ZN b i).data.length,(ZN b i).ptrs.length,xh,0⟩]
  else [⟨(Y3 b i).at_,((ZN b i).ptrs.length:Int)+(ZN b i).data.length,(ZN b i).ptrs.length,xy,(adr (YF b.h (ZD b i))).1⟩])
 else []
def obs(b:Bt)(k:Int):List Ob:=(List.range (P b.g.nodes)).flatMap (Xb b k)
section
variable {b:Bt}{x:Rw}
def Placed.nine(a:Placed b x)(d:∀n∈b.g.nodes,ZJ n<=9){i:Nat}(f:i<P b.g.nodes):ZJ (ZN b i)<=9:=by
 simp_all[ZN,ZdI,Ze2]
def Placed.len(a:Placed b x){k:Int}(d:1<=k/\k<=4):YR (Zu b.h) k=(P (X0 b x k (P b.g.nodes)):Nat):=by
 rw[MZ b.h d,a.zero k d];simp
def Placed.here_in(a:Placed b x){i:Nat}(f:i<P b.g.nodes)(k:(ZD b i).part≠0):((ZD b i).part=1\/(ZD b i).part=2)/\(ZD b i).at_=(P (X0 b x (ZD b i).part i):Nat)/\(ZD b i).at_+ZJ (ZN b i)<=YR (Zu b.h) (ZD b i).part:=by
 obtain⟨h,_⟩|⟨j,d⟩:=a.here i f;simp_all;refine⟨j,d,?_⟩;have:=BX b x (ZD b i).part f;rw[a.len Z0,d];have e:YS b x (ZD b i).part i=XM b (ZD b i) (ZN b i) (IntKind.i64.wrap (x.slack+i)):=by unfold YS;rw[if_pos rfl]
 grind [Ud]
def Placed.old_in(a:Placed b x){i:Nat}(d:i<P b.g.nodes)(o:(Y3 b i).part≠0):((Y3 b i).part=3\/(Y3 b i).part=4)/\(Y3 b i).at_=(P (X0 b x (Y3 b i).part i):Nat)/\(ZD b i).part≠2/\(Y3 b i).at_+ZJ (ZN b i)<=YR (Zu b.h) (Y3 b i).part:=by
 obtain h|⟨k,f,l⟩:=a.old i d;simp_all;refine⟨k,f,l,?_⟩;have:=BX b x (Y3 b i).part d;rw[a.len Z0,f];have n:(ZD b i).part=0\/(ZD b i).part=1:=by
  by_cases j:(ZD b i).part=0;omega;have:=(a.here_in d j).1;omega
 have e:P (YS b x (Y3 b i).part i)=ZJ (ZN b i):=by
  unfold YS;rw[if_neg Z0,if_pos rfl];split;grind [Ud];exact RB _ _ _
 omega
def Placed.ref_here(a:Placed b x)(f:ZI (Zu b.h)=xy){i:Nat}(j:i<P b.g.nodes)(d:(ZD b i).part≠0):YF b.h (ZD b i)=Y8 (Zu b.h) (ZD b i).part (ZD b i).at_:=by
 obtain⟨k,l,n⟩:=a.here_in j d;have o:1<=ZJ (ZN b i):=by grind [ZJ]
 unfold YF;rw[if_neg d,Rf f Z0 ⟨Z0,Z0⟩];have:=WO f (ZD b i).part;unfold XH Y8;grind
def Placed.ref_old(a:Placed b x)(f:ZI (Zu b.h)=xy){i:Nat}(j:i<P b.g.nodes)(d:(Y3 b i).part≠0):YF b.h (Y3 b i)=Y8 (Zu b.h) (Y3 b i).part (Y3 b i).at_:=by
 obtain⟨k,l,_,n⟩:=a.old_in j d;have o:1<=ZJ (ZN b i):=by grind [ZJ]
 unfold YF;rw[if_neg d,Rf f Z0 ⟨Z0,Z0⟩];have:=WO f (Y3 b i).part;unfold XH Y8;grind
def Hb(a:Placed b x)(z:ZI (Zu b.h)=xy)(C:∀n∈b.g.nodes,ZJ n<=9){k:Int}(F:1<=k/\k<=4):∀(m i:Nat),i+m=P b.g.nodes->Tiles (X0 b x k (P b.g.nodes)) (decide (2<k)) (P (X0 b x k i)) ((List.range' i m).flatMap (Xb b k))
 |0,i,D=>by
  have:i=P b.g.nodes:=Z0;subst this;exact ZdN _
 |m+1,i,D=>by
  have t:=Hb a z C F m (i+1) Z0;have d:i<P b.g.nodes:=Z0;have w:=a.nine C d;obtain⟨r,A⟩:=JG b x k (Z0:i+1<=P b.g.nodes);rw[List.range'_succ,Zhr];have B:=VQ b x k i;by_cases f:(ZD b i).part=k;have u:YS b x k i=XM b (ZD b i) (ZN b i) (IntKind.i64.wrap (x.slack+i)):=by unfold YS;rw[if_pos f]
  have q:Xb b k i=[⟨(ZD b i).at_,((ZN b i).ptrs.length:Int)+(ZN b i).data.length,(ZN b i).ptrs.length,xh,0⟩]:=by unfold Xb;rw[if_pos f]
  obtain⟨_,j,_⟩:=a.here_in d Z0;rw[f]at j;rw[q];refine⟨j,?_,?_⟩;grind [Nf];rw[B,u,Zeu,Ud]at t;have:(((ZN b i).ptrs.length:Int)+(ZN b i).data.length).toNat=ZJ (ZN b i) -1:=by grind [ZJ]
  simp only[this];rw[show P (X0 b x k i)+1+(ZJ (ZN b i) -1)=P (X0 b x k i)+ZJ (ZN b i)by grind [ZJ]];exact t;by_cases l:(Y3 b i).part=k;obtain⟨G,j,H,I⟩:=a.old_in d Z0;have y:2<k:=Z0;rw[l]at j;have p:P (X0 b x k (i+1))=P (X0 b x k i)+1+(((ZN b i).ptrs.length:Int)+(ZN b i).data.length).toNat:=by
   have e:P (YS b x k i)=ZJ (ZN b i):=by
    unfold YS;rw[if_neg f,if_pos l];split;grind [Ud];exact RB _ _ _
   rw[B,Zeu,e];unfold ZJ;omega
  rw[p]at t;by_cases o:(ZD b i).part=0;have u:YS b x k i=XM b (Y3 b i) (ZN b i) 0:=by unfold YS;rw[if_neg f,if_pos l,if_pos o]
  have q:Xb b k i=[⟨(Y3 b i).at_,((ZN b i).ptrs.length:Int)+(ZN b i).data.length,(ZN b i).ptrs.length,xh,0⟩]:=by unfold Xb;rw[if_neg f,if_pos l,if_pos o]
  rw[q];refine⟨j,?_,t⟩;grind [Nf];have u:YS b x k i=Vs b (ZD b i) (ZN b i):=by unfold YS;rw[if_neg f,if_pos l,if_neg o]
  have q:Xb b k i=[⟨(Y3 b i).at_,((ZN b i).ptrs.length:Int)+(ZN b i).data.length,(ZN b i).ptrs.length,xy,(adr (YF b.h (ZD b i))).1⟩]:=by unfold Xb;rw[if_neg f,if_pos l,if_neg o]
  rw[q];refine⟨j,?_,t⟩;rw[A,B,u,Zi3 y];refine Z7m j w ?_;obtain⟨J,K,_⟩:=a.here_in d o;rw[a.ref_here z d o,U4 z Z0];simp_all[YS,if_neg,Xb,ZeC,Zf7]
def Z3X(a:Placed b x)(j:ZI (Zu b.h)=xy)(f:∀n∈b.g.nodes,ZJ n<=9){k:Int}(d:1<=k/\k<=4):Tiles (Zy (Yr x b) k) (decide (2<k)) 0 (obs b k):=by
 rw[EI a d];have:=Hb a j f d (P b.g.nodes) 0 Z0;unfold obs;rw[List.range_eq_range'];exact this
def QR{k:Int}{o:Ob}:o∈obs b k↔ ∃i,i<P b.g.nodes/\o∈Xb b k i:=by
 grind [obs]
end
end
section
def L9{gone:Bool}{ptrs:Int}:∀ {l:Z8} {i:Nat},XK l gone ptrs i=xy->∀(j:Nat) (w:Int),l[j]?=xk w->(gone=xy->w=0)/\(((i+j:Nat):Int)<ptrs->Vy w=xy)
 | [],_,_,j,w,a=>by simp at a
 |y::l,i,d,j,w,a=>by
  simp only[XK,ZdL]at d;cases j with
  |zero=>
   simp at a;subst a;obtain⟨⟨f,k⟩,_⟩:=d;refine⟨λn=> ?_,λo=> ?_⟩;rw[n]at f;simpa using f;simpa[show(i:Int)<ptrs by omega]using k
  |succ j=>
   have:=L9 d.2 j w (by simpa using a);rw[show i+1+j=i+(j+1)by omega]at this;exact this
def Stands.congr{ws a:Z8}{old:Bool}{o:Ob}(s:Stands ws old o)(q:P a=P ws)(l:a[o.at_.toNat]?=ws[o.at_.toNat]?)
  (k:∀j:Nat,(j:Int)<o.size->a[o.at_.toNat+1+j]?=ws[o.at_.toNat+1+j]? \/(o.gone=xh/\o.ptrs<=j)):Stands a old o:=by
 refine⟨s.nat,s.shape,by rw[q];exact s.fits,R3 λj w f=> ?_,by rw[l];exact s.word⟩;have d:j<o.size.toNat:=by
  have:=(ZdJ.1 f).1;simp at this;omega
 rw[Zez d,Zec]at f;obtain k|⟨n,r⟩:=k j Z0;rw[k]at f;refine L9 s.slots j w ?_;rw[Zez d,Zec];exact f;exact⟨λh=>(by rw[n]at h;cases h),λh=>Z0⟩
def Tiles.congr{ws d:Z8}{old:Bool}:∀ {a:Nat} {l:Zj},Tiles ws old a l->P d=P ws->(∀o∈l,Stands d old o)->Tiles d old a l
 |a,[],h,f,_=>by show P d<=a;rw[f];exact h
 |a,o::l,h,f,j=>⟨h.1,j o (.head _),Tiles.congr h.2.2 f λx k=>j x (.tail _ k)⟩
section
variable {h g:Hp}{p:Pts}
def D6(a:Zu g=Zu h){w i j:Int}:Gos g p w i j↔Gos h p w i j:=by
 unfold Gos;rw[a]
def Tiles.place{ws:Z8}{old:Bool}:∀ {a:Nat} {l:Zj},Tiles ws old a l->∀ {i:Nat} {o:Ob},l[i]?=xk o->o.at_=((a+Un (l.take i):Nat):Int)
 |_,[],_,i,o,d=>Zdo
 |a,x::l,f,0,o,d=>by simp at d;subst d;rw[f.1];simp[Un]
 |a,x::l,f,i+1,o,d=>by
  have:=f.2.2.place (i:=i) (o:=o) ZcX;rw[this];simp[Un];omega
def Z7y{l:Zj}{i:Nat}{o:Ob}(a:l[i]?=xk o):Un (l.take (i+1))=Un (l.take i)+(1+o.size.toNat):=by
 unfold Un;rw[ZeK,a,Zf8,List.sum_append];simp
end
end
section
def O7{ws:Z8}{a:Nat}:∀ {n j:Nat},j<n->a+n<=P ws->(zr ws a n)[a+j]?=xk 0
 |0,_,h,_=>Z0
 |n+1,j,h,d=>by
  rw[zr];by_cases e:j=n;subst e;rw[Zfh (by rw[qC];omega)];rw[ZeU Z0];exact O7 Z0 Z0
def Stands.app{ws r:Z8}{old:Bool}{o:Ob}(s:Stands ws old o):Stands (ws++r) old o:=by
 have l:=Yw.1 s.shape;have g:=s.fits;have k:=s.nat;have f:(ws++r)[o.at_.toNat]?=ws[o.at_.toNat]? :=Zed Z0;refine⟨s.nat,s.shape,ZcM,R3 λj w d=> ?_,by rw[f];exact s.word⟩;have a:j<o.size.toNat:=by
  have:=(ZdJ.1 d).1;simp at this;omega
 rw[Zez a,Zec,Zed Z0]at d;refine L9 s.slots j w ?_;simp_all
def Tiles.append{ws r:Z8}{old:Bool}:∀ {a:Nat} {l d:Zj},Tiles ws old a l->a<=P ws->Tiles (ws++r) old (P ws) d->Tiles (ws++r) old a (l++d)
 |a,[],d,h,g,f=>by
  have:P ws<=a:=h;have:a=P ws:=Z0;subst this;exact f
 |a,o::l,d,h,g,f=>by
  have k:=Yw.1 h.2.1.shape;have j:=h.2.1.fits;have e:=h.1;exact⟨h.1,h.2.1.app,Tiles.append h.2.2 Z0 f⟩
theorem Tiles.map{ws d:Z8}{old:Bool}{f:Ob->Ob}(g:∀o,(f o).at_=o.at_/\(f o).size=o.size)(j:P d=P ws):∀ {a:Nat} {l:Zj},Tiles ws old a l->(∀o∈l,Stands d old (f o))->Tiles d old a (l.map f)
 |a,[],h,_=>by show P d<=a;rw[j];exact h
 |a,o::l,h,k=>⟨by rw[(g o).1];exact h.1,k o (.head _),by rw[(g o).2];exact Tiles.map g j h.2.2 λx n=>k x (.tail _ n)⟩
def WP(a t:Int)(q:Ob):Ob:=if q.at_=a then {q with gone:=xy,target:=t}else q
theorem QF(a t:Int)(q:Ob):(WP a t q).at_=q.at_/\(WP a t q).size=q.size/\(WP a t q).ptrs=q.ptrs:=by
 unfold WP;grind
theorem Tb{a t:Int}{q:Ob}(h:q.at_≠a):WP a t q=q:=if_neg h
theorem Uz{a t:Int}{q:Ob}(h:q.at_=a):WP a t q= {q with gone:=xy,target:=t}:=if_pos h
def Pts.mv(p:Pts)(k:Int)(o:Ob)(L:Nat)(t:Int):Pts:=⟨p.low++[⟨L,o.size,o.ptrs,xh,0⟩],p.high,if k=3 then p.old.map (WP o.at_ t)else p.old,if k=3 then p.far else p.far.map (WP o.at_ t)⟩
section
variable {h:Hp}{p:Pts}
def Kh{k:Int}(a:3<=k/\k<=4)(o:Ob)(L:Nat)(t:Int):(p.mv k o L t).at 1=p.low++[⟨L,o.size,o.ptrs,xh,0⟩]/\(p.mv k o L t).at 2=p.high/\(p.mv k o L t).at k=(p.at k).map (WP o.at_ t)/\(p.mv k o L t).at (7-k)=p.at (7-k):=by
 have:k=3\/k=4:=Z0;obtain rfl|rfl:=this<;>exact⟨rfl,rfl,rfl,rfl⟩
def Z3A{k:Int}(d:3<=k/\k<=4){o:Ob}{L:Nat}{t:Int}{j:Int}(w:1<=j/\j<=4){q:Ob}(x:q∈p.at j):∃a∈(p.mv k o L t).at j,a.at_=q.at_/\a.size=q.size/\a.ptrs=q.ptrs/\(a.gone=xh->a=q)/\(j<3->a=q):=by
 obtain⟨l,n,r,u⟩:=Kh (p:=p) d o L t;by_cases f:j=1;subst f;exact⟨q,ZcL,rfl,rfl,rfl,λ_=>rfl,λ_=>rfl⟩;by_cases g:j=2;subst g;exact⟨q,ZcL,rfl,rfl,rfl,λ_=>rfl,λ_=>rfl⟩;by_cases y:j=k;grind [WP,List.mem_map_of_mem,QF,Uz,Tb];grind
def Z3z{g:Hp}{k:Int}(f:3<=k/\k<=4){o:Ob}{L:Nat}{t:Int}(r:∀j b,Y8 (Zu g) j b=Y8 (Zu h) j b){w i j:Int}(x:1<=i/\i<=4)(y:1<=j/\j<=4)(d:Gos h p w i j):Gos g (p.mv k o L t) w i j:=by
 obtain rfl|⟨m,q,l,n,rfl⟩:=d;exact .inl rfl;obtain⟨u,a,e,_⟩:=Z3A (p:=p) f (o:=o) (L:=L) (t:=t) (j:=m) Z0 n;exact .inr ⟨m,u,l,a,by rw[r,e]⟩
def O2{l:Zj}{o:Ob}{t:Int}(d:l.Pairwise λx y=>x.at_<y.at_)(a:o∈l)(j:o.gone=xh):Yy (l.map (WP o.at_ t))+(1+o.size.toNat)=Yy l:=by
 induction l with
 |nil=>simp at a
 |cons x l g=>
  rw[Zhi]at d;simp only[Yy,Zeh,List.sum_cons]at g⊢;obtain rfl|a:=Ze5.1 a
  .have:l.map (WP o.at_ t)=l:=by
    conv=>rhs;rw[<-List.map_id l]
    refine Zfx λy f=>Tb ?_;have:=d.1 y f;omega
   rw[this,Uz rfl];grind [WU]
  grind [Tb]
def Body.move(r:Body h p)(b5:h.scan<=xq h.low){k:Int}(G:3<=k/\k<=4){o:Ob}(N:o∈p.at k)(Y:o.gone=xh){a n:Nat}(X:o.at_=a)(L:o.size=n):
  Body (Yh h k a (n+1)) (p.mv k o (xq h.low) (fstL (Zu h) 1+xq h.low)):=by
 obtain⟨B,D,m,a6,a8,em,I,b2,b1⟩:=r.toTld.ob (k:=k) Z0 N;have:B=a:=Z0;subst this;have:D=n:=Z0;subst this;obtain⟨_,hm⟩:=r.fwd_wait G N Y X L;obtain⟨m1,m2,m3,m4,m5,m6,m7,m8,m9,b7⟩:=AD h G B (D+1);have W:=AB G (g:=h) I;have mr:=Z3t r.lay G I hm;have hr:=Z5O G I;have hw:∀ {j:Int} {b:Nat},3<=j/\j<=4->(j≠k\/b<B\/B+(D+1)<=b)->(Zy (Yh h k B (D+1)) j)[b]?=(Zy h j)[b]? :=λC hb=>AE G Z0 C hb;have M:∀ {j:Int},3<=j/\j<=4->xq (Zy (Yh h k B (D+1)) j)=xq (Zy h j):=λC=>AC G C;have P:fstL (Zu (Yh h k B (D+1))) 1=fstL (Zu h) 1:=by rw[W];rfl
 have T:∀i,i<D+1->(((Zy h k).take (B+(D+1))).drop B)[i]?=(Zy h k)[B+i]? :=λi z=>by
  simp_all
 have a3:xq (((Zy h k).take (B+(D+1))).drop B)=D+1:=ZcM;obtain⟨e1,e2,e3,e4⟩:=Kh (p:=p) G o (xq h.low) (fstL (Zu h) 1+xq h.low);have H:=((r.tiles k Z0).stands o N).1;obtain⟨u,hu,hc⟩:=H.word;rw[if_neg (by simp[Y])]at hc;rw[X,ZdY]at hu;generalize b0:Yh h k B (D+1)=g at*;generalize a5:((Zy h k).take (B+(D+1))).drop B=ws at*;have a0:∀q∈p.at k,q.at_≠o.at_->∀i:Nat,(i:Int)<=q.size->q.at_.toNat+i<B\/B+(D+1)<=q.at_.toNat+i:=by
  intro q d Q i z;obtain⟨b,l,_,eb,el,_⟩:=r.toTld.ob (k:=k) Z0 d;rcases(r.tiles k Z0).apart q d o N with e|e|e;simp_all;left;omega;omega
 have F:∀q∈p.at k,q.at_≠o.at_->∀i:Nat,(i:Int)<=q.size->(Zy g k)[q.at_.toNat+i]?=(Zy h k)[q.at_.toNat+i]? :=λq d Q i z=>hw G (.inr (a0 q d Q i z));have Z:∀b,(Zy g (7-k))[b]?=(Zy h (7-k))[b]? :=λb=>hw Z0 (.inl Z0);have R:Stands (h.low++ws) xh ⟨xq h.low,o.size,o.ptrs,xh,0⟩:=by
  refine⟨Z1,H.shape,ZcM,R3 λj w C=>⟨Z1,λS=> ?_⟩,u,?_,?_⟩;have J:j<D:=by
   have:=(ZdJ.1 C).1;simp[L]at this;omega
  simp only[L,ZdY]at C;rw[Zez J,Zec,Ze8 Z0,show xq h.low+1+j-xq h.low=1+j by omega,T _ Z0]at C;refine(L9 H.slots j w ?_).2 S;rw[X,L,ZdY,ZdY,Zez J,Zec,<-C,Zf1];simp only[ZdY];grind;grind
 have a4:=WO r.lay 1;refine⟨⟨mr,λj C=> ?_⟩,λj C q d A=> ?_,λj C q d A i z w f=> ?_,?_⟩;by_cases j1:j=1;subst j1;rw[e1];simp only[VB,m1];exact(r.tiles 1 Z0).append (ZeS _) ⟨rfl,R,by show xq (h.low++ws)<=_;simp[L,a3];omega⟩;by_cases j2:j=2;subst j2;rw[e2];simp only[yu,m2];exact r.tiles 2 Z0;by_cases U:j=k;subst U;rw[e3];refine(r.tiles j Z0).map (λq=>⟨(QF _ _ q).1,(QF _ _ q).2.1⟩) (M G) λq d=> ?_;by_cases e:q.at_=o.at_;have:q=o:=r.toTld.same_at Z0 N d e;subst this;rw[Uz rfl];refine⟨H.nat,H.shape,ZcK,R3 λi w z=> ?_,Y8 (Zu h) 1 (xq h.low),?_,?_⟩;have J:i<D:=by
  have:=(ZdJ.1 z).1;simp[L]at this;omega
 simp only[X,L,ZdY]at z;rw[Zez J,Zec,m3,ZeU Z0,Zf1,O7 Z0 I]at z;cases z;exact⟨λ_=>rfl,λ_=>rfl⟩;grind [Int.toNat_natCast,List.getElem?_set_self,qC];simp only[Zes];rw[U4 r.lay Z0];grind;rw[Tb e];refine((r.tiles j Z0).stands q d).1.congr (M G) (by simpa using F q d e 0 (by have:=Yw.1 ((r.tiles j Z0).stands q d).1.shape;omega)) λi z=>.inl ?_;rw[Zf1];exact F q d e (1+i) Z0;have:j=7-k:=Z0;subst this;rw[e4,m4];exact r.tiles (7-k) Z0;by_cases U:j=k;subst U;rw[e3,ZdZ]at d;obtain⟨x,O,rfl⟩:=d;by_cases e:x.at_=o.at_;have:x=o:=r.toTld.same_at Z0 N O e;subst this;rw[Uz rfl];exact⟨_,Zgh _ (.head _),by rw[P],rfl,rfl⟩;rw[Tb e]at A⊢;obtain⟨y,hy,y1,y2,y3⟩:=r.gone j C x O A;exact⟨y,ZeX _ hy,Z0,y2,y3⟩;have:j=7-k:=Z0;subst this;rw[e4]at d;obtain⟨y,hy,y1,y2,y3⟩:=r.gone _ C q d A;exact⟨y,ZeX _ hy,Z0,y2,y3⟩;have a9:∀ {w i j:Int},1<=i/\i<=4->1<=j/\j<=4->Gos h p w i j->Gos g (p.mv k o (xq h.low) (fstL (Zu h) 1+xq h.low)) w i j:=λz C=>Z3z G hr z C;have K:∀ {j:Int} {i:Nat} {w:Int},Wi h p j i w->Wi g (p.mv k o (xq h.low) (fstL (Zu h) 1+xq h.low)) j i w:=λ{j i w} S=>by
  unfold Wi at S⊢;rw[m6];by_cases c1:2<j;grind;rw[if_neg c1]at S⊢;by_cases c2:j=1/\h.scan<=i;grind;rw[if_neg c2]at S⊢;grind
 by_cases j1:j=1;subst j1;rw[e1]at d;obtain d|d:=Zea.1 d;obtain⟨b,l,l',eb,el,a7,a1,_⟩:=r.toTld.ob (k:=1) Z0 d;simp only[VB]at a1 f;rw[m1,Zed Z0]at f;exact K (r.ptr 1 Z0 q d A i z w f);simp at d;subst d;simp only at z f⊢;simp only[ZdY,VB,m1]at f⊢;rw[Ze8 Z0,show xq h.low+1+i-xq h.low=1+i by omega,T _ Z0]at f;have:=r.ptr k Z0 o N Y i z w (by grind [Int.toNat_natCast,Nat.add_assoc]);unfold Wi at this⊢;rw[if_pos Z0]at this;rw[if_neg Z0,if_pos ⟨rfl,Z0⟩];grind;by_cases j2:j=2;subst j2;rw[e2]at d;simp only[yu,m2]at f;exact K (r.ptr 2 Z0 q d A i z w f);by_cases U:j=k;subst U;rw[e3,ZdZ]at d;obtain⟨x,O,rfl⟩:=d;by_cases e:x.at_=o.at_;grind [Uz];rw[Tb e]at A z f⊢;have b3:=(Yw.1 ((r.tiles j Z0).stands x O).1.shape).2.2.2;rw[Zf1,F x O e (1+i) Z0,<-Zf1]at f;exact K (r.ptr j C x O A i z w f);have:j=7-k:=Z0;subst this;rw[e4]at d;rw[m4]at f;exact K (r.ptr _ C q d A i z w f);have b4:=r.room;have b6:Xd (p.mv k o (xq h.low) (fstL (Zu h) 1+xq h.low))+(1+D)=Xd p:=by
  have h1:=(r.tiles k Z0).pairwise;have:=O2 (t:=fstL (Zu h) 1+xq h.low) h1 N Y;rw[L,ZdY]at this;unfold Xd;have a2:k=3\/k=4:=Z0;obtain rfl|rfl:=a2;simp only[Pts.at3]at this;simp only[Pts.mv,Zes];omega;simp only[Pts.at4]at this;simp only[Pts.mv,show ¬(4:Int)=3 by omega,Zew];omega
 grind
end
end
section
def Sk(h:Hp)(p:Pts):Prop:=∀o∈p.low,UQ p (fstL (Zu h) 1+o.at_)=1
section
variable {h g:Hp}{p q:Pts}
def Z7B{l:Zj}{o:Ob}{t b:Int}(d:l.Pairwise λx y=>x.at_<y.at_)(a:o∈l)(j:o.gone=xh):Xy (l.map (WP o.at_ t)) b=Xy l b+if t=b then 1 else 0:=by
 induction l with
 |nil=>simp at a
 |cons x l k=>
  rw[Zhi]at d;have e:∀(y:Ob) (r:Zj),Xy (y::r) b=(if y.gone=xy/\y.target=b then 1 else 0)+Xy r b:=λy r=>by
   unfold Xy;grind
  rw[Zeh,e,e];obtain rfl|a:=Ze5.1 a
  .have:l.map (WP o.at_ t)=l:=by
    conv=>rhs;rw[<-List.map_id l]
    refine Zfx λy f=>Tb ?_;have:=d.1 y f;omega
   rw[this,Uz rfl];grind
  grind [Tb]
def Z7C(r:Body h p){b:Int}(t:P h.low<=b):UQ p (fstL (Zu h) 1+b)=0:=by
 have key:∀k:Int,3<=k/\k<=4->Xy (p.at k) (fstL (Zu h) 1+b)=0:=λk d=>by
  unfold Xy;rw[ZfD,ZgJ];intro o f a;simp only[ZdL,Ze4]at a;obtain⟨y,j,e,_⟩:=r.gone k d o f a.1;have:=r.toTld.low_at j;omega
 have l:=key 3 Z0;have n:=key 4 Z0;simp_all[Pts.at3,Pts.at4,UQ]
def Z7A(r:Body h p){k:Int}(l:3<=k/\k<=4){o:Ob}(j:o∈p.at k)(f:o.gone=xh){L:Nat}{t b:Int}:UQ (p.mv k o L t) b=UQ p b+if t=b then 1 else 0:=by
 have d:=Z7B (t:=t) (b:=b) (r.tiles k Z0).pairwise j f;unfold UQ;have a:k=3\/k=4:=Z0;obtain rfl|rfl:=a;simp only[Pts.at3]at d;simp only[Pts.mv,Zes];omega;simp only[Pts.at4]at d;simp only[Pts.mv,show ¬(4:Int)=3 by omega,Zew];omega
structure Ext (h:Hp) (p:Pts) (g:Hp) (q:Pts):Prop where
 low:∃ws,g.low=h.low++ws
 high:g.high=h.high
 base:g.base=h.base
 cap:g.cap=h.cap
 tos:g.to=h.to
 cycle:g.cycle=h.cycle
 scan:g.scan=h.scan
 roots:g.roots=h.roots
 oldL:P g.old=P h.old
 farL:P g.far=P h.far
 obsL:∃r,q.low=p.low++r
 obsH:q.high=p.high
 obsO:∀k:Int,3<=k/\k<=4->(q.at k).map (λo=>(o.at_,o.size,o.ptrs))=(p.at k).map (λo=>(o.at_,o.size,o.ptrs))
 gone:∀k:Int,3<=k/\k<=4->∀(i:Nat) (o o':Ob),(p.at k)[i]?=xk o->(q.at k)[i]?=xk o'->(o.gone=xy->o'=o)/\(o'.gone=xh->o'=o/\∀j:Nat,(j:Int)<=o.size->(Zy g k)[o.at_.toNat+j]?=(Zy h k)[o.at_.toNat+j]?)
 room:(P g.low:Int)+Xd q=P h.low+Xd p
def Ext.refl(h:Hp)(p:Pts):Ext h p h p:=
 ⟨⟨[],Z1⟩,rfl,rfl,rfl,rfl,rfl,rfl,rfl,rfl,rfl,⟨[],Z1⟩,rfl,λ_ _=>rfl,λk f i o j a d=>ZcL,rfl⟩
def Ext.fst(e:Ext h p g q)(k a:Int)(d:k=1\/k=3\/k=4\/k=2):Y8 (Zu g) k a=Y8 (Zu h) k a:=by
 unfold Y8 fstL Zu;simp only[e.base,e.cap,e.tos,e.high,e.farL]
def Ext.mem(e:Ext h p g q){j:Int}(l:1<=j/\j<=4){o:Ob}(f:o∈p.at j):∃a∈q.at j,a.at_=o.at_/\a.size=o.size/\a.ptrs=o.ptrs:=by
 have d:j=1\/j=2\/j=3\/j=4:=Z0;obtain rfl|rfl|k:=d;obtain⟨r,n⟩:=e.obsL;exact⟨o,ZcL,rfl,rfl,rfl⟩;exact⟨o,by show o∈q.high;rw[e.obsH];exact f,rfl,rfl,rfl⟩;have:=e.obsO j Z0;grind [List.mem_map_of_mem,Prod.mk.injEq]
def Ext.gos(e:Ext h p g q){w i j:Int}(t:1<=i/\i<=4)(u:1<=j/\j<=4)(l:Gos h p w i j):Gos g q w i j:=by
 obtain rfl|⟨m,o,f,n,rfl⟩:=l;exact .inl rfl;have a:1<=m/\m<=4:=by obtain rfl|rfl:=f<;>assumption
 obtain⟨r,d,k,_⟩:=e.mem a n;exact .inr ⟨m,r,f,d,by rw[e.fst _ _ Z0,k]⟩
theorem Body.ext(r:Body h p)(T:h.scan<=xq h.low){k:Int}(f:3<=k/\k<=4){o:Ob}(y:o∈p.at k)(H:o.gone=xh){a n:Nat}(ea:o.at_=a)(P:o.size=n):
  Ext h p (Yh h k a (n+1)) (p.mv k o (xq h.low) (fstL (Zu h) 1+xq h.low)):=by
 obtain⟨u,z,m,O,Q,em,B,S,R⟩:=r.toTld.ob (k:=k) Z0 y;have:u=a:=Z0;subst this;have:z=n:=Z0;subst this;obtain⟨X,Y,m3,m4,Z,m6,m7,m8,m9,F⟩:=AD h f u (z+1);obtain⟨L,M,N,e4⟩:=Kh (p:=p) f o (xq h.low) (fstL (Zu h) 1+xq h.low);have U:(Yh h k u (z+1)).old.length=xq h.old:=AC (j:=3) f Z0;have W:(Yh h k u (z+1)).far.length=xq h.far:=AC (j:=4) f Z0;refine⟨⟨_,X⟩,Y,m9,m8,F,m7,m6,Z,U,W,⟨_,L⟩,M,λj I=> ?_,λj I i x x' w A=> ?_,?_⟩;by_cases K:j=k;simp_all[Zgg,Zfx,QF,fstL,Zu,Function.comp];have:j=7-k:=Z0;simp_all;by_cases K:j=k;subst K;rw[N,Ze3,w]at A;simp at A;subst A;have d:=ZdQ w;by_cases e:x.at_=o.at_;have:x=o:=r.toTld.same_at Z0 y d e;subst this;rw[Uz rfl];exact⟨λh=>(by rw[H]at h;cases h),λh=>Zd0⟩;rw[Tb e];refine⟨λ_=>rfl,λ_=>⟨rfl,λi hi=>AE f Z0 I (.inr ?_)⟩⟩;obtain⟨b,l,_,eb,el,_⟩:=r.toTld.ob (k:=j) Z0 d;rcases(r.tiles j Z0).apart x d o y with G|G|G;simp_all;left;omega;omega;have:j=7-k:=Z0;simp_all;have w:=(r.tiles k Z0).pairwise;have D:=O2 (t:=fstL (Zu h) 1+xq h.low) w y H;rw[P,ZdY]at D;have J:=Z3s f B;unfold Xd;have C:k=3\/k=4:=Z0;obtain rfl|rfl:=C;simp only[Pts.at3]at D;simp only[Pts.mv,Zes];omega;simp only[Pts.at4]at D;simp only[Pts.mv,show ¬(4:Int)=3 by omega,Zew];omega
def Hh(r:Body h p)(f:Sk h p)(j:h.scan<=P h.low){k:Int}(t:3<=k/\k<=4){o:Ob}(u:o∈p.at k)(l:o.gone=xh){a n:Nat}(w:o.at_=a)(y:o.size=n):
  Sk (Yh h k a (n+1)) (p.mv k o (P h.low) (fstL (Zu h) 1+P h.low)):=by
 have e:=r.ext j t u l w y;have z:fstL (Zu (Yh h k a (n+1))) 1=fstL (Zu h) 1:=by
  have:=e.fst 1 0 (.inl rfl);unfold Y8 at this;omega
 intro x d;rw[Z7A r t u l,z];obtain d|d:=Zea.1 d;have:=r.toTld.low_at d;rw[f x d,if_neg Z0];simp_all[Z7C,Int.le_refl]
def OJ(g:Hp)(q:Pts)(w v:Int):Prop:=(w=0/\v=0)\/∃k o,(k=3\/k=4)/\o∈q.at k/\w=Y8 (Zu g) k o.at_/\o.gone=xy/\v=2*o.target+1
structure FwdTo (h:Hp) (p:Pts) (w v:Int) (g:Hp) (q:Pts):Prop where
 fwd:fwd h w=(v,g,0)
 body:Body g q
 once:Sk h p->Sk g q
 ext:Ext h p g q
 tgo:Gos g q v 1 2
 zero:v=0↔w=0
 res:(Gos h p w 1 2/\v=w/\g=h/\q=p)\/OJ g q w v
 how:(g=h/\q=p)\/∃(k:Int) (o:Ob) (a n:Nat),(3<=k/\k<=4)/\o∈p.at k/\o.gone=xh/\o.at_=a/\o.size=n/\g=Yh h k a (n+1)/\q=p.mv k o (P h.low) (fstL (Zu h) 1+P h.low)/\v=Y8 (Zu h) 1 (P h.low)
def Body.forward(r:Body h p)(l:h.scan<=P h.low){w:Int}(K:Gos h p w 1 2\/Gos h p w 3 4):∃v g q,FwdTo h p w v g q:=by
 by_cases C:w=0;subst C;exact⟨0,h,p,Fa r.lay,r,id,.refl h p,.inl rfl,Z1,.inr (.inl ⟨rfl,rfl⟩),.inl ⟨rfl,rfl⟩⟩;have B:∃k o,1<=k/\k<=4/\o∈p.at k/\w=Y8 (Zu h) k o.at_:=by
  obtain(G|⟨k,o,f,d,e⟩)|(G|⟨k,o,f,d,e⟩):=K;omega;grind;omega;grind
 obtain⟨k,o,k1,M,d,rfl⟩:=B;by_cases H:k<=2;exact⟨_,h,p,r.fwd_here ⟨k1,H⟩ d,r,id,.refl h p,.inr ⟨k,o,Z0,d,rfl⟩,ZfC,.inl ⟨.inr ⟨k,o,Z0,d,rfl⟩,rfl,rfl,rfl⟩,.inl ⟨rfl,rfl⟩⟩;have f:3<=k/\k<=4:=Z0;cases j:o.gone;obtain⟨a,n,m,t,u,em,I,_⟩:=r.toTld.ob ⟨k1,M⟩ d;obtain⟨F,_⟩:=r.fwd_wait f d j t u;have e:=r.ext l f d j t u;have b:=r.move l f d j t u;have x:(⟨P h.low,o.size,o.ptrs,xh,0⟩:Ob)∈(p.mv k o (P h.low) (fstL (Zu h) 1+P h.low)).low:=Zgh _ (.head _);have A:Y8 (Zu h) 1 (P h.low)=Y8 (Zu (Yh h k a (n+1))) 1 (P h.low):=(e.fst 1 _ (.inl rfl)).symm;exact⟨_,_,_,F,b,λz=>Hh r z l f d j t u,e,.inr ⟨1,_,.inl rfl,x,A⟩,iff_of_false (yL r.lay Z0) C,.inr (.inr ⟨k,_,Z0,by rw[(Kh f o _ _).2.2.1];exact Zfy d,by rw[e.fst _ _ Z0,(QF _ _ _).1],by rw[Uz rfl],by rw[Uz rfl];rfl⟩),.inr ⟨k,o,a,n,f,d,j,t,u,rfl,rfl,rfl⟩⟩;obtain⟨y,D,e,_⟩:=r.gone k f o d j;have J:2*o.target+1=Y8 (Zu h) 1 y.at_:=by unfold Y8;omega
 have L:=r.toTld.low_at D;refine⟨_,h,p,r.fwd_gone f d j,r,id,.refl h p,.inr ⟨1,y,.inl rfl,D,J⟩,?_,.inr (.inr ⟨k,o,Z0,d,rfl,j,rfl⟩),.inl ⟨rfl,rfl⟩⟩;omega
end
end
end Vm
end
