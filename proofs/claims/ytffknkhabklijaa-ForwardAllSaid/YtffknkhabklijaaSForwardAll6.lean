import Derived.RangeFuncNested
import Derived.RangeFuncBound
import Derived.LoopNIn
import Derived.LoopIn
import Derived.Shelf.RegionOpen
import Derived.RecoverIn
import Derived.Maps.OwnIn
import Derived.Test.YtffknkhabklijaaSForwardAll5
set_option linter.unusedSimpArgs false
set_option linter.unusedVariables false
set_option linter.defProp false
open Option renaming some→xk,none→xw
open Bool renaming true→xy,false→xh
open List renaming length→P
open Array renaming size→U
open Go.World renaming heap→R
open List renaming length→xq
open Array renaming size→xz
open Go.World renaming heap→xj
set_option maxHeartbeats 4000000
set_option maxRecDepth 100000
theorem ZcF{p:Prop}(h:p:=by simp[X1];omega):p:=h
theorem Zcs{p:Prop}(h:p:=by rw[cell_of_row _ _ _ _ _ _ d.out.2.1];rfl):p:=h
theorem Zcn{p:Prop}(h:p:=by have:=d.out.size;simp at this;omega):p:=h
theorem ZbZ{p:Prop}(h:p:=by have:=heap_alloc_new (w.alloc (.cells #[.int .i64 0,.int .i64 0,.int .i64 0,.bool xh,.int .u64 0] 59)) (.cells #[.int .i64 a,.int .i64 0,.int .i64 0,.bool xh,.int .u64 0] 59);simp_all):p:=h
theorem Zcf{p:Prop}(h:p:=by rw[cell_of_row _ _ _ _ _ _ n];rfl):p:=h
theorem Zce{p:Prop}(h:p:=by rw[cell_of_row _ _ _ _ _ _ h];rfl):p:=h
theorem Zcg{p:Prop}(h:p:=by rw[cell_of_row _ _ _ _ _ _ u];rfl):p:=h
theorem Zcd{p:Prop}(h:p:=by rw[cell_of_row _ _ _ _ _ _ F];rfl):p:=h
theorem Zcb{p:Prop}(h:p:=by have:=f.c2;rw[A.out.1,A.out.2.1,A.out.2.2.1,A.out.2.2.2]at this;grind [cell_of_row]):p:=h
theorem ZbW{p:Prop}(h:p:=by decide+kernel):p:=h
theorem Zcz{p:Prop}(h:p:=by obtain⟨y,_,rfl⟩:=List.mem_map.1 d;rfl):p:=h
def Zft:=@List.findIdx?_cons
def Zg0:=@List.find?_cons
def Zg6:=@decide_true
def ZdH:=@List.findIdx?_eq_some_iff_getElem
def Zg3:=@List.take_succ_cons
def ZdM:=@Decidable.byContradiction
def Zgd:=@List.pairwise_cons
def ZgX:=@decide_false
def Zfe:=@Bool.false_or
def ZgD:=@Bool.eq_iff_iff
def ZfZ:=@Go.grownBy_putObj'
def ZdX:=@Go.World.putObj_heap_other
def ZgP:=@eq_false
def ZeV:=@List.length_nil
def Zfi:=@Array.replicate_succ
def Zfj:=@Array.replicate_zero
def ZfF:=@List.push_toArray
def Zfp:=@List.append_toArray
def Zga:=@Go.callsIn_wide
def ZfN:=@Go.grownBy_setCell'
def Zfg:=@List.all_eq_false
def ZeB:=@List.flatMap_append
def ZeN:=@List.mem_append_right
def Zf0:=@List.mem_map_of_mem
def Zgx:=@List.filter_eq_nil_iff
def ZdO:=@List.getElem?_take_of_lt
def ZfO:=@List.drop_append
section
namespace Vm
open Go Go.Proofs
def XD{α:Type}(l:List (Int×α))(k:Int)(v:α):List (Int×α):=match l.findIdx? (·.1==k)with
 |some i=>l.set i (k,v)
 |none=>l++[(k,v)]
def ZX{α:Type}(l:List (Int×α))(k:Int):Option α:=(l.find? (·.1==k)).map (·.2)
def Ya{α:Type}(f:α->V)(l:List (Int×α)):V:=.mp 0 (l.map λx=>vu x.1) (l.map λx=>f x.2)
def qN{α:Type}{k:Int}:∀ {l:List (Int×α)},US (vu k) (l.map λx=>vu x.1)=xk (l.findIdx? (·.1==k))
 | []=>rfl
 |y::l=>by
  simp only[Zdc,US,JJ,Zdv,Zft];by_cases h:k=y.1;simp[h];have a:(k==y.1)=xh:=by simpa using h
  have d:(y.1==k)=xh:=by simpa using Zf1 h
  simp[a,d,qN]
def Jq{α:Type}{p:α->Bool}:∀ {l:List α},l.find? p=(l.findIdx? p).bind λi=>l[i]?
 | []=>rfl
 |x::l=>by
  rw[Zg0,Zft];cases h:p x;simp only[Zd0,Zdu];rw[Jq (l:=l)];cases l.findIdx? p<;>simp;simp
theorem Rn{α:Type}{f:α->V}{l:List (Int×α)}{k:Int}{z:V}{ok:Bool}:U4 (.i .u64) (Ya f l) (vu k) z ok=match ZX l k with
  |some x=>xk (if ok then .tup [f x,.bool xy]else f x)
  |none=>xk (if ok then .tup [z,.bool xh]else z):=by
 unfold U4 Ya ZX;simp only[WT,Zg6,Zem,Zdu,qN,Jq];grind [List.findIdx?_eq_some_iff_getElem]
def JO{α:Type}{f:α->V}{l:List (Int×α)}{k:Int}{x:α}:Us (.i .u64) (Ya f l) (vu k) (f x)=xk (Ya f (XD l k x)):=by
 unfold Us Ya XD;simp only[WT,Zg6,Zem,Zdu,qN];cases h:l.findIdx? (·.1==k)with
 |none=>simp
 |some i=>
  have g:=ZdH.1 h;obtain⟨d,n,_⟩:=g;have a:(l[i]).1=k:=by simpa using n
  simp only[ZcL,V.mp.injEq,true_and];constructor;rw[Zfq];apply ZfD;intro j;rw[List.getElem?_set];split;rename_i e;subst e;simp[d,a];rfl;rw[Zfq]
@[simp]theorem Zaz{α:Type}(f:α->V)(l:List (Int×α)):YM (Ya f l)=xk (Ya f l):=rfl
@[simp]theorem Z8E{α:Type}(f:α->V)(l:List (Int×α)):(Ya f l).cells=[Ya f l]:=rfl
@[simp]theorem ZaK{α:Type}(f:α->V)(l:List (Int×α)):(Ya f l).one=xy:=rfl
@[simp]theorem Zao{α:Type}(f:α->V)(l:List (Int×α)):Sr (Ya f l)=xk (vi (P l)):=by simp[Ya]
def Qi{α:Type}{l:List (Int×α)}{k j:Int}{x:α}:ZX (XD l k x) j=if k=j then xk x else ZX l j:=by
 unfold ZX XD;cases h:l.findIdx? (·.1==k)with
 |none=>
  grind
 |some i=>
  obtain⟨n,g,d⟩:=ZdH.1 h;have a:(l[i]).1=k:=by simpa using g
  simp only;by_cases e:k=j;subst e;rw[if_pos rfl,Jq];grind [List.findIdx?_eq_some_iff_getElem,List.getElem_set_ne];rw[if_neg e,Jq,Jq];have:(l.set i (k,x)).findIdx? (·.1==j)=l.findIdx? (·.1==j):=by
   apply Option.ext;intro q;rw[ZdH,ZdH];have t:((k,x).1==j)=xh:=by simpa using e
   have f:((l[i]).1==j)=xh:=by rw[a];simpa using e
   constructor;grind;grind
  rw[this];cases o:l.findIdx? (·.1==j)with
  |none=>rfl
  |some q=>
   obtain⟨p,r,_⟩:=ZdH.1 o;grind
structure Ck where
 h:Hp
 o1:List Ob
 o2:List Ob
 o3:List Ob
 o4:List Ob
 pm:List (Int×Int)
 lm:List (Int×(Int×Int))
def Ck.obs(s:Ck)(k:Int):List Ob:=if k=1 then s.o1 else if k=2 then s.o2 else if k=3 then s.o3 else s.o4
def ZQ(s:Ck):List V:=[vu s.h.base,vi s.h.cap,vi s.h.to,.bool s.h.cycle,vi s.h.scan,.sl (s.h.low.map vu),.sl (s.h.high.map vu),.sl (s.h.old.map vu),.sl (s.h.far.map vu),.sl (s.h.roots.map vu),
 vu s.h.base,vi s.h.cap,vi s.h.to,vi (P s.h.low),vi (P s.h.high),vi (P s.h.old),vi (P s.h.far),
 .sl (s.o1.map ZH),.sl (s.o2.map ZH),.sl (s.o3.map ZH),.sl (s.o4.map ZH),Ya vi s.pm,Ya XZ s.lm]
def X0(s:Ck):V:=.ptr (ZQ s)
def SM:IntKind.i64.wrap 0=0:=by decide
def UG:IntKind.i64.wrap 1=1:=by decide
def Vy:IntKind.i64.wrap 2=2:=by decide
def VU:IntKind.i64.wrap 3=3:=by decide
def N6{s:Ck}{k:Int}(a:1<=k/\k<=4):VC Sol.prog 118 xh [X0 s,vi k] (.sl ((Zx s.h k).map vu)):=by
 refine ZV Sol.func118 follows Z2 OP rfl ?_;have:k=1\/k=2\/k=3\/k=4:=Z0;obtain rfl|rfl|rfl|rfl:=this<;>simp[H1,X0,ZQ,Zx,Y4,SM,UG,Vy,VU]
def YK(s:Ck)(w first last:Int):Bool:=decide (w=0)||(decide ((adr w).2=0)&&match ZX s.pm (adr w).1 with
 |some k=>decide (first<=k)&&decide (k<=last)
 |none=>xh)
def Ka{s:Ck}{w first last:Int}(f:ZA w):VC Sol.prog 122 xh [X0 s,vu w,vi first,vi last] (.bool (YK s w first last)):=by
 refine ZV Sol.func122 follows Z2 OW rfl ?_;unfold YK;by_cases a:w=0;simp[Ap,a];simp[Ap,a,X0,ZQ];refine Zy (J6 f) Z1 ?_;by_cases d:(adr w).2=0;case neg=>simp[d]
 simp[d,Rn];cases g:ZX s.pm (adr w).1 with
 |none=>simp
 |some k=>
  simp_all
def Wi(h:Hp)(k:Int):List (Int×Int)->List Ob->List (Int×Int)
 |m,[]=>m
 |m,o::l=>Wi h k (XD m (ZY (Zu h) k o.at_).1 k) l
def X7(h:Hp)(k:Int):List (Int×(Int×Int))->List Ob->List (Int×(Int×Int))
 |m,[]=>m
 |m,o::l=>X7 h k (if k=1 then XD m (ZY (Zu h) k o.at_).1 (o.size,o.ptrs)else m) l
def Ck.put(s:Ck)(k:Int)(l:List Ob):Ck:=if k=1 then {s with o1:=l}else if k=2 then {s with o2:=l}else if k=3 then {s with o3:=l}else {s with o4:=l}
def XI(s:Ck)(k:Int)(l:List Ob):Ck:= {s.put k l with pm:=Wi s.h k s.pm l,lm:=X7 s.h k s.lm l}
def JV{h:Hp}{k:Int}:∀ {l:List Ob} {i:Nat} {o:Ob} {m:List (Int×Int)},l[i]?=xk o->Wi h k m (l.take (i+1))=XD (Wi h k m (l.take i)) (ZY (Zu h) k o.at_).1 k
 | [],_,_,_,h=>Zcq
 |x::l,0,o,m,h=>by simp_all[Wi]
 |x::l,i+1,o,m,h=>by
  simp_all[Zg3,Wi,JV]
def JT{h:Hp}{k:Int}:∀ {l:List Ob} {i:Nat} {o:Ob} {m:List (Int×(Int×Int))},l[i]?=xk o->X7 h k m (l.take (i+1))=if k=1 then XD (X7 h k m (l.take i)) (ZY (Zu h) k o.at_).1 (o.size,o.ptrs)else X7 h k m (l.take i)
 | [],_,_,_,h=>Zcq
 |x::l,0,o,m,h=>by simp_all[X7]
 |x::l,i+1,o,m,h=>by
  simp_all[Zg3,X7,JT]
abbrev Le:List CK:=[.fz,.fz,.fz,.fz,.fz,.fz,.fz,.fz,.fz,.fz,.fz,.fz,.fz,.fz,.fz,.fz,.fz,.fz,.fz,.fz,.fz,.own 84,.own 115]
@[simp]theorem Z4S(s:Ck)(k:Int)(l:List Ob):(s.put k l).h=s.h:=by
 unfold Ck.put;split;rfl;split;rfl;split<;>rfl
def zg{l:List (Int×Int)}{k x:Int}:Us (.i .u64) (Ya vi l) (vu k) (vi x)=xk (Ya vi (XD l k x)):=JO
def zh{l:List (Int×(Int×Int))}{k a b:Int}:Us (.i .u64) (Ya XZ l) (vu k) (.agg [vi a,vi b])=xk (Ya XZ (XD l k (a,b))):=JO (f:=XZ) (x:=(a,b))
def zp{s:Ck}(r:s.h.ok){k:Int}(w:1<=k/\k<=4){l:List Ob}(x:P l<=1000000):V1 Sol.prog 121 [.mem Le,.fz,.fz] [.agg (ZQ s),vi k,.sl (l.map ZH)] (.tup [.tup [],.agg (ZQ (XI s k l))]):=by
 refine QU Sol.func121 follows Z2 OU Z2 ?_;have t:k=1\/k=2\/k=3\/k=4:=Z0;have q:P l<=Y5:=by unfold Y5;omega
 have u:∀k,({s.put k l with pm:=s.pm,lm:=s.lm}:Ck)=s.put k l:=by
  intro k;unfold Ck.put;split;rfl;split;rfl;split<;>rfl
 have o:=λ(k at_:Int)=>CN r.lay (part:=k) (at_:=at_);unfold Zu YI at o;obtain rfl|rfl|rfl|rfl:=t
 .simp[K4,ZQ,Y4,Ui,SM,UG,Vy,VU,setCells];refine VB 3 (P l) (λi=>[(0,.m (ZQ {s.put 1 l with pm:=Wi s.h 1 s.pm (l.take i),lm:=X7 s.h 1 s.lm (l.take i)})),(3,.v (vi i))]) (λ_=>True) (by simp[ZQ,Ck.put,Wi,X7]) Z1 trivial ?_;intro i p _;have d:=Zz ((i:Int)+1) Z0 Z0;by_cases a:i<P l
  .have f:l[i]?=xk l[i]:=ZcM a;have g:=JV (h:=s.h) (k:=1) (m:=s.pm) f;have j:=JT (h:=s.h) (k:=1) (m:=s.lm) f;have n:=o 1 (l[i]).at_;simp[a,f,d,ZQ,X3];refine Zy n Z1 ?_;simp[zg,zh,g,j,d,a];first|done|rfl|exact⟨rfl,rfl⟩
  have:i=P l:=Z0;subst this;simp[ZQ,XI,ZdR]
 .simp[K4,ZQ,Y4,Ui,SM,UG,Vy,VU,setCells];refine VB 3 (P l) (λi=>[(0,.m (ZQ {s.put 2 l with pm:=Wi s.h 2 s.pm (l.take i),lm:=X7 s.h 2 s.lm (l.take i)})),(3,.v (vi i))]) (λ_=>True) (by simp[ZQ,Ck.put,Wi,X7]) Z1 trivial ?_;intro i p _;have d:=Zz ((i:Int)+1) Z0 Z0;by_cases a:i<P l
  .have f:l[i]?=xk l[i]:=ZcM a;have g:=JV (h:=s.h) (k:=2) (m:=s.pm) f;have j:=JT (h:=s.h) (k:=2) (m:=s.lm) f;have n:=o 2 (l[i]).at_;simp[a,f,d,ZQ,X3];refine Zy n Z1 ?_;simp[zg,zh,g,j,d,a];first|done|rfl|exact⟨rfl,rfl⟩
  have:i=P l:=Z0;subst this;simp[ZQ,XI,ZdR]
 .simp[K4,ZQ,Y4,Ui,SM,UG,Vy,VU,setCells];refine VB 3 (P l) (λi=>[(0,.m (ZQ {s.put 3 l with pm:=Wi s.h 3 s.pm (l.take i),lm:=X7 s.h 3 s.lm (l.take i)})),(3,.v (vi i))]) (λ_=>True) (by simp[ZQ,Ck.put,Wi,X7]) Z1 trivial ?_;intro i p _;have d:=Zz ((i:Int)+1) Z0 Z0;by_cases a:i<P l
  .have f:l[i]?=xk l[i]:=ZcM a;have g:=JV (h:=s.h) (k:=3) (m:=s.pm) f;have j:=JT (h:=s.h) (k:=3) (m:=s.lm) f;have n:=o 3 (l[i]).at_;simp[a,f,d,ZQ,X3];refine Zy n Z1 ?_;simp[zg,zh,g,j,d,a];first|done|rfl|exact⟨rfl,rfl⟩
  have:i=P l:=Z0;subst this;simp[ZQ,XI,ZdR]
 .simp[K4,ZQ,Y4,Ui,SM,UG,Vy,VU,setCells];refine VB 3 (P l) (λi=>[(0,.m (ZQ {s.put 4 l with pm:=Wi s.h 4 s.pm (l.take i),lm:=X7 s.h 4 s.lm (l.take i)})),(3,.v (vi i))]) (λ_=>True) (by simp[ZQ,Ck.put,Wi,X7]) Z1 trivial ?_;intro i p _;have d:=Zz ((i:Int)+1) Z0 Z0;by_cases a:i<P l
  .have f:l[i]?=xk l[i]:=ZcM a;have g:=JV (h:=s.h) (k:=4) (m:=s.pm) f;have j:=JT (h:=s.h) (k:=4) (m:=s.lm) f;have n:=o 4 (l[i]).at_;simp[a,f,d,ZQ,X3];refine Zy n Z1 ?_;simp[zg,zh,g,j,d,a];first|done|rfl|exact⟨rfl,rfl⟩
  have:i=P l:=Z0;subst this;simp[ZQ,XI,ZdR]
end Vm
namespace Vm
open Go Go.Proofs
def WN(s:Ck):V:=.ptr [X0 s]
def Z6h{s:Ck}{a w:Int}(d:ZA w):VC Sol.prog 124 xh [vi a,vu w,WN s] (.bool (YK s w 1 2)):=by
 refine ZV Sol.func124 follows Z2 OY rfl ?_;have k:=Ka (s:=s) (first:=1) (last:=2) d;unfold WN X0 at*;simp[H4,YM,V.one];refine Zy k Z1 ?_;simp
def Z6i{s:Ck}{a w:Int}(d:ZA w):VC Sol.prog 125 xh [vi a,vu w,WN s] (.bool (decide (s.h.scan<=a)||YK s w 1 2)):=by
 refine ZV Sol.func125 follows Z2 OZ rfl ?_;have k:=Ka (s:=s) (first:=1) (last:=2) d;unfold WN X0 at*;by_cases h:s.h.scan<=a;simp[Aq,YM,V.one,ZQ,h];simp[Aq,YM,V.one,ZQ,h];refine Zy k (by simp[ZQ]) ?_;simp[h]
def Z7f{s:Ck}{a w:Int}(d:ZA w):VC Sol.prog 126 xh [vi a,vu w,WN s] (.bool (decide (a<s.h.scan)||YK s w 1 4)):=by
 refine ZV Sol.func126 follows Z2 P0 rfl ?_;have k:=Ka (s:=s) (first:=1) (last:=4) d;unfold WN X0 at*;by_cases h:a<s.h.scan;simp[Ar,YM,V.one,ZQ,h];simp[Ar,YM,V.one,ZQ,h];refine Zy k (by simp[ZQ]) ?_;simp[h]
def Fu{s:Ck}{a w:Int}(d:ZA w):VC Sol.prog 127 xh [vi a,vu w,WN s] (.bool (YK s w 3 4)):=by
 refine ZV Sol.func127 follows Z2 P1 rfl ?_;have k:=Ka (s:=s) (first:=3) (last:=4) d;unfold WN X0 at*;simp[H5,YM,V.one];refine Zy k Z1 ?_;simp
structure Ck.ok (s:Ck):Prop where
 h:s.h.ok
 ob:∀k,∀o∈s.obs k,RY (P (Zx s.h k)) o/\ZA o.target
 len:∀k,P (s.obs k)<=1000000
def Vz(ws:List Int)(k:Nat):Int:=(ws[k]?).getD 0
def obQ(s:Ck)(k:Int)(q:Int->Int->Bool)(o:Ob):Bool:=o.gone||(List.range o.ptrs.toNat).all λj=>q ((o.at_.toNat+1+j:Nat):Int) (Vz (Zx s.h k) (o.at_.toNat+1+j))
def Wy(s:Ck)(k:Int)(q:Int->Int->Bool):Bool:=(s.obs k).all (obQ s k q)
def K9{s:Ck}(u:s.ok){k:Int}(S:1<=k/\k<=4){f:FuncId}{cs:List V}{q:Int->Int->Bool}(X:∀a w,ZA w->VC Sol.prog f xh ([vi a,vu w]++cs) (.bool (q a w))):
  VC Sol.prog 123 xh [X0 s,vi k,.clo f cs] (.bool (Wy s k q)):=by
 refine ZV Sol.func123 follows Z2 OX rfl ?_;simp[-List.all_eq_true,-List.all_eq_false,H3];refine Zy (N6 S) Z1 ?_;have W:ZW (.agg [.sl (s.o1.map ZH),.sl (s.o2.map ZH),.sl (s.o3.map ZH),.sl (s.o4.map ZH)]) 0=xk (.sl (s.o1.map ZH)):=rfl;have O:=u.len k;have D:=u.ob k;have Z:=(XB u.h k).1;have U:=(XB u.h k).2;have x:Y4 (.agg [.sl (s.o1.map ZH),.sl (s.o2.map ZH),.sl (s.o3.map ZH),.sl (s.o4.map ZH)]) (.int .i64 (IntKind.i64.wrap (k-1))) 4 1 xy=xk (.agg [.sl ((s.obs k).map ZH)]):=by
  have:k=1\/k=2\/k=3\/k=4:=Z0;obtain rfl|rfl|rfl|rfl:=this<;>simp[Y4,Ck.obs,SM,UG,Vy,VU]
 unfold Wy;generalize hL:s.obs k=L at*;generalize Q:Zx s.h k=r at*;simp[-List.all_eq_true,-List.all_eq_false,X0,ZQ,x];refine KQ 5 (xq L) (λi=>(L.take i).all (obQ s k q)=xy) Z1 Z1 Z1 ?_;intro i hi M;have a0:=Zz ((i:Int)+1) Z0 Z0;by_cases l:i<xq L;have J:L[i]?=xk L[i]:=ZcM l;obtain⟨⟨⟨a,K,N⟩,F⟩,_⟩:=D _ (Zd3 l);generalize L[i]=o at*;obtain⟨s1,s2,s3,s4⟩:=YG.1 F;obtain⟨m,P⟩:=Zd7 s3;have G:=Zz ((a:Int)+1) Z0 Z0;have C:obQ s k q o=xy->(L.take (i+1)).all (obQ s k q)=xy:=λh=>by simp_all[CR]
 have y:obQ s k q o=xh->L.all (obQ s k q)=xh:=λg=>CQ J g;cases z:o.gone;have t:obQ s k q o=(List.range m).all λj=>q ((a+1+j:Nat):Int) (Vz r (a+1+j)):=by
  unfold obQ;rw[P,K,Q,z];rfl
 simp[-List.all_eq_true,-List.all_eq_false,l,J,Yb J,X3,z,K,P];refine KQ 11 m (λj=>((List.range j).all λj=>q ((a+1+j:Nat):Int) (Vz r (a+1+j)))=xy) Z1 Z1 Z1 ?_;intro j hj R;have a1:=Zz ((j:Int)+1) Z0 Z0;by_cases A:j<m;obtain⟨w,d,Y⟩:∃w,r[a+1+j]?=xk w/\ZA w:=⟨_,ZcM Z0,Z _ (Zd3 _)⟩;have I:Vz r (a+1+j)=w:=by unfold Vz;rw[d];rfl
 have p:((List.range (j+1)).all λj=>q ((a+1+j:Nat):Int) (Vz r (a+1+j)))=(((List.range j).all λj=>q ((a+1+j:Nat):Int) (Vz r (a+1+j)))&&q ((a+1+j:Nat):Int) w):=by
  rw[ZeW,ZgH];simp[I]
 have g:q ((a+1+j:Nat):Int) w=xh->L.all (obQ s k q)=xh:=λg=>y (by
  grind)
 obtain⟨n,T⟩:∃n,a+1+j=n:=⟨_,rfl⟩;have B:(a:Int)+1+(j:Int)=(n:Int):=Z0;have H:=Zz (n:Int) Z0 Z0;rw[T]at d p g;have kq:=X (n:Int) w Y;simp[-List.all_eq_true,-List.all_eq_false,A,G,B,H,d,Yb d,X3];refine Zy kq Z1 ?_;simp_all;have:j=m:=Z0;simp_all;have t:obQ s k q o=xy:=by unfold obQ;rw[z];rfl
 simp_all;have:i=xq L:=Z0;simp_all
@[simp]theorem ZaS(l:List V):(V.ptr l).one=xy:=rfl
@[simp]theorem ZaH(l:List V):YM (.ptr l)=xk (.ptr l):=rfl
@[simp]theorem ZaO(f:FuncId)(l:List V):(V.clo f l).one=xy:=rfl
@[simp]theorem ZaD(f:FuncId)(l:List V):YM (.clo f l)=xk (.clo f l):=rfl
@[simp]theorem ZaC(s:Ck):YM (X0 s)=xk (X0 s):=rfl
@[simp]theorem ZaN(s:Ck):(X0 s).one=xy:=rfl
@[simp]theorem Zbf(s:Ck):UE (X0 s)=xk (.agg (ZQ s)):=rfl
@[simp]theorem Z8V(s:Ck):(ZQ s)[4]?=xk (vi s.h.scan):=rfl
@[simp]theorem Z8O(s:Ck):(ZQ s)[3]?=xk (.bool s.h.cycle):=rfl
@[simp]theorem Z8U(s:Ck):(ZQ s)[9]?=xk (.sl (s.h.roots.map vu)):=rfl
@[simp]theorem Z8S(s:Ck):(ZQ s)[5]?=xk (.sl (s.h.low.map vu)):=rfl
@[simp]theorem Z8Q(s:Ck):(ZQ s)[6]?=xk (.sl (s.h.high.map vu)):=rfl
@[simp]theorem Z8T(s:Ck):(ZQ s)[7]?=xk (.sl (s.h.old.map vu)):=rfl
@[simp]theorem Z8P(s:Ck):(ZQ s)[8]?=xk (.sl (s.h.far.map vu)):=rfl
@[simp]theorem Z8N(s:Ck):(ZQ s)[1]?=xk (vi s.h.cap):=rfl
def RL(s:Ck):Bool:=s.h.roots.all (λw=>YK s w 1 2)&&(Wy s 2 (λ_ w=>YK s w 1 2)&&Wy s 1 (λa w=>decide (s.h.scan<=a)||YK s w 1 2))
def Z6j{s:Ck}(n:s.ok):VC Sol.prog 107 xh [X0 s] (.bool (RL s)):=by
 refine ZV Sol.func107 follows Z2 OJ rfl ?_;have k1:=K9 n (k:=2) Z0 (f:=124) (cs:=[WN s]) (q:=λ_ w=>YK s w 1 2) (λa w l=>Z6h l);have y:=K9 n (k:=1) Z0 (f:=125) (cs:=[WN s]) (q:=λa w=>decide (s.h.scan<=a)||YK s w 1 2) (λa w l=>Z6i l);have C:=λw (l:ZA w)=>Ka (s:=s) (first:=1) (last:=2) l;have A:=n.h.roots;have t:=n.h.rootsW;unfold RL;unfold WN at k1 y;generalize Wy s 2 (λ_ w=>YK s w 1 2)=z at*;generalize Wy s 1 (λa w=>decide (s.h.scan<=a)||YK s w 1 2)=D at*;simp[-List.all_eq_true,-List.all_eq_false,GV];refine KQ 3 (P s.h.roots) (λi=>(s.h.roots.take i).all (λw=>YK s w 1 2)=xy) Z1 Z1 Z1 ?_;intro i F g;have u:=Zz ((i:Int)+1) Z0 Z0;by_cases j:i<P s.h.roots;have o:s.h.roots[i]?=xk s.h.roots[i]:=ZcM j;have B:=t _ (Zd3 j);generalize s.h.roots[i]=w at*;have p:YK s w 1 2=xh->s.h.roots.all (λw=>YK s w 1 2)=xh:=λr=>CQ o r;have d:=CR (q:=λw=>YK s w 1 2) o;rw[g]at d;simp[-List.all_eq_true,-List.all_eq_false,j,o,Yb o,X3];refine Zy (C w B) Z1 ?_;cases x:YK s w 1 2;simp[-List.all_eq_true,-List.all_eq_false,p x];rw[x]at d;simp[-List.all_eq_true,-List.all_eq_false,u,j,d];have:i=P s.h.roots:=Z0;subst this;rw[Zek]at g;simp[-List.all_eq_true,-List.all_eq_false,g];refine Zy k1 (by simp[Wh,V.flatc]) ?_;cases z;simp;simp;refine Zy y (by simp[Wh,V.flatc]) ?_;simp
def RP(s:Ck):Bool:=Wy s 1 (λa w=>decide (a<s.h.scan)||YK s w 1 4)
def Z7g{s:Ck}(d:s.ok):VC Sol.prog 108 xh [X0 s] (.bool (RP s)):=by
 refine ZV Sol.func108 follows Z2 OK rfl ?_;have k1:=K9 d (k:=1) Z0 (f:=126) (cs:=[WN s]) (q:=λa w=>decide (a<s.h.scan)||YK s w 1 4) (λa w g=>Z7f g);unfold RP;unfold WN at k1;simp[GW];refine Zy k1 (by simp[Wh,V.flatc]) ?_;simp
def Rl(s:Ck):Bool:=Wy s 3 (λ_ w=>YK s w 3 4)&&Wy s 4 (λ_ w=>YK s w 3 4)
def Z2q{s:Ck}(g:s.ok):VC Sol.prog 109 xh [X0 s] (.bool (Rl s)):=by
 refine ZV Sol.func109 follows Z2 OL rfl ?_;have k1:=K9 g (k:=3) Z0 (f:=127) (cs:=[WN s]) (q:=λ_ w=>YK s w 3 4) (λa w d=>Fu d);have h:=K9 g (k:=4) Z0 (f:=127) (cs:=[WN s]) (q:=λ_ w=>YK s w 3 4) (λa w d=>Fu d);unfold Rl;unfold WN at k1 h;generalize Wy s 3 (λ_ w=>YK s w 3 4)=j at*;generalize Wy s 4 (λ_ w=>YK s w 3 4)=l at*;simp[GX];refine Zy k1 (by simp[Wh,V.flatc]) ?_;cases j;simp;simp;refine Zy h (by simp[Wh,V.flatc]) ?_;simp
end Vm
namespace Vm
open Go Go.Proofs
def Sc(s:Ck):Bool:=ZG (Zu s.h)&&(decide (P s.h.roots<=16)&&(decide (0<=s.h.scan)&&decide (s.h.scan<=P s.h.low)))
def Oz{s:Ck}(f:s.h.ok):VC Sol.prog 103 xh [X0 s] (.bool (Sc s)):=by
 refine ZV Sol.func103 follows Z2 OF rfl ?_;have k:=Kr f.lay;unfold Sc;unfold Zu YI at k;simp[GT];simp[ZQ];refine Zy k Z1 ?_;have e:ZG {base:=s.h.base,cap:=s.h.cap,to:=s.h.to,low:=(P s.h.low:Int),high:=(P s.h.high:Int),old:=(P s.h.old:Int),far:=(P s.h.far:Int)}=ZG (Zu s.h):=rfl;rw[e];cases ZG (Zu s.h);simp;by_cases d:P s.h.roots<=16;have a:(P s.h.roots:Int)<=16:=Z0;simp_all;have a:¬(P s.h.roots:Int)<=16:=Z0;simp[d,a]
def RF(s:Ck):Bool:=if s.h.cycle then decide (s.h.scan<P s.h.low)else decide (P s.h.old=0)&&(decide (P s.h.far=0)&&decide (s.h.scan=P s.h.low))
def Z5z{s:Ck}:VC Sol.prog 104 xh [X0 s] (.bool (RF s)):=by
 refine ZV Sol.func104 follows Z2 OG rfl ?_;unfold RF;cases f:s.h.cycle;by_cases g:P s.h.old=0;have a:s.h.old=[]:=Zev.1 g;by_cases j:P s.h.far=0;have d:s.h.far=[]:=Zev.1 j;simp[K1,f,a,d];have d:¬s.h.far=[]:=λe=>j (by simp[e]);simp[K1,f,a,j,d];have a:¬s.h.old=[]:=λe=>g (by simp[e]);simp[K1,f,g,a];simp[K1,f]
def S4(s:Ck):Nat:=Yt s.o3+Yt s.o4
@[simp]theorem Zat(s:Ck):((ZQ s).drop 17).take 4=[.sl (s.o1.map ZH),.sl (s.o2.map ZH),.sl (s.o3.map ZH),.sl (s.o4.map ZH)]:=rfl
@[simp]theorem Z8R(s:Ck):P (ZQ s)=23:=rfl
def MT{s:Ck}(t:s.ok):VC Sol.prog 52 xh [X0 s] (vi (S4 s)):=by
 refine ZV Sol.func52 follows Z2 Pt rfl ?_;have p:∀k,∀o∈s.obs k,Yx o.size o.ptrs=xy:=λk o n=>(t.ob k o n).1.2;have I:P s.o3<=1000000:=t.len 3;have J:P s.o4<=1000000:=t.len 4;have a:∀o∈s.o3,Yx o.size o.ptrs=xy:=p 3;have d:∀o∈s.o4,Yx o.size o.ptrs=xy:=p 4;have F:=SP a;have G:=SP d;have A:Y4 (.agg [.sl (s.o1.map ZH),.sl (s.o2.map ZH),.sl (s.o3.map ZH),.sl (s.o4.map ZH)]) (.int .i64 2) 4 1 xy=xk (.agg [.sl (s.o3.map ZH)]):=by simp[Y4]
 have B:Y4 (.agg [.sl (s.o1.map ZH),.sl (s.o2.map ZH),.sl (s.o3.map ZH),.sl (s.o4.map ZH)]) (.int .i64 3) 4 1 xy=xk (.agg [.sl (s.o4.map ZH)]):=by simp[Y4]
 simp[Hq];refine Ti (λ(i:Nat)=>[(2,.v (vi ((if 0<i then Yt s.o3 else 0)+(if 1<i then Yt s.o4 else 0):Nat))),(3,.v (vi ((i+3:Nat):Int)))]) (λi=>i<=2) (X1 3 5) 0 Z1 Z1 ?_;rintro i K;have q:i=0\/i=1\/i=2:=Z0;obtain rfl|rfl|rfl:=q;simp[Vy,A];refine VB 5 (P s.o3) (λj=>[(2,.v (vi (Yt (s.o3.take j)))),(5,.v (vi j))]) (λ_=>True) (by simp[Yt]) (λi=>Z1) trivial ?_;rintro j H-;have w:=Zz ((j:Int)+1) Z0 Z0;by_cases h:j<P s.o3;have x:s.o3[j]?=xk s.o3[j]:=ZcM h;have f:=a _ (Zd3 h);have u:=Nh x;generalize s.o3[j]=o at*;have r:Yt (s.o3.take j)<=256*P s.o3:=by
  refine Zdm (SP λo n=>a o (ZdE n)) ?_;simp;omega
 obtain⟨g1,g2,C,D⟩:=YG.1 f;obtain⟨z,y⟩:=Zd7 g1;have w1:=Zz (1+(z:Int)) Z0 Z0;have w2:=Zz ((Yt (s.o3.take j):Int)+(1+z)) Z0 Z0;cases l:o.gone;have g:WF o=1+z:=by simp[WF,l,y]
 simp_all;have g:WF o=0:=by simp[WF,l]
 simp_all;have:j=P s.o3:=Z0;subst this;rw[Zek];simp[X3,Zz];exact⟨1,Z0,Z1,ZcH⟩;simp[VU,B];refine VB 5 (P s.o4) (λj=>[(2,.v (vi (Yt s.o3+Yt (s.o4.take j):Nat))),(5,.v (vi j))]) (λ_=>True) (by simp[Yt]) (λi=>Z1) trivial ?_;rintro j H-;have w:=Zz ((j:Int)+1) Z0 Z0;by_cases h:j<P s.o4;have x:s.o4[j]?=xk s.o4[j]:=ZcM h;have f:=d _ (Zd3 h);have u:=Nh x;generalize s.o4[j]=o at*;have r:Yt (s.o4.take j)<=256*P s.o4:=by
  refine Zdm (SP λo n=>d o (ZdE n)) ?_;simp;omega
 obtain⟨g1,g2,C,D⟩:=YG.1 f;obtain⟨z,y⟩:=Zd7 g1;have w1:=Zz (1+(z:Int)) Z0 Z0;have w2:=Zz ((Yt s.o3:Int)+Yt (s.o4.take j)+(1+z)) Z0 Z0;cases l:o.gone;have g:WF o=1+z:=by simp[WF,l,y]
 simp_all;omega;have g:WF o=0:=by simp[WF,l]
 simp_all;have:j=P s.o4:=Z0;subst this;rw[Zek];simp[X3,Zz];exact⟨2,Z0,Z1,ZcH⟩;simp[S4]
def RI(s:Ck):Bool:=decide ((P s.h.low:Int)+P s.h.high+S4 s<=s.h.cap)
def Z7o{s:Ck}(a:s.ok):S4 s<=512*1000000:=by
 have f:=SP (l:=s.o3) λo d=>(a.ob 3 o d).1.2;have g:=SP (l:=s.o4) λo d=>(a.ob 4 o d).1.2;have h:P s.o3<=1000000:=a.len 3;have j:P s.o4<=1000000:=a.len 4;grind [S4]
def Z5E{s:Ck}(a:s.ok):VC Sol.prog 110 xh [X0 s] (.bool (RI s)):=by
 refine ZV Sol.func110 follows Z2 OM rfl ?_;have d:=Z7o a;have f:=a.h.low;have g:=a.h.high;have w1:=Zz ((P s.h.low:Int)+P s.h.high) Z0 Z0;have w2:=Zz ((P s.h.low:Int)+P s.h.high+S4 s) Z0 Z0;simp[GY];refine Zy (MT a) Z1 ?_;simp[w1,w2,RI]
end Vm
namespace Vm
open Go Go.Proofs
def Wt(lm:List (Int×(Int×Int)))(ws:List Int):Nat->Nat->List (Int×Int)->List (Int×Int)
 |0,_,a=>a
 |f+1,i,a=>
  match ws[i]? with
  |none=>a
  |some w=>if(adr w).2=0 then(match ZX lm (adr w).1 with|none=>a|some sh=>Wt lm ws f (i+1+sh.1.toNat) (a++[sh]))
   else if(ZP w).2.2=0 then Wt lm ws f (i+1+(ZP w).1.toNat) a else a
def Vx(lm:List (Int×(Int×Int)))(ws:List Int):List (Int×Int):=Wt lm ws (P ws+1) 0 []
def Es{α:Type}{l:List (Int×α)}{k:Int}{x:α}(h:ZX l k=xk x):(k,x)∈l:=by
 unfold ZX at h;obtain⟨y,a,rfl⟩:=ZcO.1 h;grind
def Z6k{s:Ck}(D:∀x∈s.lm,Yx x.2.1 x.2.2=xy){ws:List Int}(K:P ws<=1000000)(J:∀w∈ws,ZA w):
  VC Sol.prog 120 xh [X0 s,.sl (ws.map vu)] (.sl ((Vx s.lm ws).map XZ)):=by
 refine ZV Sol.func120 follows Z2 OQ rfl ?_;have C:∀k,U4 (.i .u64) (Ya XZ s.lm) (vu k) (.agg [vi 0,vi 0]) xy=match ZX s.lm k with
  |some x=>xk (.tup [XZ x,.bool xy])
  |none=>xk (.tup [.agg [vi 0,vi 0],.bool xh]):=λk=>by grind [Rn,ZX]
 have B:(ZQ s)[22]?=xk (Ya XZ s.lm):=rfl;simp[H2]
 refine Ti (λ(p:Nat×List (Int×Int))=>[(3,.v (.sl (p.2.map XZ))),(4,.v (vi p.1))])
  (λp=>p.1<=P ws+256/\P p.2<=p.1/\∃f,P ws<f+p.1/\0<f/\Vx s.lm ws=Wt s.lm ws f p.1 p.2) (X1 4 (P ws)) (0,[]) Z1 ⟨Z1,Z1,P ws+1,Z1,Z0,rfl⟩ ?_
 rintro⟨i,g⟩ ⟨I,r,f,G,H,a⟩;simp only at I r G a;cases f with
 |zero=>omega
 |succ f=>
 by_cases d:i<P ws;have y:ws[i]?=xk ws[i]:=ZcM d;have F:=J _ (Zd3 d);generalize ws[i]=w at*;simp only[Wt,y]at a;have u:P g+1<=Y5:=Zci;simp[d,y,Yb y,X3];refine Zy (J6 F) Z1 ?_;by_cases A:(adr w).2=0;rw[if_pos A]at a;simp[A,B,C];cases t:ZX s.lm (adr w).1 with
 |none=>
  simp_all
 |some q=>
  rw[t]at a;simp only at a;have h:0<=q.1/\q.1<=255/\0<=q.2/\q.2<=q.1:=YG.1 (D _ (Es t));obtain⟨z,o⟩:=Zd7 h.1;have l:=Zz (1+(z:Int)) Z0 Z0;have n:=Zz ((i:Int)+(1+z)) Z0 Z0;rw[o,Zda]at a;simp[u,o,l,n];refine⟨i+1+z,g++[q],⟨Z0,ZbV,f,Z0,?_,a⟩,⟨by simp[XZ,o],Z0⟩,ZcF⟩;omega
 rw[if_neg A]at a;simp[A,y,Yb y,d,X3];refine Zy (MK F) Z1 ?_;by_cases j:(ZP w).2.2=0;rw[if_pos j]at a;have h:=YG.1 (C1 j);obtain⟨z,o⟩:=Zd7 h.1;have l:=Zz (1+(z:Int)) Z0 Z0;have n:=Zz ((i:Int)+(1+z)) Z0 Z0;rw[o,Zda]at a;simp[j,o,l,n];refine⟨i+1+z,g,⟨Z0,Z0,f,Z0,?_,a⟩,⟨rfl,Z0⟩,ZcF⟩;omega;simp_all;simp_all[ZdY,Wt]
end Vm
namespace Vm
open Go Go.Proofs
def Wa(pm:List (Int×Int)):List Ob->List (Int×Bool)->Option (List (Int×Bool))
 | [],m=>xk m
 |o::l,m=>if o.gone=xy then(if(ZX pm o.target).getD 0=1/\(ZX m o.target).getD xh=xh then Wa pm l (XD m o.target xy)else xw)else Wa pm l m
def R1(s:Ck):Bool:= !s.h.cycle||match(Wa s.pm s.o3 []).bind (Wa s.pm s.o4)with
 |none=>xh
 |some m=>decide (P m=P s.o1)
def G6{l:List (Int×Bool)}{k:Int}{x:Bool}:Us (.i .u64) (Ya .bool l) (vu k) (.bool x)=xk (Ya .bool (XD l k x)):=JO
def Qr{l:List (Int×Bool)}{k:Int}:U4 (.i .u64) (Ya .bool l) (vu k) (.bool xh) xh=xk (.bool ((ZX l k).getD xh)):=by
 grind [Rn,ZX]
def Qs{l:List (Int×Int)}{k:Int}:U4 (.i .u64) (Ya vi l) (vu k) (vi 0) xh=xk (vi ((ZX l k).getD 0)):=by
 grind [Rn,ZX]
def Z39{α:Type}(f:α->V):Ya f []=.mp 0 [] []:=rfl
def Z04{s:Ck}(t:s.ok):VC Sol.prog 106 xh [X0 s] (.bool (R1 s)):=by
 refine ZV Sol.func106 follows Z2 OI rfl ?_;have I:P s.o3<=1000000:=t.len 3;have J:P s.o4<=1000000:=t.len 4;have A:∀o∈s.o3,ZA o.target:=λo z=>(t.ob 3 o z).2;have B:∀o∈s.o4,ZA o.target:=λo z=>(t.ob 4 o z).2;have G:Y4 (.agg [.sl (s.o1.map ZH),.sl (s.o2.map ZH),.sl (s.o3.map ZH),.sl (s.o4.map ZH)]) (.int .i64 2) 4 1 xy=xk (.agg [.sl (s.o3.map ZH)]):=by simp[Y4]
 have H:Y4 (.agg [.sl (s.o1.map ZH),.sl (s.o2.map ZH),.sl (s.o3.map ZH),.sl (s.o4.map ZH)]) (.int .i64 3) 4 1 xy=xk (.agg [.sl (s.o4.map ZH)]):=by simp[Y4]
 have F:Y4 (.agg [.sl (s.o1.map ZH),.sl (s.o2.map ZH),.sl (s.o3.map ZH),.sl (s.o4.map ZH)]) (.int .i64 0) 4 1 xy=xk (.agg [.sl (s.o1.map ZH)]):=by simp[Y4]
 have k:(ZQ s)[21]?=xk (Ya vi s.pm):=rfl;have y:=(Z39 V.bool).symm;unfold R1;cases D:s.h.cycle;simp[Ao,D];simp[Ao,D,y]
 refine Ti (λ(p:Nat×List (Int×Bool))=>[(3,.v (Ya .bool p.2)),(4,.v (vi ((p.1+3:Nat):Int)))])
  (λp=>(p.1=0/\p.2=[])\/(p.1=1/\Wa s.pm s.o3 []=xk p.2)\/(p.1=2/\(Wa s.pm s.o3 []).bind (Wa s.pm s.o4)=xk p.2)) (X1 4 5) (0,[]) Z1 Z1 ?_
 rintro⟨i,m⟩ (⟨rfl,rfl⟩|⟨rfl,x⟩|⟨rfl,x⟩);simp[Vy,G];refine Ti (λ(p:Nat×List (Int×Bool))=>[(3,.v (Ya .bool p.2)),(6,.v (vi p.1))]) (λp=>p.1<=P s.o3/\Wa s.pm s.o3 []=Wa s.pm (s.o3.drop p.1) p.2) (X1 6 (P s.o3)) (0,[]) Z1 Z1 ?_;rintro⟨j,r⟩ ⟨w,a⟩;simp only at w a;have d:=Zz ((j:Int)+1) Z0 Z0;by_cases g:j<P s.o3;have f:s.o3[j]?=xk s.o3[j]:=ZcM g;have u:=ZdG g;have C:=A _ (Zd3 g);generalize s.o3[j]=o at*;rw[u,Wa]at a;cases l:o.gone;rw[l]at a;rw[if_neg Z1]at a;simp[X3,g,f,Yb f,l,d];exact⟨j+1,r,⟨Z0,a⟩,⟨rfl,Z0⟩,ZcF⟩;rw[l]at a;rw[if_pos rfl]at a;by_cases n:(ZX s.pm o.target).getD 0=1;cases q:(ZX r o.target).getD xh;rw[if_pos ⟨n,q⟩]at a;simp[X3,g,f,Yb f,l,d,k,Qs,Qr,Wh,V.flatc,n,q,G6];exact⟨j+1,XD r o.target xy,⟨Z0,a⟩,⟨rfl,Z0⟩,ZcF⟩;rw[if_neg (by simp[q])]at a;simp[X3,g,f,Yb f,l,d,k,Qs,Qr,Wh,V.flatc,n,q,a];rw[if_neg (by simp[n])]at a;simp[X3,g,f,Yb f,l,d,k,Qs,Qr,Wh,V.flatc,n,a];have:j=P s.o3:=Z0;subst this;rw[List.drop_length,Wa]at a;simp[Zz];exact⟨1,r,by simp[a],Z1,ZcH⟩;simp[VU,H];refine Ti (λ(p:Nat×List (Int×Bool))=>[(3,.v (Ya .bool p.2)),(6,.v (vi p.1))]) (λp=>p.1<=P s.o4/\Wa s.pm s.o4 m=Wa s.pm (s.o4.drop p.1) p.2) (X1 6 (P s.o4)) (0,m) Z1 Z1 ?_;rintro⟨j,r⟩ ⟨w,a⟩;simp only at w a;have d:=Zz ((j:Int)+1) Z0 Z0;by_cases g:j<P s.o4;have f:s.o4[j]?=xk s.o4[j]:=ZcM g;have u:=ZdG g;have C:=B _ (Zd3 g);generalize s.o4[j]=o at*;rw[u,Wa]at a;cases l:o.gone;rw[l]at a;rw[if_neg Z1]at a;simp[X3,g,f,Yb f,l,d];exact⟨j+1,r,⟨Z0,a⟩,⟨rfl,Z0⟩,ZcF⟩;rw[l]at a;rw[if_pos rfl]at a;by_cases n:(ZX s.pm o.target).getD 0=1;cases q:(ZX r o.target).getD xh;rw[if_pos ⟨n,q⟩]at a;simp[X3,g,f,Yb f,l,d,k,Qs,Qr,Wh,V.flatc,n,q,G6];exact⟨j+1,XD r o.target xy,⟨Z0,a⟩,⟨rfl,Z0⟩,ZcF⟩;rw[if_neg (by simp[q])]at a;simp[X3,g,f,Yb f,l,d,k,Qs,Qr,Wh,V.flatc,n,q,x,a];rw[if_neg (by simp[n])]at a;simp[X3,g,f,Yb f,l,d,k,Qs,Qr,Wh,V.flatc,n,x,a];have:j=P s.o4:=Z0;subst this;rw[List.drop_length,Wa]at a;simp[Zz];exact⟨2,r,ZbT,Z1,ZcH⟩;simp[SM,Vy,F];grind
end Vm
namespace Vm
open Go Go.Proofs
def SQ:Prop:=∀a:List Int,P a<=1000000->(∀w∈a,ZA w)->VC Sol.prog 117 xy [.sl (a.map vu)] (.tup [.sl ((ZN a [] xh).1.map ZH),vi (ZN a [] xh).2])
def SR:Prop:=∀(d:List Int) (a:List (Int×Int)),P d<=1000000->P a<=1000000->(∀w∈d,ZA w)->(∀x∈a,Yx x.1 x.2=xy)->
 VC Sol.prog 119 xy [.sl (d.map vu),.sl (a.map XZ)] (.tup [.sl ((ZN d a xy).1.map ZH),vi (ZN d a xy).2])
def Xj(s:Ck)(k:Int):List Ob×Int:=if k<=2 then ZN (Zx s.h k) [] xh else ZN (Zx s.h k) (Vx s.lm (Zx s.h k)) xy
def WE:List Int->Ck->Bool×Ck
 | [],s=>(xy,s)
 |k::l,s=>if(Xj s k).2=0 then WE l (XI s k (Xj s k).1)else(xh,s)
def XM(s:Ck):Bool×Ck:=WE [1,2,3,4] s
def Ru(s:Ck)(k:Int)(l:List Ob):(XI s k l).h=s.h:=Z4S s k l
def Z4P{α:Type}{l:List (Int×α)}{k:Int}{x:α}{y:Int×α}(h:y∈XD l k x):y=(k,x)\/y∈l:=by
 grind [XD,List.mem_or_eq_of_mem_set]
def Qx{h:Hp}{k:Int}:∀ {l:List Ob} {m:List (Int×(Int×Int))},(∀o∈l,Yx o.size o.ptrs=xy)->(∀x∈m,Yx x.2.1 x.2.2=xy)->∀x∈X7 h k m l,Yx x.2.1 x.2.2=xy
 | [],m,_,a=>a
 |o::l,m,f,a=>by
  rw[X7];refine Qx (λp g=>f p (Zdn _ g)) ?_;split;intro x d;obtain rfl|d:=Z4P d;simp_all;grind;exact a
def KP{s:Ck}(a:s.h.ok){k:Int}:(∀o∈(Xj s k).1,RY (P (Zx s.h k)) o/\ZA o.target)/\(Xj s k).1.length<=P (Zx s.h k):=by
 unfold Xj;split;exact⟨QX (XB a k).1,QY⟩;exact⟨QX (XB a k).1,QY⟩
def Bx{lm:List (Int×(Int×Int))}{ws:List Int}:∀ {f i:Nat} {a:List (Int×Int)},P a<=i->P a<=P ws->P (Wt lm ws f i a)<=P ws
 |0,i,a,_,h=>h
 |f+1,i,a,j,h=>by
  rw[Wt];cases g:ws[i]? with
  |none=>exact h
  |some w=>
   have d:i<P ws:=(ZcN.1 g).1;simp only;split;split;exact h;exact Bx ZbV ZbV;split;exact Bx Z0 h;exact h
def Mc{lm:List (Int×(Int×Int))}{ws:List Int}:P (Vx lm ws)<=P ws:=Bx Z1 Z1
def yA{lm:List (Int×(Int×Int))}{ws:List Int}(d:∀x∈lm,Yx x.2.1 x.2.2=xy):∀ {f i:Nat} {a:List (Int×Int)},(∀x∈a,Yx x.1 x.2=xy)->∀x∈Wt lm ws f i a,Yx x.1 x.2=xy
 |0,i,a,h=>h
 |f+1,i,a,h=>by
  rw[Wt];cases g:ws[i]? with
  |none=>exact h
  |some w=>
   simp only;split;split;exact h;rename_i k j;refine yA d ?_;intro x g;obtain g|g:=Zdd.1 g;grind;simp at g;subst g;exact d _ (Es j);split;exact yA d h;exact h
def yQ:IntKind.i64.wrap 4=4:=by decide
def Z7v(F:SQ)(B:SR){s:Ck}(G:s.h.ok)(D:∀x∈s.lm,Yx x.2.1 x.2.2=xy):V1 Sol.prog 105 [.mem Le] [.agg (ZQ s)] (.tup [.bool (XM s).1,.agg (ZQ (XM s).2)]):=by
 refine QU Sol.func105 follows Z2 OH Z2 ?_;simp[GU];refine Ti (λ(p:Nat×Ck)=>[(0,.m (ZQ p.2)),(3,.v (vi p.1))]) (λp=>p.1<=4/\p.2.h=s.h/\(∀x∈p.2.lm,Yx x.2.1 x.2.2=xy)/\XM s=WE ([1,2,3,4].drop p.1) p.2) (X1 3 4) (0,s) Z1 ⟨Z1,rfl,D,rfl⟩ ?_;rintro⟨i,q⟩ ⟨H,A,n,f⟩;simp only at H A n f;have d:q.h.ok:=A▸G;have C:i=0\/i=1\/i=2\/i=3\/i=4:=Z0;have j:=λk I=>N6 (s:=q) (k:=k) I;have w:=λk=>Z6k (s:=q) n (XB d k).2 (XB d k).1;obtain rfl|rfl|rfl|rfl|rfl:=C;replace j:=j 1 Z0;have st:=KP d (k:=1);have t:=zp (s:=q) d (k:=1) Z0 (l:=(Xj q 1).1) (Zdm st.2 (XB d 1).2);have k1:=F _ (XB d 1).2 (XB d 1).1;have g:=Qx (h:=q.h) (k:=1) (l:=(Xj q 1).1) (m:=q.lm) (λo y=>(st.1 o y).1.2) n;replace f:XM s=WE (1:: [2,3,4]) q:=f;rw[WE]at f;have r:Xj q 1=ZN (Zx q.h 1) [] xh:=rfl;rw[<-r]at k1;generalize Xj q 1=z at*;obtain⟨l,e⟩:=z;simp only at k1 t f g st;unfold X0 ZQ at j;unfold ZQ at t;simp[ZQ,UG,Vy,VU,yQ];refine Zy j Z1 ?_;simp;refine Zy k1 Z1 ?_;simp;by_cases u:e=0;rw[if_pos u]at f;simp[u];refine VE t ?_;simp[Zz];exact⟨1,XI q 1 l,⟨Z0,by rw[Ru,A],λa b c h=>g (a,b,c) h,f⟩,⟨Z1,rfl⟩,ZcH⟩;simp_all;replace j:=j 2 Z0;have st:=KP d (k:=2);have t:=zp (s:=q) d (k:=2) Z0 (l:=(Xj q 2).1) (Zdm st.2 (XB d 2).2);have k1:=F _ (XB d 2).2 (XB d 2).1;have g:=Qx (h:=q.h) (k:=2) (l:=(Xj q 2).1) (m:=q.lm) (λo y=>(st.1 o y).1.2) n;replace f:XM s=WE (2:: [3,4]) q:=f;rw[WE]at f;have r:Xj q 2=ZN (Zx q.h 2) [] xh:=rfl;rw[<-r]at k1;generalize Xj q 2=z at*;obtain⟨l,e⟩:=z;simp only at k1 t f g st;unfold X0 ZQ at j;unfold ZQ at t;simp[ZQ,UG,Vy,VU,yQ];refine Zy j Z1 ?_;simp;refine Zy k1 Z1 ?_;simp;by_cases u:e=0;rw[if_pos u]at f;simp[u];refine VE t ?_;simp[Zz];exact⟨2,XI q 2 l,⟨Z0,by rw[Ru,A],λa b c h=>g (a,b,c) h,f⟩,⟨Z1,rfl⟩,ZcH⟩;simp_all;replace j:=j 3 Z0;have st:=KP d (k:=3);have t:=zp (s:=q) d (k:=3) Z0 (l:=(Xj q 3).1) (Zdm st.2 (XB d 3).2);have k1:=B _ (Vx q.lm (Zx q.h 3)) (XB d 3).2 (Zdm Mc (XB d 3).2) (XB d 3).1 (yA n Z1);replace w:=w 3;have g:=Qx (h:=q.h) (k:=3) (l:=(Xj q 3).1) (m:=q.lm) (λo y=>(st.1 o y).1.2) n;replace f:XM s=WE (3:: [4]) q:=f;rw[WE]at f;have r:Xj q 3=ZN (Zx q.h 3) (Vx q.lm (Zx q.h 3)) xy:=rfl;rw[<-r]at k1;generalize Xj q 3=z at*;obtain⟨l,e⟩:=z;simp only at k1 t f g st;unfold X0 ZQ at j w;unfold ZQ at t;simp[ZQ,UG,Vy,VU,yQ];refine Zy j Z1 ?_;simp;refine Zy j Z1 ?_;simp;refine Zy w Z1 ?_;simp;refine Zy k1 Z1 ?_;simp;by_cases u:e=0;rw[if_pos u]at f;simp[u];refine VE t ?_;simp[Zz];exact⟨3,XI q 3 l,⟨Z0,by rw[Ru,A],λa b c h=>g (a,b,c) h,f⟩,⟨Z1,rfl⟩,ZcH⟩;simp_all;replace j:=j 4 Z0;have st:=KP d (k:=4);have t:=zp (s:=q) d (k:=4) Z0 (l:=(Xj q 4).1) (Zdm st.2 (XB d 4).2);have k1:=B _ (Vx q.lm (Zx q.h 4)) (XB d 4).2 (Zdm Mc (XB d 4).2) (XB d 4).1 (yA n Z1);replace w:=w 4;have g:=Qx (h:=q.h) (k:=4) (l:=(Xj q 4).1) (m:=q.lm) (λo y=>(st.1 o y).1.2) n;replace f:XM s=WE (4:: []) q:=f;rw[WE]at f;have r:Xj q 4=ZN (Zx q.h 4) (Vx q.lm (Zx q.h 4)) xy:=rfl;rw[<-r]at k1;generalize Xj q 4=z at*;obtain⟨l,e⟩:=z;simp only at k1 t f g st;unfold X0 ZQ at j w;unfold ZQ at t;simp[ZQ,UG,Vy,VU,yQ];refine Zy j Z1 ?_;simp;refine Zy j Z1 ?_;simp;refine Zy w Z1 ?_;simp;refine Zy k1 Z1 ?_;simp;by_cases u:e=0;rw[if_pos u]at f;simp[u];refine VE t ?_;simp[Zz];exact⟨4,XI q 4 l,⟨Z0,by rw[Ru,A],λa b c h=>g (a,b,c) h,f⟩,⟨Z1,rfl⟩,ZcH⟩;simp_all;replace f:XM s=(xy,q):=f;simp[f,ZQ]
end Vm
namespace Vm
open Go Go.Proofs
def Z7l{P:Program}{f:FuncId}{ks:List CK}{cs:List V}{r:V}(hv:VC P f xh [.ptr cs] r)(G:r.flatc=xy)(l:xq cs=xq ks)(u:cs.all V.one=xy)(D:ks.all (λk=> !(k==.dead))=xy):
  V1 P f [.mem ks] [.agg cs] (.tup [r,.agg cs]):=by
 obtain⟨O,Q⟩:=hv;refine⟨O,λB w h vs a R=> ?_⟩;obtain⟨a2,a1,C⟩:=R;obtain⟨tk,j,z⟩:=C 0 (.mem ks) (.agg cs) rfl rfl;simp only[W4]at j;rw[if_pos l]at j;simp only[ZcL]at j;subst j;obtain⟨b,M,T,q,K,Y,o⟩:=z;have n:∀(ks:List CK) (cs:List V),xq cs=xq ks->Yy [] (((ks.zip cs).map λy=>(y.1,E.c y.2)).map (·.2))=xk cs:=by
  intro ks;induction ks with
  |nil=>simp
  |cons k ks ih=>
   intro cs hl;obtain _|⟨c,cs⟩:=cs;simp at hl;simp_all
 have hz:eval [] (.pt xw (((ks.zip cs).map λy=>(y.1,E.c y.2)).map (·.2)))=xk (.ptr cs):=by
  simp only[eval,n ks cs l,ZcV,Kb,u,Zdv]
 have W:We ((ks.zip cs).map λy=>(y.1,E.c y.2))=xh:=by
  rw[We,ZfC];intro x L;obtain⟨y,A,rfl⟩:=Zd1.1 L;have:=ZcW.1 D y.1 (List.of_mem_zip A).1;simpa using this
 have a0:=JM (G':=λb=>h.F b\/∃t i,h.bl t i=xk b) q Y o W hz (λb d=>.inl d) λi b d=>.inr ⟨0,i,d⟩;refine Zgj (Q w (λb=>h.F b\/∃t i,h.bl t i=xk b) vs (λb d=> ?_) Z0 λi x L=> ?_) λe N X=> ?_;obtain d|⟨t,i,d⟩:=d;exact a.f_lt b d;exact(a.b_lt t i b d).2.1;grind;obtain⟨v,rfl,g,J⟩:=X;have p:=g.size;have U:Same h.F w N:=λb d=>g.block b (a.f_lt b d);have S:∀t i b,h.bl t i=xk b->N.heap[b]?=w.heap[b]? :=λt i b d=>g.block b (a.b_lt t i b d).2.1;have I:M.size=xq cs:=by
  have:=o.1;simp[l]at this;omega
 refine⟨v,r,[.agg cs],h,rfl,g.mono a.base,λb d=>g.block b (a.k_lt b d),⟨Zdm a.base p,λb d=>ZcY (a.f_lt b d) p,a.f_or,a.g_F,λt i b d=> ?_,a.inj,λb d=>ZcY (a.k_lt b d) p,a.k_bl,a.k_F⟩,rfl,J.flat G,⟨rfl,λi k y H Z A=> ?_⟩,rfl⟩;obtain⟨q1,q2,q3⟩:=a.b_lt t i b d;grind;cases i with
 |zero=>
  simp at H A;subst H;subst A;refine⟨.mem ((ks.zip cs).map λy=>(y.1,.c y.2)),by rw[W4,if_pos l],b,M,T,q,K,?_,o.keep U (λ_ d=>d) (λ_=>rfl) λi b d=>S 0 _ b d⟩;grind
 |succ i=>simp at H
end Vm
namespace Vm
open Go Go.Proofs
def UC:List FuncId:=[103,104,105,106,107,108,109,110]
def qS(f:FuncId):V:=.agg [.fn f]
def Z5M:VC Sol.prog 82 xh [] (.sl (UC.map qS)):=by
 refine ZV Sol.func82 follows Z2 PJ rfl ?_;simp[HI,UC,qS]
def TU(f:FuncId)(s:Ck):Bool×Ck:=
 if f=103 then(Sc s,s)else if f=104 then(RF s,s)else if f=105 then XM s
 else if f=106 then(R1 s,s)else if f=107 then(RL s,s)else if f=108 then(RP s,s)else if f=109 then(Rl s,s)else(RI s,s)
structure Ck.okk (s:Ck):Prop where
 ok:s.ok
 lm:∀x∈s.lm,Yx x.2.1 x.2.2=xy
def Ck.obs_put(s:Ck)(k:Int)(l:List Ob)(a:1<=k/\k<=4)(j:Int):(s.put k l).obs j=if j=k\/(k=4/\¬(j=1\/j=2\/j=3))then l else s.obs j:=by
 have:k=1\/k=2\/k=3\/k=4:=Z0;obtain rfl|rfl|rfl|rfl:=this<;>simp[Ck.put,Ck.obs]<;>(split<;>simp_all)<;>(grind)<;>(grind)
def Z3t{s:Ck}(d:s.okk){k:Int}(g:1<=k/\k<=4):(XI s k (Xj s k).1).okk:=by
 have st:=KP d.ok.h (k:=k);have l:=(XB d.ok.h k).2;have a:∀j,(XI s k (Xj s k).1).obs j=((s.put k (Xj s k).1).obs j):=λj=>rfl;refine⟨⟨by rw[Ru];exact d.ok.h,λj o f=> ?_,λj=> ?_⟩,Qx (λo f=>(st.1 o f).1.2) d.lm⟩;rw[Ru];rw[a,Ck.obs_put _ _ _ g]at f;split at f;rename_i h;have:Zx s.h j=Zx s.h k:=by
  obtain rfl|⟨rfl,h⟩:=h;rfl;simp_all[not_or,Zx]
 simp_all;exact d.ok.ob j o f;rw[a,Ck.obs_put _ _ _ g];split;omega;exact d.ok.len j
def MZ:∀ {l:List Int} {s:Ck},(∀k∈l,1<=k/\k<=4)->s.okk->(WE l s).2.okk/\(WE l s).2.h=s.h
 | [],s,_,a=>⟨a,rfl⟩
 |k::l,s,d,a=>by
  rw[WE];split;simp_all[MZ,Zdn,Z3t,Zdt,trans,Ru];simp_all
def Z7t{s:Ck}(a:s.okk):(XM s).2.okk/\(XM s).2.h=s.h:=MZ Z1 a
def IO{s:Ck}(a:s.okk){f:FuncId}:(TU f s).2.okk/\(TU f s).2.h=s.h:=by
 unfold TU;repeat' split
 all_goals first|exact⟨a,rfl⟩|exact Z7t a
def Z5L(j:SQ)(d:SR){s:Ck}(a:s.okk){f:FuncId}(g:f∈UC):V1 Sol.prog f [.mem Le] [.agg (ZQ s)] (.tup [.bool (TU f s).1,.agg (ZQ (TU f s).2)]):=by
 have go:∀ {f b},VC Sol.prog f xh [X0 s] (.bool b)->V1 Sol.prog f [.mem Le] [.agg (ZQ s)] (.tup [.bool b,.agg (ZQ s)]):=λh=>Z7l h rfl rfl rfl rfl;simp only[UC,Zd6,ZdS,Zf8]at g;obtain rfl|rfl|rfl|rfl|rfl|rfl|rfl|rfl:=g;exact go (Oz a.ok.h);exact go Z5z;exact Z7v j d a.ok.h a.lm;exact go (Z04 a.ok);exact go (Z6j a.ok);exact go (Z7g a.ok);exact go (Z2q a.ok);exact go (Z5E a.ok)
def Ro:List FuncId->Ck->Option Ck
 | [],s=>xk s
 |f::l,s=>if(TU f s).1=xy then Ro l (TU f s).2 else xw
def X6(h:Hp):Ck:= {h:=h,o1:=[],o2:=[],o3:=[],o4:=[],pm:=[],lm:=[]}
def V9(h:Hp):Option Ck:=Ro UC (X6 h)
def Fd{h:Hp}(a:h.ok):(X6 h).okk:=by
 have f:∀k,(X6 h).obs k=[]:=λk=>by simp[X6,Ck.obs]
 refine⟨⟨a,λk o g=> ?_,λk=> ?_⟩,λx d=>(by simp[X6]at d)⟩;simp_all;simp_all
def jL(w:SQ)(k:SR){h:Hp}(y:h.ok):VC Sol.prog 51 xh [ZL h] (.tup [match V9 h with|some s=>X0 s|none=>.nul 0,.bool (V9 h).isSome]):=by
 refine ZV Sol.func51 follows Z2 Ps rfl ?_;have k1:=Cv (h:=h);have B:=Z5M;have a:P UC=8:=rfl;unfold ZL at k1;simp[Ho];refine Zy k1 Z1 ?_;simp[YI,Zu];refine Zy B Z1 ?_;simp;refine Ti (λ(p:Nat×Ck)=>[(5,.m (ZQ p.2)),(6,.v (vi p.1))]) (λp=>p.1<=8/\p.2.okk/\V9 h=Ro (UC.drop p.1) p.2) (X1 6 8) (0,X6 h) ZcG ⟨Z1,Fd y,rfl⟩ ?_;rintro⟨i,q⟩ ⟨z,n,g⟩;simp only at z n g;have o:=Zz ((i:Int)+1) Z0 Z0;by_cases d:i<P UC;have t:UC[i]?=xk UC[i]:=ZcM d;have x:=ZdG d;have A:=Zd3 d;generalize UC[i]=f at*;rw[x,Ro]at g;have u:=Z5L w k n A;have l:=(IO n (f:=f)).1;rw[a]at d;have j:(i:Int)<8:=Z0;simp[X3,d,j,t,Yb t,a,qS,ZQ];unfold ZQ at u;refine VE u ?_;cases r:(TU f q).1;rw[if_neg (by simp[r])]at g;simp[g];rw[if_pos r]at g;simp[o];exact⟨i+1,(TU f q).2,⟨Z0,l,g⟩,⟨Z1,Z0⟩,ZcF⟩;have:i=8:=Z0;subst this;replace g:V9 h=xk q:=g;simp[a,g,ZQ,X0]
def FE:∀ {l:List FuncId} {s q:Ck},s.okk->Ro l s=xk q->q.okk/\q.h=s.h
 | [],s,q,a,h=>by simp only[Ro,ZcL]at h;subst h;exact⟨a,rfl⟩
 |f::l,s,q,a,h=>by
  rw[Ro]at h;split at h;have d:=IO a (f:=f);have g:=FE d.1 h;exact⟨g.1,g.2.trans d.2⟩;cases h
def Z2y{h:Hp}(a:h.ok){q:Ck}(d:V9 h=xk q):q.okk/\q.h=h:=FE (Fd a) d
def Ns(d:SQ)(a:SR){h:Hp}(f:h.ok):VC Sol.prog 25 xh [ZL h] (.bool (V9 h).isSome):=by
 refine ZV Sol.func25 follows Z2 P9 rfl ?_;simp[Hd];refine Zy (jL d a f) Z1 ?_;simp
def JX(h:Hp)(k:Int):List Ob×Int:=match V9 h with
 |some s=>if 1<=k/\k<=4 then(s.obs k,0)else([],1)
 |none=>([],1)
def Nq(l:SQ)(f:SR){h:Hp}(n:h.ok){k:Int}:VC Sol.prog 27 xh [ZL h,vi k] (.tup [.sl ((JX h k).1.map ZH),vi (JX h k).2]):=by
 refine ZV Sol.func27 follows Z2 Pa rfl ?_;simp[He];refine Zy (jL l f n) Z1 ?_;unfold JX;cases o:V9 h with
 |none=>simp
 |some s=>
  by_cases g:1<=k;by_cases j:k<=4;have:k=1\/k=2\/k=3\/k=4:=Z0;obtain rfl|rfl|rfl|rfl:=this<;>simp[Y4,SM,UG,Vy,VU,Ck.obs];have a:¬k<1:=Z0;have d:4<k:=Z0;simp[g,j,a,d];have a:k<1:=Z0;simp[g,a]
def yR(h:Hp):Nat:=match V9 h with
 |some s=>S4 s
 |none=>0
def Nu(f:SQ)(a:SR){h:Hp}(d:h.ok):VC Sol.prog 22 xh [ZL h] (vi (yR h)):=by
 refine ZV Sol.func22 follows Z2 P7 rfl ?_;simp[Hb];refine Zy (jL f a d) Z1 ?_;unfold yR;cases g:V9 h with
 |none=>simp
 |some s=>
  simp;refine Zy (MT (Z2y d g).1.ok) Z1 ?_;simp
end Vm
end
section
namespace Vm
open Go Go.Proofs
structure Stands (ws:List Int) (old:Bool) (o:Ob):Prop where
 nat:0<=o.at_
 shape:Yx o.size o.ptrs=xy
 fits:o.at_+1+o.size<=P ws
 slots:XG ((ws.drop (o.at_.toNat+1)).take o.size.toNat) o.gone o.ptrs 0=xy
 word:∃w,ws[o.at_.toNat]?=xk w/\(if o.gone then old=xy/\(adr w).2=0/\o.target=(adr w).1 else(old=xy->¬(adr w).2=0)/\ZP w=(o.size,o.ptrs,0)/\o.target=0)
def Tiles(ws:List Int)(old:Bool):Nat->List Ob->Prop
 |a,[]=>P ws<=a
 |a,o::l=>o.at_=a/\Stands ws old o/\Tiles ws old (a+1+o.size.toNat) l
def Z3w{ws:List Int}{shs:List (Int×Int)}{old:Bool}{a g t:Nat}{w:Int}{o:Ob}(k:ws[a]?=xk w)(f:XT shs old a g w=xk (o,t))(h:¬(P ws:Int)<a+1+o.size)
  (j:¬XG ((ws.drop (a+1)).take o.size.toNat) o.gone o.ptrs 0=xh):o.at_=a/\Stands ws old o:=by
 have d:=zt f;refine⟨d.2,?_,d.1,?_,?_,w,?_,?_⟩;omega;omega;simp_all;simp_all;unfold XT at f;grind
def MX{ws:List Int}{shs:List (Int×Int)}{old:Bool}:∀(f a j:Nat) (d l:List Ob),Xi ws shs old f a j d=(l,0)->∃r,l=d++r/\Tiles ws old a r
 |0,_,_,_,_,h=>by simp[Xi]at h
 |f+1,a,j,d,l,h=>by
  unfold Xi at h;split at h;rename_i p;split at h;grind;simp only[ZcZ,and_true]at h;subst h;exact⟨[],Z1,Zfk.1 p⟩;rename_i w x;split at h;grind;rename_i o t q;split at h;grind;rename_i k;split at h;grind;rename_i n;obtain⟨r,rfl,u⟩:=MX f _ _ _ _ h;have g:=Z3w x q k n;exact⟨o::r,Z1,g.1,g.2,u⟩
def S5{ws:List Int}{shs:List (Int×Int)}{old:Bool}{l:List Ob}(h:ZN ws shs old=(l,0)):Tiles ws old 0 l:=by
 obtain⟨r,a,d⟩:=MX _ _ _ _ _ h;simp_all
def Tiles.stands{ws:List Int}{old:Bool}:∀ {a:Nat} {l:List Ob},Tiles ws old a l->∀o∈l,Stands ws old o/\(a:Int)<=o.at_
 |_,[],_,_,h=>Zcq
 |a,o::l,h,x,d=>by
  have f:=YG.1 h.2.1.shape;obtain rfl|d:=Zd6.1 d;exact⟨h.2.1,by rw[h.1];omega⟩;have:=Tiles.stands h.2.2 x d;grind
def Tiles.apart{ws:List Int}{old:Bool}:∀ {a:Nat} {l:List Ob},Tiles ws old a l->∀o∈l,∀q∈l,o=q\/o.at_+1+o.size<=q.at_\/q.at_+1+q.size<=o.at_
 |_,[],_,_,h,_,_=>Zcq
 |a,x::l,h,o,f,q,d=>by
  have g:=YG.1 h.2.1.shape;have e:=h.1;obtain rfl|f:=Zd6.1 f;obtain rfl|d:=Zd6.1 d;simp;have:=(Tiles.stands h.2.2 q d).2;omega;obtain d|d:=Zd6.1 d;have:=(Tiles.stands h.2.2 o f).2;grind;exact Tiles.apart h.2.2 o f q d
structure RightH (h:Hp) (p:Pts):Prop where
 parts:Xh h=xk p
 num:T7 h=xy
 ok:TT h p=xy
 low:Tiles h.low xh 0 p.low
 high:Tiles h.high xh 0 p.high
 old:Tiles h.old xy 0 p.old
 far:Tiles h.far xy 0 p.far
def Z5A{h:Hp}(o:XE h=xy):∃p,RightH h p:=by
 obtain⟨p,a,n,j⟩:=Z5B o;refine⟨p,a,j,n,?_,?_,?_,?_⟩;all_goals
  clear j;unfold Xh at a;dsimp only at a;split at a;cases a;rename_i g;split at a;cases a;rename_i c2;cases a;have c3:(ZN h.low [] xh).2=0/\(ZN h.high [] xh).2=0:=by
   refine⟨ZdM λf=>g (.inl f),ZdM λf=>g (.inr f)⟩
  have c4:∀x:Int,¬x≠0->x=0:=λx d=>ZdM d;have k:=c4 _ (λd=>c2 (.inr (.inr (.inl d))));have l:=c4 _ (λd=>c2 (.inr (.inr (.inr d))));first|exact S5 (Zf7 rfl c3.1)|exact S5 (Zf7 rfl c3.2)|exact S5 (Zf7 rfl k)|exact S5 (Zf7 rfl l)
def RightH.tiles{h:Hp}{p:Pts}(r:RightH h p){k:Int}(a:1<=k/\k<=4):Tiles (Zx h k) (decide (2<k)) 0 (p.at k):=by
 have:k=1\/k=2\/k=3\/k=4:=Z0;obtain rfl|rfl|rfl|rfl:=this;exact r.low;exact r.high;exact r.old;exact r.far
def RightH.lay{h:Hp}{p:Pts}(r:RightH h p):ZG (Zu h)=xy:=by
 have:=r.num;simp_all[T7,ZcP]
def Y2(l:Ly)(k a:Int):Int:=2*(fstL l k+a)+1
theorem UM{l:Ly}(d:ZG l=xy){k a:Int}(f:0<=a):adr (Y2 l k a)=(fstL l k+a,0):=by
 have:=WH d k;unfold adr Y2;grind
theorem S8{l:Ly}(g:ZG l=xy){k a:Int}(f:1<=k/\k<=4)(d:0<=a/\a<YR l k):ZY l k a=(fstL l k+a,0):=by
 simp_all[ZY,if_neg]
theorem Qc{l:Ly}(g:ZG l=xy){k a:Int}(j:1<=k/\k<=4)(d:0<=a/\a<YR l k):Y9 l (fstL l k+a)=(k,a,0):=by
 have h:=VS.1 g;have n:=yN g;unfold Y9 YW;rw[if_neg (by simp[g])];simp only[ZcP,Zd8];have f:k=1\/k=2\/k=3\/k=4:=Z0;obtain rfl|rfl|rfl|rfl:=f;grind;simp only[fstL,YR]at d⊢;grind;simp only[fstL,YR]at d⊢;grind;simp only[fstL,YR]at d⊢;grind
end Vm
namespace Vm
open Go Go.Proofs
def Z0H{g:Hp}(a:ZG (Zu g)=xy):fwd g 0=(0,g,0):=by simp[fwd,a]
theorem Km{l:Ly}(f:ZG l=xy){k a:Int}(d:0<=a):¬Y2 l k a=0:=by
 grind [WH,Y2]
def fwd_here{g:Hp}(h:ZG (Zu g)=xy){k a:Int}(f:1<=k/\k<=2)(d:0<=a/\a< P (Zx g k)):fwd g (Y2 (Zu g) k a)=(Y2 (Zu g) k a,g,0):=by
 grind [Km,UM,Qc,UD,fwd]
def fwd_gone{g:Hp}(d:ZG (Zu g)=xy){k:Int}{a:Nat}(p:3<=k/\k<=4){u:Int}(f:(Zx g k)[a]?=xk u)(h:(adr u).2=0):fwd g (Y2 (Zu g) k a)=(u,g,0):=by
 have q:a< P (Zx g k):=(ZcN.1 f).1;have j:=Km d (k:=k) (a:=(a:Int)) Z0;have l:=UM d (k:=k) (a:=(a:Int)) Z0;have n:=Qc d (k:=k) (a:=(a:Int)) Z0 (by rw[UD Z0];omega);have o:(Zx g k).getD a 0=u:=by simp[List.getD,f]
 unfold fwd;simp[-List.getD_eq_getElem?_getD,d,j,l,n,show ¬k<3 by omega,o,h]
def Ye(g:Hp)(k:Int)(a n:Nat):Hp:=Xf (Xk g k a n) k ((zr (Zx g k) a n).set a (Y2 (Zu g) 1 (P g.low)))
def Qv{g:Hp}{k:Int}{a n:Nat}(d:a+n<=P (Zx g k)):Zu (Xk g k a n)= {Zu g with low:=(P g.low+n:Nat)}:=by
 simp_all[Zu,Xk,Ly.mk.injEq,true_and,and_true]
theorem FZ{g:Hp}(d:ZG (Zu g)=xy){k:Int}{a n:Nat}(f:a+n<=P (Zx g k))(l:(n:Int)<=Xl (Zu g)):ZG (Zu (Xk g k a n))=xy:=by
 rw[Qv f];have h:=VS.1 d;have e:Xl (Zu g)=(Zu g).cap- (Zu g).low- (Zu g).high:=by unfold Xl;rw[d];rfl
 have j:(Zu g).low=P g.low:=rfl;grind [VS]
def A0{g:Hp}{k:Int}(f:3<=k/\k<=4){a n:Nat}(d:a+n<=P (Zx g k)):Zu (Ye g k a n)= {Zu g with low:=(P g.low+n:Nat)}:=by
 rw[<-Qv d];unfold Ye;apply Cc;rw[List.length_set,yW];have:k=3\/k=4:=Z0;obtain rfl|rfl:=this<;>rfl
def Z36{g:Hp}(j:ZG (Zu g)=xy){k:Int}(f:3<=k/\k<=4){a n:Nat}(d:a+n<=P (Zx g k))(h:(n:Int)<=Xl (Zu g)):ZG (Zu (Ye g k a n))=xy:=by
 rw[A0 f d,<-Qv d];grind [FZ]
def Z5l{g:Hp}{k:Int}(d:3<=k/\k<=4){a n:Nat}(f:a+n<=P (Zx g k))(j b:Int):Y2 (Zu (Ye g k a n)) j b=Y2 (Zu g) j b:=by
 rw[A0 d f];rfl
def fwd_wait{g:Hp}(h:ZG (Zu g)=xy){k:Int}{a:Nat}(C:3<=k/\k<=4){u:Int}(B:(Zx g k)[a]?=xk u)(q:¬(adr u).2=0){n:Nat}{pt:Int}(p:ZP u=((n:Int),pt,0))
  (j:a+(n+1)<=P (Zx g k)) (A:((n+1:Nat):Int)<=Xl (Zu g)):fwd g (Y2 (Zu g) k a)=(Y2 (Zu g) 1 (P g.low),Ye g k a (n+1),0):=by
 have r:=Km h (k:=k) (a:=(a:Int)) Z0;have t:=UM h (k:=k) (a:=(a:Int)) Z0;have w:=Qc h (k:=k) (a:=(a:Int)) Z0 (by grind [UD]);have x:(Zx g k).getD a 0=u:=by simp[List.getD,B]
 have f:=FZ h j A;have y:ZY (Zu (Xk g k a (n+1))) 1 (P g.low)=(fstL (Zu g) 1+P g.low,0):=by
  have:=S8 f (k:=1) (a:=(P g.low:Int)) Z0 (by rw[Qv j];simp only[YR,Zdv];omega);rw[this,Qv j];rfl
 have d:=WH f 1;rw[Qv j]at d;simp only[YR,Zdv]at d;have l:fstL {Zu g with low:=(P g.low+(n+1):Nat)} 1=fstL (Zu g) 1:=rfl;rw[l]at d;have z:XC (fstL (Zu g) 1+P g.low)=(Y2 (Zu g) 1 (P g.low),0):=by
  unfold XC Y2;rw[if_neg Z0]
 unfold fwd;have o:¬k<3:=Z0;simp only[h,r,t,w,if_neg o,Zem,Zdu,ne_eq,Zgo,Zda,x,q,p];unfold Ts;rw[if_neg Z0,if_neg Z0];simp only[y,z];rfl
theorem Cj{ws:List Int}{a:Nat}:∀(n j:Nat),j<a\/a+n<=j->(zr ws a n)[j]?=ws[j]?
 |0,_,_=>rfl
 |n+1,j,h=>by
  unfold zr;rw[Zen Z0];exact Cj n j Z0
def A3{g:Hp}{k:Int}(o:3<=k/\k<=4){a n:Nat}(p:0<n){j:Int}(l:3<=j/\j<=4){b:Nat}(h:j≠k\/b<a\/a+n<=b):(Zx (Ye g k a n) j)[b]?=(Zx g j)[b]? :=by
 have f:k=3\/k=4:=Z0;have d:j=3\/j=4:=Z0;obtain rfl|rfl:=f<;>obtain rfl|rfl:=d<;>simp only[Ye,Xk,Z7w,Z7x,zR,zS]
 grind [List.getElem?_set_ne,Cj];grind [List.getElem?_set_ne,Cj]
def A1{g:Hp}{k:Int}(l:3<=k/\k<=4){a n:Nat}{j:Int}(h:3<=j/\j<=4):P (Zx (Ye g k a n) j)=P (Zx g j):=by
 have f:k=3\/k=4:=Z0;have d:j=3\/j=4:=Z0;obtain rfl|rfl:=f<;>obtain rfl|rfl:=d<;>simp[Ye,Xk]
def Z35{g:Hp}{k:Int}(h:3<=k/\k<=4){a n:Nat}(f:a+n<=P (Zx g k)):(Ye g k a n).low.length=P g.low+n/\(Ye g k a n).high=g.high:=by
 have d:k=3\/k=4:=Z0;obtain rfl|rfl:=d<;>simp only[zR,zS]at f<;>simp[Ye,Xk]<;>omega
end Vm
namespace Vm
open Go Go.Proofs
def Bz{h:Hp}{ws:List Int}{low:List Ob}:∀(f i:Nat) (d l:List (Int×Int)),WM h ws low f i d=xk l->∃r,l=d++r
 |0,_,_,_,a=>by simp[WM]at a
 |f+1,i,d,l,a=>by
  unfold WM at a;split at a;cases a;exact⟨[],Z1⟩;split at a;split at a;cases a;obtain⟨r,g⟩:=Bz f _ _ _ a;exact⟨_,by rw[g,ZdB]⟩;split at a;exact Bz f _ _ _ a;cases a
def yC{h:Hp}{ws:List Int}{low:List Ob}:∀(f i:Nat) (d k:List (Int×Int)),WM h ws low f i d=xk k->∀(p:Nat) (g l:List Ob),Xi ws k xy p i (P d) g=(l,0)->
  ∃r,l=g++r/\∀o∈r,o.gone=xy->∃q,Yu h 1 low o.target=xk q/\q.size=o.size/\q.ptrs=o.ptrs
 |0,_,_,_,j=>by simp[WM]at j
 |f+1,i,d,k,j=>by
  intro p g l a;cases p with
  |zero=>simp[Xi]at a
  |succ p=>
   unfold WM at j;unfold Xi at a;cases x:ws[i]? with
   |none=>
    simp_all
   |some w=>
    simp only[x]at j a;by_cases t:(adr w).2=0;simp only[t,Zdv]at j;cases C:Yu h 1 low (adr w).1 with
    |none=>simp_all
    |some q=>
     simp only[C]at j;obtain⟨r,D⟩:=Bz _ _ _ _ j;have F:k[P d]?=xk (q.size,q.ptrs):=by rw[D];simp
     unfold XT at a;rw[if_pos ⟨rfl,t⟩]at a;simp only[F]at a;by_cases u:Yx q.size q.ptrs=xy;rw[if_pos u]at a;simp only at a;split at a;simp at a;split at a;simp at a;have n:P d+1=P (d++[(q.size,q.ptrs)]):=Z1;rw[n]at a;obtain⟨G,z,A⟩:=yC f _ _ _ j _ _ _ a;grind;simp_all
    simp only[t,Zdu]at j;by_cases y:(ZP w).2.2=0;simp only[y,Zdv]at j;unfold XT at a;rw[if_neg (λB=>t B.2),if_pos y]at a;simp only at a;split at a;simp at a;split at a;simp at a;obtain⟨G,z,A⟩:=yC f _ _ _ j _ _ _ a;simp_all;simp_all
def RightH.gone_low{h:Hp}{p:Pts}(r:RightH h p){k:Int}(D:3<=k/\k<=4){o:Ob}(d:o∈p.at k)(A:o.gone=xy):∃q∈p.low,YS h 1 q.at_=o.target/\q.size=o.size/\q.ptrs=o.ptrs:=by
 have a:=r.parts;unfold Xh at a;dsimp only at a;split at a;cases a;split at a;cases a;rename_i c2
 have g:∀(f:List Int) (x:Option (List (Int×Int))),x=Vd h f (ZN h.low [] xh).1->¬x=xw->(ZN f (x.getD []) xy).2=0->o∈(ZN f (x.getD []) xy).1->
   ∃q∈(ZN h.low [] xh).1,YS h 1 q.at_=o.target/\q.size=o.size/\q.ptrs=o.ptrs:=by
  intro f x C F n d;obtain _|j:=x;simp_all;simp only[Zdg]at n d;obtain⟨H,l,t⟩:=yC _ _ _ _ C.symm (P f+1) [] (ZN f j xy).1 (Zf7 rfl n);simp only[ZdJ]at l;rw[l]at d;obtain⟨q,B,G⟩:=t o d A;have:=Zg1 B;grind [D9]
 have u:¬Vd h h.old (ZN h.low [] xh).1=xw:=λe=>c2 (.inl e);have w:¬Vd h h.far (ZN h.low [] xh).1=xw:=λe=>c2 (.inr (.inl e));have y:(ZN h.old ((Vd h h.old (ZN h.low [] xh).1).getD []) xy).2=0:=ZdM λe=>c2 (.inr (.inr (.inl e)));have z:(ZN h.far ((Vd h h.far (ZN h.low [] xh).1).getD []) xy).2=0:=ZdM λe=>c2 (.inr (.inr (.inr e)));cases a;have:k=3\/k=4:=Z0;obtain rfl|rfl:=this;exact g _ _ rfl u y Zc7;exact g _ _ rfl w z Zc7
def Ng{l:List Ob}{o:Ob}(h:o∈l):WF o<=Yt l:=by
 unfold Yt;induction l with
 |nil=>simp at h
 |cons x l a=>
  grind
def Z7q{p:Pts}{k:Int}(a:3<=k/\k<=4){o:Ob}(h:o∈p.at k):WF o<=W1 p:=by
 have:k=3\/k=4:=Z0;unfold W1;obtain rfl|rfl:=this;have:=Ng (l:=p.old) h;omega;have:=Ng (l:=p.far) h;omega
def Z5k{l:Ly}(d:ZG l=xy){k j a b:Int}(o:1<=k/\k<=4)(n:1<=j/\j<=4)(f:0<=a/\a<YR l k)(g:0<=b/\b<YR l j)(h:Y2 l k a=Y2 l j b):k=j/\a=b:=by
 have p:=Qc d o f;have q:=Qc d n g;have:fstL l k+a=fstL l j+b:=by unfold Y2 at h;omega
 simp_all
def N4{u a:Int}(d:(adr u).2=0)(h:(adr u).1=a):u=2*a+1:=by
 unfold adr at d h;grind
def NU{u:Int}(h:(ZP u).2.2=0):¬(adr u).2=0:=by
 unfold ZP at h;split at h;rename_i a;unfold adr;grind;grind
end Vm
namespace Vm
open Go Go.Proofs
end Vm
end
section
namespace Vm
open Go Go.Proofs
def Tiles.order{ws:List Int}{old:Bool}:∀ {a:Nat} {l:List Ob},Tiles ws old a l->l.Pairwise λx y=>x.at_<y.at_
 |_,[],_=>.nil
 |a,o::l,h=>by
  have f:=YG.1 h.2.1.shape;refine .cons (λx d=> ?_) (Tiles.order h.2.2);have:=(Tiles.stands h.2.2 x d).2;have:=h.1;omega
def BM{h:Hp}(f:ZG (Zu h)=xy){k:Int}(d:1<=k/\k<=4){old:Bool}{o:Ob}(a:Stands (Zx h k) old o):YS h k o.at_=fstL (Zu h) k+o.at_:=by
 have:=YG.1 a.shape;have:=a.fits;have:=a.nat;grind [YS,S8,UD]
def Z6P{h:Hp}(f:ZG (Zu h)=xy){k:Int}(d:1<=k/\k<=4){old:Bool}{o:Ob}(a:Stands (Zx h k) old o):Y9 (Zu h) (YS h k o.at_)=(k,o.at_,0):=by
 have:=YG.1 a.shape;have:=a.fits;have:=a.nat;rw[BM f d a];grind [Qc,UD]
def Tiles.starts{h:Hp}(f:ZG (Zu h)=xy){k:Int}(d:1<=k/\k<=4){old:Bool}{l:List Ob}(a:Tiles (Zx h k) old 0 l):l.Pairwise λx y=>YS h k x.at_≠YS h k y.at_:=by
 refine List.Pairwise.imp_of_mem ?_ a.order;intro x y j n g;rw[BM f d (a.stands x j).1,BM f d (a.stands y n).1];omega
def Gf{h:Hp}{a:Int}:∀ {l:List Ob} {m:List (Int×(Int×Int))},(l.Pairwise λx y=>YS h 1 x.at_≠YS h 1 y.at_)->ZX (X7 h 1 m l) a=match Yu h 1 l a with
  |some o=>xk (o.size,o.ptrs)
  |none=>ZX m a
 | [],m,_=>rfl
 |o::l,m,f=>by
  obtain⟨g,d⟩:=Zgd.1 f;rw[X7,Gf d];unfold Yu;rw[Zg0];cases j:l.find? (λo=>YS h 1 o.at_==a)with
  |some q=>
   grind
  |none=>
   simp only[Zdv,Qi];grind [YS,ZY,Zu]
def Ab{h:Hp}{k:Int}(a:¬k=1):∀ {l:List Ob} {m:List (Int×(Int×Int))},X7 h k m l=m
 | [],m=>rfl
 |o::l,m=>by simp_all[X7,if_neg,Ab]
def JU{h:Hp}{k a:Int}:∀ {l:List Ob} {m:List (Int×Int)},ZX (Wi h k m l) a=if(Yu h k l a).isSome=xy then xk k else ZX m a
 | [],m=>rfl
 |o::l,m=>by
  rw[Wi,JU];unfold Yu;rw[Zg0,Qi];by_cases f:YS h k o.at_=a;have d:(ZY (Zu h) k o.at_).1=a:=f;have:(YS h k o.at_==a)=xy:=Zc9;simp[this,d];have d:¬(ZY (Zu h) k o.at_).1=a:=f;have:(YS h k o.at_==a)=xh:=Zc9;simp[this,d]
def By{lm:List (Int×(Int×Int))}{ws:List Int}:∀(f i:Nat) (a:List (Int×Int)),∃r,Wt lm ws f i a=a++r
 |0,_,a=>⟨[],by simp[Wt]⟩
 |f+1,i,a=>by
  rw[Wt];cases ws[i]? with
  |none=>simp
  |some w=>
   simp only;split;split;simp;obtain⟨r,d⟩:=By (lm:=lm) (ws:=ws) f _ _;exact⟨_,by rw[d,ZdB]⟩;split;exact By f _ _;simp
def yx{lm:List (Int×(Int×Int))}{h:Hp}{low:List Ob}(j:∀a,ZX lm a=(Yu h 1 low a).map λo=>(o.size,o.ptrs)){ws:List Int}:∀(f i:Nat) (g k:List (Int×Int)),WM h ws low f i g=xk k->Wt lm ws f i g=k
 |0,_,_,_,d=>by simp[WM]at d
 |f+1,i,g,k,d=>by
  rw[WM]at d;rw[Wt];cases r:ws[i]? with
  |none=>rw[r]at d;simpa using d
  |some w=>
   rw[r]at d;simp only at d⊢;by_cases l:(adr w).2=0;rw[if_pos l]at d⊢;rw[j];cases n:Yu h 1 low (adr w).1 with
   |none=>rw[n]at d;cases d
   |some o=>rw[n]at d;exact yx j _ _ _ _ d
   rw[if_neg l]at d⊢;by_cases q:(ZP w).2.2=0;rw[if_pos q]at d⊢;exact yx j _ _ _ _ d;rw[if_neg q]at d;cases d
def yz{lm:List (Int×(Int×Int))}{h:Hp}{low:List Ob}(k:∀a,ZX lm a=(Yu h 1 low a).map λo=>(o.size,o.ptrs)){ws:List Int}:∀(f i:Nat) (d:List (Int×Int)),0<f->P ws<f+i->WM h ws low f i d=xw->
  ∀(l:Nat) (j:List Ob),(Xi ws (Wt lm ws f i d) xy l i (P d) j).2≠0
 |0,_,_,x,_,_=>Z0
 |f+1,i,d,x,F,g=>by
  intro l j;cases l with
  |zero=>simp[Xi]
  |succ l=>
   rw[WM]at g;rw[Wt,Xi];cases u:ws[i]? with
   |none=>simp_all
   |some w=>
    have y:=(ZcN.1 u).1;rw[u]at g;simp only at g⊢;by_cases q:(adr w).2=0;rw[if_pos q]at g⊢;rw[k];cases z:Yu h 1 low (adr w).1 with
    |none=>
     simp only[Zg4];have:XT d xy i (P d) w=xw:=by
      unfold XT;rw[if_pos ⟨rfl,q⟩];simp
     rw[this];simp
    |some o=>
     rw[z]at g;simp only[Zd4]at g⊢;obtain⟨r,A⟩:=By (lm:=lm) (ws:=ws) f (i+1+o.size.toNat) (d++[(o.size,o.ptrs)]);have D:=yz k f (i+1+o.size.toNat) (d++[(o.size,o.ptrs)]) Z0 Z0 g l;generalize Wt lm ws f (i+1+o.size.toNat) (d++[(o.size,o.ptrs)])=n at*;have B:n[P d]?=xk (o.size,o.ptrs):=by rw[A];simp
     unfold XT;rw[if_pos ⟨rfl,q⟩,B];simp only;by_cases t:Yx o.size o.ptrs=xy;rw[if_pos t];simp only;split;simp;split;simp;simp_all;simp_all
    rw[if_neg q]at g⊢;by_cases C:(ZP w).2.2=0;rw[if_pos C]at g⊢;have D:=yz k f (i+1+(ZP w).1.toNat) d Z0 Z0 g l;generalize Wt lm ws f (i+1+(ZP w).1.toNat) d=n at*;unfold XT;grind;simp_all[if_neg,XT]
structure Found (h:Hp) (s:Ck) (p:Pts):Prop where
 hp:s.h=h
 o1:s.o1=p.low
 o2:s.o2=p.high
 o3:s.o3=p.old
 o4:s.o4=p.far
 pm:s.pm=Wi h 4 (Wi h 3 (Wi h 2 (Wi h 1 [] p.low) p.high) p.old) p.far
def Z7u{h:Hp}(C:ZG (Zu h)=xy):match Xh h with
  |some p=>(XM (X6 h)).1=xy/\Found h (XM (X6 h)).2 p
  |none=>(XM (X6 h)).1=xh:=by
 unfold XM Xh;dsimp only;have D:Xj (X6 h) 1=ZN h.low [] xh:=rfl;rw[WE,D];by_cases w:(ZN h.low [] xh).2=0;case neg=>simp_all
 rw[if_pos w];have B:Tiles h.low xh 0 (ZN h.low [] xh).1:=S5 (ws:=h.low) (shs:=[]) (Zf7 rfl w);generalize (ZN h.low [] xh).1=d at*;have F:Xj (XI (X6 h) 1 d) 2=ZN h.high [] xh:=rfl;rw[WE,F];by_cases A:(ZN h.high [] xh).2=0;case neg=>simp_all
 rw[if_pos A,if_neg Z0];generalize (ZN h.high [] xh).1=n at*;have g:∀a,ZX (X7 h 1 [] d) a=(Yu h 1 d a).map λo=>(o.size,o.ptrs):=by
  intro a;rw[Gf (Tiles.starts C (k:=1) Z0 (by simpa using B))];cases Yu h 1 d a<;>rfl
 have j:(XI (XI (X6 h) 1 d) 2 n).lm=X7 h 1 [] d:=Ab Z0;have G:Xj (XI (XI (X6 h) 1 d) 2 n) 3=ZN h.old (Vx (X7 h 1 [] d) h.old) xy:=by
  rw[<-j];rfl
 rw[WE,G];cases x:Vd h h.old d with
 |none=>
  have:=yz g (P h.old+1) 0 [] Z0 Z0 x (P h.old+1) [];have q:¬(ZN h.old (Vx (X7 h 1 [] d) h.old) xy).2=0:=this;rw[if_neg q,if_pos (.inl rfl)]
 |some shs=>
 have t:Vx (X7 h 1 [] d) h.old=shs:=yx g _ _ _ _ x;rw[t];simp only[Zdg];by_cases q:(ZN h.old shs xy).2=0;case neg=>simp_all
 rw[if_pos q];generalize (ZN h.old shs xy).1=z at*;have l:(XI (XI (XI (X6 h) 1 d) 2 n) 3 z).lm=X7 h 1 [] d:=by
  rw[<-j];exact Ab Z0
 have H:Xj (XI (XI (XI (X6 h) 1 d) 2 n) 3 z) 4=ZN h.far (Vx (X7 h 1 [] d) h.far) xy:=by
  rw[<-l];rfl
 rw[WE,H];cases y:Vd h h.far d with
 |none=>
  have:=yz g (P h.far+1) 0 [] Z0 Z0 y (P h.far+1) [];have r:¬(ZN h.far (Vx (X7 h 1 [] d) h.far) xy).2=0:=this;rw[if_neg r,if_pos (.inr (.inl rfl))]
 |some f=>
 have u:Vx (X7 h 1 [] d) h.far=f:=yx g _ _ _ _ y;rw[u];simp only[Zdg];by_cases r:(ZN h.far f xy).2=0;case neg=>simp_all
 rw[if_pos r,if_neg ZbT];generalize (ZN h.far f xy).1=I at*;exact⟨rfl,rfl,rfl,rfl,rfl,rfl,rfl⟩
end Vm
namespace Vm
open Go Go.Proofs
def AD{h:Hp}{p:Pts}(a:Xh h=xk p){k:Int}(n:1<=k/\k<=4):Tiles (Zx h k) (decide (2<k)) 0 (p.at k):=by
 have:k=1\/k=2\/k=3\/k=4:=Z0;unfold Xh at a;dsimp only at a;split at a;cases a;rename_i g;split at a;cases a;rename_i c2;cases a;have c3:(ZN h.low [] xh).2=0/\(ZN h.high [] xh).2=0:=by
  refine⟨ZdM λf=>g (.inl f),ZdM λf=>g (.inr f)⟩
 have c4:∀x:Int,¬x≠0->x=0:=λx d=>ZdM d;have j:=c4 _ (λd=>c2 (.inr (.inr (.inl d))));have l:=c4 _ (λd=>c2 (.inr (.inr (.inr d))));obtain rfl|rfl|rfl|rfl:=this;exact S5 (Zf7 rfl c3.1);exact S5 (Zf7 rfl c3.2);exact S5 (Zf7 rfl j);exact S5 (Zf7 rfl l)
def Z4b{h:Hp}{p:Pts}(a:Xh h=xk p){k:Int}(C:3<=k/\k<=4){o:Ob}(d:o∈p.at k)(z:o.gone=xy):∃q∈p.low,YS h 1 q.at_=o.target/\q.size=o.size/\q.ptrs=o.ptrs:=by
 unfold Xh at a;dsimp only at a;split at a;cases a;split at a;cases a;rename_i c2
 have g:∀(f:List Int) (x:Option (List (Int×Int))),x=Vd h f (ZN h.low [] xh).1->¬x=xw->(ZN f (x.getD []) xy).2=0->o∈(ZN f (x.getD []) xy).1->
   ∃q∈(ZN h.low [] xh).1,YS h 1 q.at_=o.target/\q.size=o.size/\q.ptrs=o.ptrs:=by
  intro f x B D n d;obtain _|j:=x;simp_all;simp only[Zdg]at n d;obtain⟨G,l,r⟩:=yC _ _ _ _ B.symm (P f+1) [] (ZN f j xy).1 (Zf7 rfl n);simp only[ZdJ]at l;rw[l]at d;obtain⟨q,A,F⟩:=r o d z;have:=Zg1 A;grind [D9]
 have t:¬Vd h h.old (ZN h.low [] xh).1=xw:=λe=>c2 (.inl e);have u:¬Vd h h.far (ZN h.low [] xh).1=xw:=λe=>c2 (.inr (.inl e));have w:(ZN h.old ((Vd h h.old (ZN h.low [] xh).1).getD []) xy).2=0:=ZdM λe=>c2 (.inr (.inr (.inl e)));have y:(ZN h.far ((Vd h h.far (ZN h.low [] xh).1).getD []) xy).2=0:=ZdM λe=>c2 (.inr (.inr (.inr e)));cases a;have:k=3\/k=4:=Z0;obtain rfl|rfl:=this;exact g _ _ rfl t w Zc7;exact g _ _ rfl u y Zc7
theorem O8{h:Hp}(q:ZG (Zu h)=xy){p:Pts}(n:Xh h=xk p){k:Int}(d:1<=k/\k<=4){a:Int}(l:(Yu h k (p.at k) a).isSome=xy):∃b,Y9 (Zu h) a=(k,b,0):=by
 obtain⟨o,f⟩:=ZdQ.1 l;have g:=Zfl f;have j:YS h k o.at_=a:=by have:=Zg1 f;simpa using this
 rw[<-j];exact⟨_,Z6P q d ((AD n d).stands o g).1⟩
def Db{h:Hp}(o:ZG (Zu h)=xy){p:Pts}(n:Xh h=xk p){k j:Int}(g:1<=k/\k<=4)(f:1<=j/\j<=4)(l:k≠j){a:Int}(d:(Yu h k (p.at k) a).isSome=xy):(Yu h j (p.at j) a).isSome=xh:=by
 grind [Yu,O8,Prod.mk.injEq]
section
variable {h:Hp}{s:Ck}{p:Pts}
theorem Found.obs(a:Found h s p){k:Int}:s.obs k=p.at k:=by
 unfold Ck.obs Pts.at;rw[a.o1,a.o2,a.o3,a.o4]
def Found.pm_at(d:Found h s p)(a:Int):ZX s.pm a=if(Yu h 4 (p.at 4) a).isSome=xy then xk 4 else if(Yu h 3 (p.at 3) a).isSome=xy then xk 3 else if(Yu h 2 (p.at 2) a).isSome=xy then xk 2 else if(Yu h 1 (p.at 1) a).isSome=xy then xk 1 else xw:=by
 rw[d.pm,JU,JU,JU,JU];rfl
def Found.points(r:Found h s p)(z:ZG (Zu h)=xy)(y:Xh h=xk p)(w:Int):YK s w 1 2=Xo h p w 1 2/\YK s w 3 4=Xo h p w 3 4/\YK s w 1 4=(Xo h p w 1 2||Xo h p w 3 4):=by
 unfold YK Xo;by_cases d:w=0;simp[d];by_cases q:(adr w).2=0;case neg=>grind
 simp only[d,q,ZgX,Zg6,Zfe,Zgp];rw[r.pm_at];generalize (adr w).1=a;have o:=λk j u t x=>Db (k:=k) (j:=j) z y u t x (a:=a);have G:=o 4 3 Z0 Z0 Z0;have F:=o 4 2 Z0 Z0 Z0;have D:=o 4 1 Z0 Z0 Z0;have C:=o 3 2 Z0 Z0 Z0;have B:=o 3 1 Z0 Z0 Z0;have A:=o 2 1 Z0 Z0 Z0;clear o;generalize (Yu h 1 (p.at 1) a).isSome=f at*;generalize (Yu h 2 (p.at 2) a).isSome=g at*;generalize (Yu h 3 (p.at 3) a).isSome=l at*;generalize (Yu h 4 (p.at 4) a).isSome=n at*;cases f<;>cases g<;>cases l<;>cases n<;>simp_all
end
end Vm
namespace Vm
open Go Go.Proofs
def Xt(l:List Ob):List Int:=(l.filter (·.gone)).map (·.target)
def Z4Q{α:Type}{l:List (Int×α)}{k:Int}{x:α}(h:ZX l k=xw):P (XD l k x)=P l+1:=by
 grind [ZX,Option.map_eq_none_iff,List.findIdx?_eq_none_iff,List.find?_eq_none,XD]
def Lh{pm:List (Int×Int)}:∀ {l:List Ob} {m:List (Int×Bool)} {K:List Int},K.Nodup->(∀a,ZX m a=if a∈K then xk xy else xw)->P m=P K->
  match Wa pm l m with
  |some w=>(∀t∈Xt l,(ZX pm t).getD 0=1)/\(K++Xt l).Nodup/\P w=P (K++Xt l)/\∀a,ZX w a=if a∈K++Xt l then xk xy else xw
  |none=>¬((∀t∈Xt l,(ZX pm t).getD 0=1)/\(K++Xt l).Nodup)
 | [],m,K,q,f,u=>by simp only[Wa,Xt,List.filter_nil,Zex,Zei];exact⟨Z1,q,u,f⟩
 |o::l,m,K,q,f,u=>by
  rw[Wa];cases A:o.gone with
  |false=>
   rw[if_neg Z1];have:Xt (o::l)=Xt l:=by simp[Xt,A]
   rw[this];exact Lh q f u
  |true=>
   rw[if_pos rfl];have d:Xt (o::l)=o.target::Xt l:=by simp[Xt,A]
   rw[d];by_cases k:(ZX pm o.target).getD 0=1;by_cases n:o.target∈K;rw[if_neg (by rw[f,if_pos n];simp)];rintro⟨_,D⟩;exact(ZfE.1 D).2.2 _ n _ (Zdt ..) rfl;have j:ZX m o.target=xw:=by rw[f,if_neg n]
   rw[if_pos ⟨k,by rw[j];rfl⟩]
   have g:=Lh (pm:=pm) (l:=l) (m:=XD m o.target xy) (K:=K++[o.target]) (by
     rw[ZfE];refine⟨q,Z1,λa C b z=> ?_⟩;simp at z;subst z;intro e;subst e;exact n C) (λa=>by
     rw[Qi,f];by_cases e:o.target=a;simp[e];have B:¬a=o.target:=λx=>e x.symm;simp[e,B]) (by rw[Z4Q j,u];simp)
   rw[ZdB,ZfK]at g;cases r:Wa pm l (XD m o.target xy)with
   |none=>
    rw[r]at g;rintro⟨y,F⟩;exact g ⟨λt d=>y t (Zdn _ d),F⟩
   |some w=>
    rw[r]at g;refine⟨λt d=> ?_,g.2⟩;obtain rfl|d:=Zd6.1 d;exact k;exact g.1 t d
   rw[if_neg (λr=>k r.1)];rintro⟨y,_⟩;exact k (y _ (Zdt ..))
def Mz{l:List Ob}{a:Int}:Xs l a=(Xt l).count a:=by
 unfold Xs Xt;induction l with
 |nil=>rfl
 |cons o l d=>
  grind
def Z3K{T S:List Int}(g:S.Nodup)(f:T⊆S):(T.Nodup/\P T=P S)↔ ∀a∈S,T.count a=1:=by
 constructor;rintro⟨d,q⟩ a l;rw[d.count];by_cases n:a∈T;grind;have k:T⊆S.erase a:=λx j=>(g.mem_erase_iff).2 ⟨λe=>n (e▸j),f j⟩;have o:=d.length_le_of_subset k;grind;intro h;have d:T.Nodup:=List.nodup_iff_count.2 λa=>by
  grind
 refine⟨d,Nat.le_antisymm (d.length_le_of_subset f) (g.length_le_of_subset λa l=> ?_)⟩;grind
section
variable {h:Hp}{s:Ck}{p:Pts}
def Found.copied(f:Found h s p)(C:ZG (Zu h)=xy)(y:Xh h=xk p):R1 s=(!h.cycle||p.low.all (SK h p)):=by
 have G:=AD y (k:=1) Z0;have F:(p.low.map λo=>YS h 1 o.at_).Nodup:=by
  have:=Tiles.starts C (k:=1) Z0 G;rw[List.nodup_iff_pairwise_ne,List.pairwise_map];exact this
 have n:∀t∈Xt s.o3++Xt s.o4,t∈p.low.map λo=>YS h 1 o.at_:=by
  intro t d;have:∃k,(3<=k/\k<=4)/\t∈Xt (p.at k):=by
   obtain d|d:=Zdd.1 d;exact⟨3,Z0,by rw[f.o3]at d;exact d⟩;exact⟨4,Z0,by rw[f.o4]at d;exact d⟩
  obtain⟨k,x,d⟩:=this;simp only[Xt,Zd1,Zfv]at d;obtain⟨o,⟨r,I⟩,rfl⟩:=d;obtain⟨q,z,B,_⟩:=Z4b y x r I;exact Zd1.2 ⟨q,z,B⟩
 have L:∀t∈Xt s.o3++Xt s.o4,(ZX s.pm t).getD 0=1:=by
  intro t d;obtain⟨q,z,B⟩:=Zd1.1 (n t d);have u:(Yu h 1 (p.at 1) t).isSome=xy:=by
   unfold Yu;rw[List.find?_isSome];exact⟨q,z,ZbT⟩
  have o:=λk x J=>Db (k:=1) (j:=k) C y Z0 x J u;rw[f.pm_at,o 4 Z0 Z0,o 3 Z0 Z0,o 2 Z0 Z0,u];rfl
 unfold R1;rw[f.hp];cases Q:h.cycle;rfl;simp only[Zfs,Zfe];have key:=Z3K F (T:=Xt s.o3++Xt s.o4) n;have g:p.low.all (SK h p)=xy↔ ∀a∈(p.low.map λo=>YS h 1 o.at_),(Xt s.o3++Xt s.o4).count a=1:=by
  rw[ZcW];constructor;intro A a H;obtain⟨o,r,rfl⟩:=Zd1.1 H;have:=A o r;simp only[SK,Zd8,UF,Mz]at this;rw[List.count_append,f.o3,f.o4];exact this;intro A o r;have:=A _ (Zd1.2 ⟨o,r,rfl⟩);rw[List.count_append,f.o3,f.o4]at this;simp_all[SK,Zd8,UF,Mz]
 rw[Zdz]at key;have w:=Lh (pm:=s.pm) (l:=s.o3) (m:=[]) (K:=[]) Z1 (by simp[ZX]) rfl;simp only[ZdJ]at w;rw[ZgD,g,<-key];cases u:Wa s.pm s.o3 []with
 |none=>
  grind
 |some m=>
  rw[u]at w;obtain⟨S,M,N,O⟩:=w;simp only[ZcV];have c2:=Lh (pm:=s.pm) (l:=s.o4) (m:=m) (K:=Xt s.o3) M O N;cases D:Wa s.pm s.o4 m with
  |none=>
   simp_all
  |some R=>
   rw[D]at c2;obtain⟨U,W,P,X⟩:=c2;simp only[Zd8,P,f.o1];simp_all
end
end Vm
namespace Vm
open Go Go.Proofs
def Mj:∀ {l:List Int} {a:Int} {i:Nat},XG l xy a i=xy->∀w∈l,w=0
 | [],_,_,_,w,d=>ZcC
 |x::l,a,i,h,w,d=>by
  simp only[XG,ZcP,Zfs,Zfe,Zd8]at h;obtain rfl|d:=Zd6.1 d;exact h.1.1;exact Mj h.2 w d
def Kc{s:Ck}{k:Int}{q:Int->Int->Bool}:Wy s k q=xy↔ ∀o∈s.obs k,o.gone=xh->∀j,j<o.ptrs.toNat->q ((o.at_.toNat+1+j:Nat):Int) (Vz (Zx s.h k) (o.at_.toNat+1+j))=xy:=by
 unfold Wy obQ;grind
def Z4L{h:Hp}{p:Pts}(u:Xh h=xk p){k:Int}(r:1<=k/\k<=4):Wk h p k=xy↔ ∀o∈p.at k,o.gone=xh->∀j,j<o.ptrs.toNat->VQ h p k (o.at_.toNat+1+j)=xy:=by
 unfold Wk zq;rw[ZcW];constructor;simp_all;intro y o t;rw[ZcW];intro j l;have l:=ZeS.1 l;cases q:o.gone;simp_all;have d:=((AD u r).stands o t).1;have w:=YG.1 d.shape;have f:=d.slots;rw[q]at f;have x:=Mj f;have g:=d.fits;have n:=d.nat;have a:o.at_.toNat+1+j< P (Zx h k):=Z0;have z:(Zx h k)[o.at_.toNat+1+j]?=xk 0:=by
  rw[ZcM a];refine ZdT xk (x _ ?_);rw[ZfJ];refine⟨j,?_⟩;rw[Zdq,if_pos Z0,Zdo,ZcM a]
 grind [Xo,VQ]
section
variable {h:Hp}{s:Ck}{p:Pts}
def Found.ptrs(u:Found h s p)(I:ZG (Zu h)=xy)(G:Xh h=xk p):(RL s&&(RP s&&Rl s))=(h.roots.all (λw=>Xo h p w 1 2)&&Wk h p 1&&Wk h p 2&&Wk h p 3&&Wk h p 4):=by
 have g:=u.points I G;have t:s.h.roots.all (λw=>YK s w 1 2)=h.roots.all (λw=>Xo h p w 1 2):=by
  rw[u.hp];congr 1;funext w;exact(g w).1
 have l:=λk=>u.obs (k:=k);have r:∀(k:Int) (q:Nat->Int->Bool) (F:1<=k/\k<=4),(∀a,VQ h p k a=q a (Vz (Zx h k) a))->(Wk h p k=xy↔ ∀o∈p.at k,o.gone=xh->∀j,j<o.ptrs.toNat->q (o.at_.toNat+1+j) (Vz (Zx h k) (o.at_.toNat+1+j))=xy):=by
  intro k q F H;rw[Z4L G F];simp only[H]
 have p2:=r 2 (λ_ w=>Xo h p w 1 2) Z0 (λa=>by simp[VQ,Vz]);have p3:=r 3 (λ_ w=>Xo h p w 3 4) Z0 (λa=>by simp[VQ,Vz]);have p4:=r 4 (λ_ w=>Xo h p w 3 4) Z0 (λa=>by simp[VQ,Vz]);have J:=r 1 (λa w=>if h.scan<=a then Xo h p w 1 2||Xo h p w 3 4 else Xo h p w 1 2) Z0 (λa=>by simp[VQ,Vz]);have L:Wy s 2 (λ_ w=>YK s w 1 2)=xy↔Wk h p 2=xy:=by
  rw[p2,Kc,l,u.hp];simp only[(g _).1]
 have M:Wy s 3 (λ_ w=>YK s w 3 4)=xy↔Wk h p 3=xy:=by
  rw[p3,Kc,l,u.hp];simp only[(g _).2.1]
 have N:Wy s 4 (λ_ w=>YK s w 3 4)=xy↔Wk h p 4=xy:=by
  rw[p4,Kc,l,u.hp];simp only[(g _).2.1]
 have K:(Wy s 1 (λa w=>decide (s.h.scan<=a)||YK s w 1 2)=xy/\Wy s 1 (λa w=>decide (a<s.h.scan)||YK s w 1 4)=xy)↔Wk h p 1=xy:=by
  rw[J,Kc,Kc,l,u.hp];simp only[(g _).1,(g _).2.2];constructor;rintro⟨C,D⟩ o A y j z;have C:=C o A y j z;have D:=D o A y j z;generalize o.at_.toNat+1+j=n at*;by_cases x:h.scan<=(n:Int);have:¬(n:Int)<h.scan:=Z0;simpa[x,this]using D;simpa[x]using C;intro B;refine⟨λo A y j z=> ?_,λo A y j z=> ?_⟩;have B:=B o A y j z;generalize o.at_.toNat+1+j=n at*;by_cases x:h.scan<=(n:Int);simp[x];simpa[x]using B;have B:=B o A y j z;generalize o.at_.toNat+1+j=n at*;by_cases x:h.scan<=(n:Int);have:¬(n:Int)<h.scan:=Z0;simpa[x,this]using B;have:(n:Int)<h.scan:=Z0;simp[this]
 unfold RL RP Rl;rw[t,ZgD];simp only[ZcP];rw[L,M,N,<-K];constructor;rintro⟨⟨a,b,c⟩,d,e,f⟩;exact⟨⟨⟨⟨a,c,d⟩,b⟩,e⟩,f⟩;rintro⟨⟨⟨⟨a,c,d⟩,b⟩,e⟩,f⟩;exact⟨⟨a,b,c⟩,d,e,f⟩
def Found.roomy(a:Found h s p):RI s=decide ((P h.low:Int)+P h.high+W1 p<=h.cap):=by
 unfold RI S4 W1;rw[a.hp,a.o3,a.o4]
end
def Z3v(h:Hp):T7 h=(Sc (X6 h)&&RF (X6 h)):=by
 grind [T7,Sc,RF,X6,ZG,Zu]
def jJ(h:Hp):(V9 h).isSome=XE h/\∀s,V9 h=xk s->∃p,Xh h=xk p/\Found h s p:=by
 have k:V9 h=(if Sc (X6 h)=xy then if RF (X6 h)=xy then if(XM (X6 h)).1=xy then
   if R1 (XM (X6 h)).2=xy then if RL (XM (X6 h)).2=xy then if RP (XM (X6 h)).2=xy then if Rl (XM (X6 h)).2=xy then if RI (XM (X6 h)).2=xy then
    xk (XM (X6 h)).2 else xw else xw else xw else xw else xw else xw else xw else xw):=rfl
 have t:=Z3v h;unfold XE;rw[t];cases a:Sc (X6 h);simp_all;have g:ZG (Zu h)=xy:=by
  unfold Sc at a;simp only[ZcP]at a;exact a.1
 cases j:RF (X6 h);simp_all;have l:=Z7u g;cases f:Xh h with
 |none=>
  simp_all
 |some p=>
  rw[f]at l;obtain⟨r,d⟩:=l;rw[a,j,r]at k;simp only[Zdv]at k;generalize (XM (X6 h)).2=s at*;have n:=d.copied g f;have o:=d.ptrs g f;have q:=d.roomy;have u:TT h p=(R1 s&&((RL s&&(RP s&&Rl s))&&RI s)):=by
   rw[n,o,q];unfold TT;simp only[Bool.and_assoc]
  grind
def Z2B(h:Hp)(k:Int):JX h k=Vq h k:=by
 obtain⟨d,g⟩:=jJ h;unfold JX Vq;cases f:V9 h with
 |none=>
  simp_all
 |some s=>
  rw[f]at d;have a:XE h=xy:=d.symm;obtain⟨p,l,j⟩:=g s f;simp only[a,true_and,l,Zdg,j.obs]
def Z2F(h:Hp):((yR h:Nat):Int)=QV h:=by
 obtain⟨d,j⟩:=jJ h;unfold yR QV;cases g:V9 h with
 |none=>
  simp_all
 |some s=>
  rw[g]at d;have a:XE h=xy:=d.symm;obtain⟨p,k,f⟩:=j s g;simp only[a,k,Zdg,Zdv];unfold S4 W1;rw[f.o3,f.o4]
end Vm
end
section
namespace Vm
open Go Go.Proofs Go.RowKit
section
def CE{α:Type}(F:Fence)(n:Nat)(P:Z4)(g:Nat)(lb:Z9)(d:α->Array Value)(k:World->World->Prop)(S:List α->World->Prop)(o:List PanicEntry->List α->World->Prop)(N:Nat)(bt:Option Nat)(j:World->Prop)(w:Z3):Prop:=
 ∀(l:Nat) (J:List α->World->Prop) (W:Z3),Below (U (R w)) w W->(∀pre W,J pre W->j W)->(∀s A B row,J s A->A.grownBy B row->(∀r,row=xk r->xk r=bt)->J s B)->
  (∀pre x f,J pre f->xq pre<N->YieldAt F (n-1) P l (d x) f λe a=>e=.returned (.bool xy)/\J (pre++[x]) a/\k f a)->
  J [] W->
  CallsIn F n P g (#[.func (.yield l) #[] #[]]++lb) W λe a=>(∃v h,e=.returned v/\S h a/\J h a)\/(∃chain pre,e=.panicked chain/\o chain pre a/\J pre a)
def Z4F{α:Type}(B:Nat)(d:World->World->Prop)(I:List α->World->Prop)(xs:List α)(W:Z3):Exit->Act->World->Prop
 |.normal,_,a=>KeepsFrom B W a/\d W a/\I xs a
 |_,_,_=>False
def OwnP{β:Type}(bt:Option Nat)(B:Nat)(I:β->World->Prop):Prop:=
 ∀s X Y row,I s X->X.grownBy Y row->(∀r,row=xk r->xk r=bt\/(B<=r/\∃o:Obj,X.heap[r]?=xk o/\o.isCells=xh))->I s Y
def OwnP.putObj{β:Type}{bt:Option Nat}{B:Nat}{I:β->World->Prop}(h:OwnP bt B I){s:β}{W:Z3}{l:Nat}{o:Obj}(a:Obj)(d:I s W)(f:B<=l)(g:W.heap[l]?=xk o)(j:o.isCells=xh):I s (W.putObj l a):=
 h s W _ (xk l) d (ZfZ W l a) (λr e=>ZbU)
def OwnP.alloc{β:Type}{bt:Option Nat}{B:Nat}{I:β->World->Prop}(h:OwnP bt B I){s:β}{W:Z3}(o:Obj)(a:I s W):I s (W.alloc o):=
 h s W _ xw a (Zea W o xw) (λr e=>by cases e)
variable {F:Fence}{n:Nat}{P:Z4}
def Z7E{α:Type}{g:Operand}{ps:Array Tmp}{assign body:Code}{Q:Zr}{a:Act}{w:Z3}
  (d0:F.round=xw) (h1:1<=n) {gf:Nat} {lb:Z9} (hg:a.eval g=.func (.func gf) #[] lb) (d5:F.fn gf) (eg:∀args w,(callFunc gf args).run P w=.ok (.enter gf args) w)
  {f:α->Array Value} {M:World->World->Prop} {S:List α->World->Prop} {Pp:List PanicEntry->List α->World->Prop} {N:Nat} {bt:Option Nat} {Ex:World->Prop} {w0:Z3} (a7:CE F (n-1) P gf lb f M S Pp N bt Ex w0)
  (b4:∀r,bt=xk r->r<xz (xj w))
  (T:∀ {A B C:Z3},M A B->M B C->M A C) (a0:∀(W:Z3) (l:Nat) (o o':Obj),xz (xj w)<=l->W.heap[l]?=xk o->o.isCells=xh->o.isWalk=xh->M W (W.putObj l o')) (a1:Below (xz (xj w0)) w0 w) (d6:∀x,(f x).size=ps.size)
  (I:List α->World->Prop) (hI:OwnP bt (xz (xj w)) I) (a9:∀pre W,I pre W->Ex W) (h0:I [] w) (hS:OwnP xw (xz (xj w)) S) (Ax:α->Act->World->Prop) (a8:∀x G,OwnP xw (xz (xj w)) (λ(_:Unit) W=>Ax x G W))
  (q:∀(l:Nat) (pre:List α) (x:α) (W:Z3) (K:Act->World->Prop),I pre W->(∀G W',KeepsFrom (xz (xj w)) W W'->M W W'->I pre W'->Ax x G W'->K G W')->
   assign.wpIn (F.inRound l) (n-1-1) P (Exit.then K (λ_ _ _=>False)) {tmps:=(ps.zip (f x)).foldl (λt (p,v)=>t.setIfInBounds p v) a.tmps,defers:=[]} W)
  (U:∀(l:Nat) (pre:List α) (x:α) (G:Act) (W:Z3),I pre W->Ax x G W->xq pre<N->body.wpIn (F.inRound l) (n-1-1) P (Z4F (xz (xj w)) M I (pre++[x]) W) G W)
  (X:∀(D:Nat) (xs:List α) (W:Z3),xz (xj w)<=D->S xs W->I xs W->W.heap[D]?=xk (.deferred (xk []))->Q .normal {a with defers:= {target:=.collected D,args:=#[]}::a.defers} W)
  (L:∀(D:Nat) (chain:List PanicEntry) (pre:List α) (W:Z3),xz (xj w)<=D->Pp chain pre W->I pre W->W.heap[D]?=xk (.deferred (xk []))->Q (.panic chain) {a with defers:= {target:=.collected D,args:=#[]}::a.defers} W):
  (Code.rangeFunc g ps assign body).wpIn F n P Q a w:=by
 refine wpIn_rangeFunc λfn b6=> ?_;rw[d0];obtain⟨d,z⟩:∃d:LoopState->Option Code->Loop,d=λst pe=> {state:=st,pending:=pe,fn,tmps:=a.tmps,params:=ps,assign,body,defers:=xz (xj w)}:=⟨_,rfl⟩;obtain⟨H,J⟩:∃H,(w.alloc (.deferred (xk []))).alloc (.loop (d .ready xw))=H:=⟨_,rfl⟩;have b1:H.heap[xz (xj w)+1]?=xk (.loop (d .ready xw)):=by
  have:=World.alloc_heap_new (w.alloc (.deferred (xk []))) (.loop (d .ready xw));rw[World.size_alloc]at this;rw[<-J];exact this
 have b0:H.heap[xz (xj w)]?=xk (.deferred (xk [])):=by
  rw[<-J];exact(ZcU _ _ _ Z1).trans (World.alloc_heap_new w _)
 have b3:Below (xz (xj w0)) w0 H:=by
  rw[<-J];exact a1.trans ((((Zdr _ w).alloc (ZcR _) _).alloc Z1 _).mono a1.size)
 refine⟨xz (xj w)+1,[{target:=.collected (xz (xj w)),args:=#[]}],H,{target:=.fn (.func gf) lb,args:=#[.func (.yield (xz (xj w)+1)) #[] #[]]},H,gf,
  #[.func (.yield (xz (xj w)+1)) #[] #[]]++lb,H,?_,?_,?_,?_,λ_=>h1,?_⟩
 simp_all[run_enterLoop_outer]
 .simp only[resolve,hg];simp[go_sem]
 simp_all[Target.leads];simp_all[invoke];have R:∀ {A B:Z3} {row:Option Nat} {k:Nat} {o:Obj},A.grownBy B row->(∀r,row=xk r->xk r=bt)->xz (xj w)<=k->A.heap[k]?=xk o->B.heap[k]?=xk o:=by
  intro A B row k o u hr hk ho;refine(u.block k (ZcS.1 ho).1 λe=> ?_).trans ho;have:=b4 k (hr k e.symm).symm;omega
 refine(a7 (xz (xj w)+1) (λpre W=>I pre W/\W.heap[xz (xj w)+1]?=xk (.loop (d .ready xw))/\W.heap[xz (xj w)]?=xk (.deferred (xk []))) H b3 (λpre W h=>a9 pre W h.1)
  (λs A B row hs u hr=>⟨hI s A B row hs.1 u (λr e=>.inl (hr r e)),R u hr Z0 hs.2.1,R u hr (ZcR _) hs.2.2⟩) ?_ ⟨by rw[<-J];exact hI.alloc _ (hI.alloc _ h0),b1,b0⟩).mono ?_
 rintro pre x W ⟨hi,Y,hk⟩ a6;have hy:=run_yield (P:=P) (args:=f x) Y ZbU;rw[z]at hy;refine⟨fn,_,assign,body,hy,roundIn_of_wpIn b6 (q _ pre x W _ hi ?_)⟩;intro G V a4 c1 b8 b2;have y:=a4.same _ _ Z0 Y rfl;have c0:=a4.same _ _ (ZcR _) hk rfl;have c7:xz (xj w)+1<xz (xj V):=(ZcS.1 y).1;refine⟨_,run_beginRound y (by rw[z]),?_⟩;have c6:(V.putObj (xz (xj w)+1) (.loop {d .ready xw with state:=.busy})).heap[xz (xj w)+1]?=xk (.loop {d .ready xw with state:=.busy}):=World.putObj_heap_same c7;have b9:(V.putObj (xz (xj w)+1) (.loop {d .ready xw with state:=.busy})).heap[xz (xj w)]?=xk (.deferred (xk [])):=(ZdX Z0).trans c0;have c9:M V (V.putObj (xz (xj w)+1) (.loop {d .ready xw with state:=.busy})):=a0 _ _ _ _ Z0 y rfl rfl;refine wpIn_mono (U _ pre x G _ (hI.putObj _ b8 Z0 y rfl) ((a8 x G).putObj (s:=()) _ b2 Z0 y rfl) a6) ?_;rintro e a3 W3 O;cases e with
 |normal=>
  obtain⟨a2,a5,b7⟩:=O;have Z:=a2.same _ _ Z0 c6 rfl;have b5:=a2.same _ _ (ZcR _) b9 rfl;have j:=run_endRound (P:=P) xw Z;refine⟨_,_,j,rfl,⟨hI.putObj _ b7 Z0 Z rfl,?_,(ZdX Z0).trans b5⟩,T c1 (T (T c9 a5) (a0 _ _ _ _ Z0 Z rfl rfl))⟩;grind [World.putObj_heap_same,Array.getElem?_eq_some_iff]
 |ret=>exact O.elim
 |exit id=>exact O.elim
 |goto t=>exact O.elim
 |panic ch=>exact O.elim
 |outgrown=>exact O.elim
 rintro e W2 (⟨v,xs,rfl,hs,hi,Y,hk⟩|⟨chain,pre,rfl,O,hi,Y,hk⟩);have j:=run_endLoop (P:=P) Y ZbU;rw[z]at j;exact⟨xw,_,j,X _ xs _ (ZcR _) (hS.putObj _ hs Z0 Y rfl) (hI.putObj _ hi Z0 Y rfl) ((ZdX Z0).trans hk)⟩;exact L _ chain pre _ (ZcR _) O hi hk
end
end Vm
end
section
namespace Vm
open Go
open Go.Proofs
def H6:Fn:=⟨4,[0,2,3,4],
pQ [pR [pV 1 pF],pC [pK 4 44 [.s 0]] [pV 2 (.ext (.s 4) 0),pV 3 (.ext (.s 4) 1)],.reg ⟨[.lt 5 [] (.bin .eql (.s 0) (pU 0))],[([(5,xh)],.bin .eql (.s 3) (pI 0))],[pV 1 (.ite (.s 5) pT (.bin .eql (.s 3) (pI 0)))]⟩] .ret,[(1,.v)]⟩
def P2:ZK Sol.prog fresh sig [.fz] [] Try.f135=xk H6:=Z2
end Vm
end
section
namespace Vm
open Go Go.Proofs Go.RowKit
def Z4E{x:Int}(hx:ZA x):VC Sol.prog 135 xh [vu x] (.bool (U2 x)):=by
 refine ZV Sol.func135 follows Z2 P2 rfl ?_;simp[H6];refine Zy (J6 hx) Z1 ?_;simp_all[U2]
def I7{x:Int}(hx:ZA x)(w:World):Calls Sol.prog 135 #[.int .u64 x] w λe a=>e=.returned (.bool (U2 x))/\Below (U (R w)) w a:=
 Tn (Z4E hx) rfl rfl w
structure Words (w:World) (ws:List Int) (g o cap:Nat):Prop where
 at_:∀(i:Nat) (x:Int),ws[i]?=xk x->w.cell? ⟨g,o+i,xw⟩=xk (.int .u64 x)
 le:P ws<=cap
 cap:cap<=maxLen
 len:P ws<=1000000
 u64:∀x∈ws,ZA x
def V0(e:Int):List PanicEntry:=[{v:=.iface 189 (.agg #[.int .i64 e]),recovered:=xh}]
def Wr(o:Ob):Value:=.agg #[.int .i64 o.at_,.int .i64 o.size,.int .i64 o.ptrs,.bool o.gone,.int .u64 o.target]
def LE(ws:List Int)(o:Ob):Ending:=
 if(P ws:Int)<o.at_+1+o.size then .panicked (V0 2)else if XG ((ws.drop (o.at_.toNat+1)).take o.size.toNat) o.gone o.ptrs 0=xh then .panicked (V0 3)else .returned (.tuple #[])
def Z0Z(w:World)(ws:List Int)(g o cap:Nat)(C:Words w ws g o cap)(Y:g<xz (xj w))(t:Ob)(a:Nat)(L:t.at_=a)(A:a<xq ws)(B:Yx t.size t.ptrs=xy):
  Calls Sol.prog 134 #[.slice (xk ⟨g,o,xw⟩) (xq ws) cap,Wr t] w λe w'=>e=LE ws t/\Below (xz (xj w)) w w':=by
 have hl:=C.len;have hc:=C.le;have hm:=C.cap;obtain⟨at_,size,ptrs,gone,target⟩:=t;simp only at L B;subst L;obtain⟨s1,s2,s3,s4⟩:=YG.1 B;obtain⟨m,rfl⟩:=Zd7 s1;have J:=ZcX C;have r:LE ws ⟨a,m,ptrs,gone,target⟩=if(xq ws:Int)<a+1+m then .panicked (V0 2)else if XG ((ws.drop (a+1)).take m) gone ptrs 0=xh then .panicked (V0 3)else .returned (.tuple #[]):=rfl
 generalize LE ws ⟨a,m,ptrs,gone,target⟩=E at*;unfold Wr;dsimp only;by_cases l:(xq ws:Int)<a+1+m
 .rw[if_pos l]at r;have u:=ZcX r;clear r;have Q:((xq ws- (a+1):Nat):Int)<m:=Z0;go_enter Sol.func134,Try.ntmps134;go_wp2;all_goals exact⟨rfl,u.out.symm,(Zdr _ _).alloc (ZcR _) _⟩
 .rw[if_neg l]at r;have u:=ZcX r;clear r;have N:(m:Int)<=((xq ws- (a+1):Nat):Int):=Z0;have O:m<=xq ws- (a+1):=Z0;have R:(xq ws- (a+1)<m)=False:=ZgP Z0;have X:m<=cap- (a+1):=Z0;have Z:m<=255:=Z0;clear C l;by_cases z:cap=a+1
  .have I:m=0:=Z0;subst I;subst z;go_enter Sol.func134,Try.ntmps134;go_wp2;go_loopw [26] (λi wr=>i=.int .i64 0/\Hid (Below (xz (xj w)) w wr)) (λi _=>0)
   case atStart=>exact⟨rfl,ZcX ((Zdr _ _).alloc (ZcR _) _)⟩
   case round=>
    obtain⟨rfl,T⟩:=hrel;go_wp2;go_end0
    exact⟨u.out.symm,T.out⟩
  .go_enter Sol.func134,Try.ntmps134;go_wp2
   go_loopw [26] (λi wr=>∃k:Nat,i=.int .i64 k/\k<=m/\Hid (Below (xz (xj w)) w wr/\wr.heap[xz (xj w)]?=xk (.cells #[.int .i64 a,.int .i64 m,.int .i64 ptrs,.bool gone,.int .u64 target] 59 (0,0))/\
     XG ((ws.drop (a+1)).take m) gone ptrs 0=XG (((ws.drop (a+1)).take m).drop k) gone ptrs k)) (λi _=>m- (intOf i).toNat)
   case atStart=>exact⟨0,rfl,Z0,ZcX ⟨(Zdr _ _).alloc (ZcR _) _,Zdf w _,rfl⟩⟩
   case round=>
    obtain⟨k,rfl,hk,d⟩:=hrel;by_cases A:k<m
    .obtain⟨x,D⟩:∃x,ws[a+1+k]?=xk x:=⟨_,ZcM Z0⟩;have S:ZA x:=J.out.u64 x (ZcT D);have K:((ws.drop (a+1)).take m)[k]?=xk x:=by
      rw[Zdq,if_pos A,Zdo];exact D
     have c0:wr.cell? ⟨g,o+(a+1)+k,xw⟩=xk (.int .u64 x):=by
      rw[Ze6];exact(d.out.1.cell (p:=⟨g,o+(a+1+k),xw⟩) Y).trans (J.out.at_ _ _ D)
     have c1:wr.cell? ⟨xz (xj w),1,xw⟩=xk (.int .i64 m):=Zcs;have c2:wr.cell? ⟨xz (xj w),2,xw⟩=xk (.int .i64 ptrs):=Zcs;have c3:wr.cell? ⟨xz (xj w),3,xw⟩=xk (.bool gone):=Zcs;have q:=Z6E (gone:=gone) (ptrs:=ptrs) K;have P:(k:Int)<m:=Z0;have G:=YO d.out.2.1;clear D K;have stop:XG (((ws.drop (a+1)).take m).drop k) gone ptrs k=xh->E=.panicked (V0 3):=λh=>by
      rw[u.out,d.out.2.2,h,if_pos rfl]
     cases gone
     .by_cases hp:(k:Int)<ptrs
      .cases H:U2 x
       .have f:=ZcX (stop ZbU);clear stop q;go_wp2_with (go_at_call 135;refine(I7 S _).mono ?_;rintro e w1 ⟨rfl,j⟩;have n:=ZcX j;clear j)
        exact⟨rfl,f.out.symm,d.out.1.trans (n.out.mono d.out.1.size)⟩
       .have y:=ZcX (q.trans (by simp[H]:_=XG (((ws.drop (a+1)).take m).drop (k+1)) xh ptrs (k+1)));clear stop q;go_wp2_with (go_at_call 135;refine(I7 S _).mono ?_;rintro e w1 ⟨rfl,j⟩;have n:=ZcX j;clear j)
        go_wp2;go_roundw
        case rel=>
         exact⟨k+1,by go_num,Z0,ZcX ⟨d.out.1.trans (n.out.mono d.out.1.size),(n.out.block _ G).trans d.out.2.1,d.out.2.2.trans y.out⟩⟩
        case measure=>grind [intOf]
      .have y:=ZcX (q.trans (by simp[hp]:_=XG (((ws.drop (a+1)).take m).drop (k+1)) xh ptrs (k+1)));clear stop q;go_wp2;go_roundw
       case rel=>exact⟨k+1,by go_num,Z0,ZcX ⟨d.out.1,d.out.2.1,d.out.2.2.trans y.out⟩⟩
       case measure=>grind [intOf]
     .by_cases U:x=0
      .subst U;have y:=ZcX (q.trans (by simp[U2]:_=XG (((ws.drop (a+1)).take m).drop (k+1)) xy ptrs (k+1)));clear stop q;go_wp2;go_roundw
       case rel=>exact⟨k+1,by go_num,Z0,ZcX ⟨d.out.1,d.out.2.1,d.out.2.2.trans y.out⟩⟩
       case measure=>grind [intOf]
      .have f:=ZcX (stop ZbU);clear stop q;go_wp2;exact⟨rfl,f.out.symm,d.out.1⟩
    .have:k=m:=Z0;subst this;have F:=d.out.2.2;have M:((ws.drop (a+1)).take k).drop k=[]:=Zeq ZbU;rw[M]at F;have f:=ZcX (u.out.trans (by rw[F];rfl:_=Ending.returned (.tuple #[])));clear F M;go_wp2;go_end0
     exact⟨f.out.symm,d.out.1⟩
end Vm
namespace Vm
open Go Go.Proofs Go.RowKit
def Z3g(w:World):Sem.run Sol.prog (binOp .neq 190 .nilFunc .nilFunc) w=.ok (.bool xh) w:=ZcG
def A4(w:World)(f:FuncId)(vs:Array Value):Sem.run Sol.prog (binOp .neq 190 (.func (.func f) #[] vs) .nilFunc) w=.ok (.bool xy) w:=ZcG
def yk{w:World}{b:Nat}{T:TypeId}{v0 v1 d f v4:Value}(h:w.heap[b]?=xk (.cells #[v0,v1,d,f,v4] T (0,0)))(O:Obj):
  ((w.alloc O).cell? ⟨b,0,xw⟩=xk v0/\(w.alloc O).cell? ⟨b,1,xw⟩=xk v1/\(w.alloc O).cell? ⟨b,2,xw⟩=xk d/\(w.alloc O).cell? ⟨b,3,xw⟩=xk f/\(w.alloc O).cell? ⟨b,4,xw⟩=xk v4)/\
  (w.alloc O).frozen? ⟨b,0,xw⟩=xh/\(w.alloc O).frozen? ⟨b,1,xw⟩=xh/\(w.alloc O).frozen? ⟨b,2,xw⟩=xh/\(w.alloc O).frozen? ⟨b,3,xw⟩=xh/\(w.alloc O).frozen? ⟨b,4,xw⟩=xh:=by
 have a:(w.alloc O).heap[b]?=xk (.cells #[v0,v1,d,f,v4] T (0,0)):=(ZcU _ _ _ (YO h)).trans h;refine⟨⟨?_,?_,?_,?_,?_⟩,X2 a,X2 a,X2 a,X2 a,X2 a⟩<;>(rw[Zd5 _ _ _ _ _ _ a];rfl)
def Sb(a:Nat)(x:Int):Ending:=if(ZP x).2.2=0 then .returned (Wr ⟨a,(ZP x).1,(ZP x).2.1,xh,0⟩)else .panicked (V0 3)
def Om(w:World)(ws:List Int)(g o cap:Nat)(n:Words w ws g o cap)(J:g<xz (xj w))(a:Nat)(x:Int)(hx:ws[a]?=xk x):
  Calls Sol.prog 133 #[.slice (xk ⟨g,o,xw⟩) (xq ws) cap,.int .i64 a,.nilFunc] w λe L=>e=Sb a x/\Below (xz (xj w)) w L:=by
 have T:=n.len;have S:=n.le;have U:=n.cap;have K:a<xq ws:=(ZcN.1 hx).1;have A:(a:Int)<xq ws:=Z0;have q:ZA x:=n.u64 x (ZcT hx);have C:=n.at_ a x hx;have z:∀W,Below (xz (xj w)) w W->W.cell? ⟨g,o+a,xw⟩=xk (.int .u64 x):=λW I=>(I.cell (p:=⟨g,o+a,xw⟩) J).trans C;have l:Sb a x=if(ZP x).2.2=0 then .returned (Wr ⟨a,(ZP x).1,(ZP x).2.1,xh,0⟩)else .panicked (V0 3):=rfl
 generalize Sb a x=E at*;have y:=ZcX z;have B:=Z3g;clear n hx z;by_cases t:(ZP x).2.2=0
 .rw[if_pos t]at l;have r:=ZcX l;clear l;go_enter Sol.func133,Try.ntmps133
  go_wp2_with (first
   |(go_at_call 44;refine(VD q _).mono ?_;rintro e w1 ⟨rfl,f⟩;have d:=ZcX f;have D:=y.out w1 (((((Zdr _ w).alloc (ZcR _) _).alloc (by simp) _).trans (f.mono (by simp;omega))));clear f)
   | (go_at_call 69;refine(KO q _).mono ?_;rintro e w2 ⟨rfl,h⟩;have j:=ZcX h
      have H:=d.out.block;have r0:w2.heap[xz (xj w)]?=xk (.cells #[.int .i64 0,.int .i64 0,.int .i64 0,.bool xh,.int .u64 0] 59 (0,0)):=(h.block _ Zcn).trans ((d.out.block _ ZbV).trans ((ZcU _ _ _ Z1).trans (Zdf w _)));have u:w2.heap[xz (xj w)+1]?=xk (.cells #[.int .i64 a,.int .i64 0,.int .i64 0,.bool xh,.int .u64 0] 59 (0,0)):=(h.block _ Zcn).trans ((d.out.block _ Z1).trans ZbZ);obtain⟨⟨M,N,O,P,Q⟩,y0,y1,y2,y3,y4⟩:=yk r0 (.cells #[.int .i64 (ZP x).1,.int .i64 (ZP x).2.1] 52);obtain⟨⟨X,Y,p2,p3,p4⟩,Z,q1,q2,q3,q4⟩:=yk u (.cells #[.int .i64 (ZP x).1,.int .i64 (ZP x).2.1] 52);have R:=ZcX (And.intro r0 u);clear h H r0 u))
  refine ZdU (v:=Wr ⟨a,(ZP x).1,(ZP x).2.1,xh,0⟩) ?_ rfl ⟨r.out.symm,?_⟩
  .simp[results,Try.results133,go_sem,Wr,M,N,O,P,Q]
  have k:=(((Zdr _ w).alloc (ZcR _) (.cells #[.int .i64 0,.int .i64 0,.int .i64 0,.bool xh,.int .u64 0] 59)).alloc Z1 (.cells #[.int .i64 a,.int .i64 0,.int .i64 0,.bool xh,.int .u64 0] 59)).trans (d.out.mono ZbV);have G:=(k.trans (j.out.mono (by have:=k.size;omega))).alloc (by have:=k.size;have:=j.out.size;omega) (.cells #[.int .i64 (ZP x).1,.int .i64 (ZP x).2.1] 52);exact((((((G.setCell (p:=⟨xz (xj w)+1,1,xw⟩) Z1 _).setCell (p:=⟨xz (xj w)+1,2,xw⟩) Z1 _).setCell (p:=⟨xz (xj w),0,xw⟩) (ZcR _) _).setCell (p:=⟨xz (xj w),1,xw⟩) (ZcR _) _).setCell (p:=⟨xz (xj w),2,xw⟩) (ZcR _) _).setCell (p:=⟨xz (xj w),3,xw⟩) (ZcR _) _).setCell (p:=⟨xz (xj w),4,xw⟩) (ZcR _) _
 .rw[if_neg t]at l;have r:=ZcX l;clear l;have F:((ZP x).2.2=0)=False:=ZgP t;go_enter Sol.func133,Try.ntmps133
  go_wp2_with (first
   |(go_at_call 44;refine(VD q _).mono ?_;rintro e w1 ⟨rfl,f⟩;have d:=ZcX f;have D:=y.out w1 (((((Zdr _ w).alloc (ZcR _) _).alloc (by simp) _).trans (f.mono (by simp;omega))));clear f)
   |(go_at_call 69;refine(KO q _).mono ?_;rintro e w2 ⟨rfl,h⟩;have j:=ZcX h;clear h))
  refine⟨rfl,r.out.symm,?_⟩;have k:=(((Zdr _ w).alloc (ZcR _) (.cells #[.int .i64 0,.int .i64 0,.int .i64 0,.bool xh,.int .u64 0] 59)).alloc Z1 (.cells #[.int .i64 a,.int .i64 0,.int .i64 0,.bool xh,.int .u64 0] 59)).trans (d.out.mono ZbV);exact(k.trans (j.out.mono (by have:=k.size;omega))).alloc (by have:=k.size;have:=j.out.size;omega) _
end Vm
namespace Vm
open Go Go.Proofs Go.RowKit
def Mb(s p:Int)(w:World):Calls Sol.prog 94 #[.agg #[.int .i64 s,.int .i64 p]] w λe a=>e=.returned (.bool (Yx s p))/\Below (U (R w)) w a:=
 Tn IG rfl rfl w
structure Shps (w:World) (shs:List (Int×Int)) (bs:Nat) (v:Value):Prop where
 box:w.heap[bs]?=xk (.cells #[v] 180 (0,0))
 val:(∃g o cap,v=.slice (xk ⟨g,o,xw⟩) (P shs) cap/\P shs<=cap/\cap<=maxLen/\g<U (R w)/\∀(i:Nat) (x:Int×Int),shs[i]?=xk x->w.cell? ⟨g,o+i*2,xw⟩=xk (.int .i64 x.1)/\w.cell? ⟨g,o+i*2+1,xw⟩=xk (.int .i64 x.2))\/
  (∃a cap,v=.slice a 0 cap/\shs=[])
def Z0P(w:World)(shs:List (Int×Int))(bt h:Nat)(v:Value)(x:P shs<=1000000)(d:Shps w shs h v)(f:w.heap[bt]?=xk (.cells #[.int .i64 (P shs)] 3 (0,0))):
  Calls Sol.prog 129 #[.pointer (xk ⟨bt,0,xw⟩),.pointer (xk ⟨h,0,xw⟩)] w λe p=>e=.panicked (V0 3)/\Below (U (R w)) w p:=by
 have k:w.cell? ⟨bt,0,xw⟩=xk (.int .i64 (P shs)):=by rw[Zd5 _ _ _ _ _ _ f];rfl
 have n:=YO f;have j:=YO d.box;have q:w.cell? ⟨h,0,xw⟩=xk v:=by rw[Zd5 _ _ _ _ _ _ d.box];rfl
 obtain⟨g,o,cap,rfl,r,t,u,l⟩|⟨a,cap,rfl,rfl⟩:=d.val
 .clear l d f;go_enter Sol.func129,Try.ntmps129;go_wp2;exact⟨rfl,rfl,(Zdr _ _).alloc (ZcR _) _⟩
 .clear d f;simp only[ZeV]at k;go_enter Sol.func129,Try.ntmps129;go_wp2;exact⟨rfl,rfl,(Zdr _ _).alloc (ZcR _) _⟩
def Z0O(w:World)(shs:List (Int×Int))(bt j t:Nat)(v:Value)(x:Int×Int)(I:P shs<=1000000)(f:Shps w shs j v)(k:w.heap[bt]?=xk (.cells #[.int .i64 t] 3 (0,0)))(hx:shs[t]?=xk x)(r:Yx x.1 x.2=xh):
  Calls Sol.prog 129 #[.pointer (xk ⟨bt,0,xw⟩),.pointer (xk ⟨j,0,xw⟩)] w λe A=>e=.panicked (V0 3)/\Below (U (R w)) w A:=by
 have B:w.cell? ⟨bt,0,xw⟩=xk (.int .i64 t):=by rw[Zd5 _ _ _ _ _ _ k];rfl
 have u:=YO k;have p:=YO f.box;have y:t<P shs:=(ZcN.1 hx).1;have z:¬t=P shs:=Z0;have q:(t:Int)<P shs:=Z0;have C:w.cell? ⟨j,0,xw⟩=xk v:=by rw[Zd5 _ _ _ _ _ _ f.box];rfl
 obtain⟨g,o,cap,rfl,F,G,H,n⟩|⟨a,cap,rfl,rfl⟩:=f.val
 .obtain⟨D,d1⟩:=n t x hx;have l:=Mb x.1 x.2;rw[r]at l;clear n f k hx r;go_enter Sol.func129,Try.ntmps129;go_wp2_with (go_at_call 94;refine(l _).mono ?_;rintro e w1 ⟨rfl,d⟩;have h:=ZcX d;clear d)
  exact⟨rfl,rfl,((Zdr _ w).alloc (ZcR _) _).trans (h.out.mono Z1)⟩
 grind
def Z0Q(w:World)(shs:List (Int×Int))(bt f t:Nat)(v:Value)(x:Int×Int)(hl:xq shs<=1000000)(y:Shps w shs f v)(l:w.heap[bt]?=xk (.cells #[.int .i64 t] 3 (0,0)))(hx:shs[t]?=xk x)(J:Yx x.1 x.2=xy)(q:f≠bt)
  (r:∀g o cap,v=.slice (xk ⟨g,o,xw⟩) (xq shs) cap->g≠bt):
  Calls Sol.prog 129 #[.pointer (xk ⟨bt,0,xw⟩),.pointer (xk ⟨f,0,xw⟩)] w λe K=>e=.returned (.agg #[.int .i64 x.1,.int .i64 x.2])/\w.grownBy K (xk bt)/\K.heap[bt]?=xk (.cells #[.int .i64 ((t+1:Nat):Int)] 3 (0,0)):=by
 have L:w.cell? ⟨bt,0,xw⟩=xk (.int .i64 t):=by rw[Zd5 _ _ _ _ _ _ l];rfl
 have h:=YO l;have n:=YO y.box;have P:t<xq shs:=(ZcN.1 hx).1;have u:¬t=xq shs:=Z0;have I:(t:Int)<xq shs:=Z0;have M:w.cell? ⟨f,0,xw⟩=xk v:=by rw[Zd5 _ _ _ _ _ _ y.box];rfl
 have hf:=X2 (o:=0) l;have G:¬f=bt:=q;have H:¬bt=f:=λe=>q e.symm;obtain⟨g,o,cap,rfl,Y,Z,D,F⟩|⟨a,cap,rfl,rfl⟩:=y.val
 .obtain⟨N,d1⟩:=F t x hx;have hg:=r g o cap rfl;have C:=Mb x.1 x.2;rw[J]at C;have B:=ZcX l;clear F y l hx J r;go_enter Sol.func129,Try.ntmps129
  go_wp2_with (go_at_call 94;refine(C _).mono ?_;rintro e w1 ⟨rfl,d⟩
               have z:=ZcX d;have s1:=d.size;have k0:w1.cell? ⟨bt,0,xw⟩=xk (.int .i64 t):=(d.cell (p:=⟨bt,0,xw⟩) ZbV).trans ((Zee _ _ _ h).trans L);have k1:w1.frozen? ⟨bt,0,xw⟩=xh:=X2 ((d.block bt ZbV).trans ((ZcU _ _ _ h).trans B.out));have k2:w1.cell? ⟨f,0,xw⟩=xk (.slice (xk ⟨g,o,xw⟩) (xq shs) cap):=(d.cell (p:=⟨f,0,xw⟩) ZbV).trans ((Zee _ _ _ n).trans M);have k3:w1.cell? ⟨g,o+t*2,xw⟩=xk (.int .i64 x.1):=(d.cell (p:=⟨g,o+t*2,xw⟩) ZbV).trans ((Zee _ _ _ D).trans N);have k4:w1.cell? ⟨g,o+t*2+1,xw⟩=xk (.int .i64 x.2):=(d.cell (p:=⟨g,o+t*2+1,xw⟩) ZbV).trans ((Zee _ _ _ D).trans d1);have r0:w1.heap[xz (xj w)]?=xk (.cells #[.int .i64 0,.int .i64 0] 52 (0,0)):=(d.block _ Z1).trans (Zdf w _);have T:w1.cell? ⟨xz (xj w),0,xw⟩=xk (.int .i64 0):=by rw[Zd5 _ _ _ _ _ _ r0];rfl
               have U:w1.cell? ⟨xz (xj w),1,xw⟩=xk (.int .i64 0):=by rw[Zd5 _ _ _ _ _ _ r0];rfl
               have y0:=X2 (o:=0) r0;have y1:=X2 (o:=1) r0;have R:¬xz (xj w)=bt:=Z0;have S:¬bt=xz (xj w):=Z0;have X:=ZcX r0;clear d r0)
  have j:Below (xz (xj w)) w w1:=((Zdr _ w).alloc (ZcR _) (.cells #[.int .i64 0,.int .i64 0] 52)).trans (z.out.mono Z1);have Q:w1.heap[bt]?=xk (.cells #[.int .i64 t] 3 (0,0)):=(j.block bt h).trans B.out;refine ZdU (v:=.agg #[.int .i64 x.1,.int .i64 x.2]) ?_ rfl ⟨rfl,⟨j.os,j.tape,j.output,?_,λk O u=> ?_⟩,?_⟩
  .simp[results,Try.results129,go_sem,T,U,R,S]
  simp[World.setCell];exact j.size;have A:k≠bt:=λe=>u (by rw[e]);rw[Zdi _ _ _ _ ZbT,Zdi _ _ _ _ ZbT,Zdi _ _ _ _ A];exact j.block k O;simp_all[Zdi,World.setCell,ZdW]
 grind
end Vm
namespace Vm
open Go Go.Proofs Go.RowKit
def On(w:World)(f:FuncId)(vs:Array Value)(ws:List Int)(g o cap:Nat)(q:Words w ws g o cap)(M:g<xz (xj w))(a:Nat)(x:Int)(hx:ws[a]?=xk x)(y:¬(adr x).2=0):
  Calls Sol.prog 133 #[.slice (xk ⟨g,o,xw⟩) (xq ws) cap,.int .i64 a,.func (.func f) #[] vs] w λe O=>e=Sb a x/\Below (xz (xj w)) w O:=by
 have Y:=q.len;have X:=q.le;have Z:=q.cap;have N:a<xq ws:=(ZcN.1 hx).1;have C:(a:Int)<xq ws:=Z0;have r:ZA x:=q.u64 x (ZcT hx);have F:=q.at_ a x hx;have B:∀W,Below (xz (xj w)) w W->W.cell? ⟨g,o+a,xw⟩=xk (.int .u64 x):=λW K=>(K.cell (p:=⟨g,o+a,xw⟩) M).trans F;have n:Sb a x=if(ZP x).2.2=0 then .returned (Wr ⟨a,(ZP x).1,(ZP x).2.1,xh,0⟩)else .panicked (V0 3):=rfl
 generalize Sb a x=E at*;have A:=ZcX B;have L:=λW=>A4 W f vs;have D:((adr x).2=0)=False:=ZgP y;clear q hx B;by_cases u:(ZP x).2.2=0
 .rw[if_pos u]at n;have t:=ZcX n;clear n;go_enter Sol.func133,Try.ntmps133
  go_wp2_with (first
   |(go_at_call 44;refine(VD r _).mono ?_;rintro e w1 ⟨rfl,h⟩;have d:=ZcX h;have G:=A.out w1 (((((Zdr _ w).alloc (ZcR _) _).alloc (by simp) _).trans (h.mono (by simp;omega))));clear h)
   | (go_at_call 69;refine(KO r _).mono ?_;rintro e w2 ⟨rfl,j⟩;have k:=ZcX j
      have J:=d.out.block;have r0:w2.heap[xz (xj w)]?=xk (.cells #[.int .i64 0,.int .i64 0,.int .i64 0,.bool xh,.int .u64 0] 59 (0,0)):=(j.block _ Zcn).trans ((d.out.block _ ZbV).trans ((ZcU _ _ _ Z1).trans (Zdf w _)));have z:w2.heap[xz (xj w)+1]?=xk (.cells #[.int .i64 a,.int .i64 0,.int .i64 0,.bool xh,.int .u64 0] 59 (0,0)):=(j.block _ Zcn).trans ((d.out.block _ Z1).trans ZbZ);obtain⟨⟨P,Q,R,S,T⟩,y0,y1,y2,y3,y4⟩:=yk r0 (.cells #[.int .i64 (ZP x).1,.int .i64 (ZP x).2.1] 52);obtain⟨⟨p0,p1,p2,p3,p4⟩,q0,q1,q2,q3,q4⟩:=yk z (.cells #[.int .i64 (ZP x).1,.int .i64 (ZP x).2.1] 52);have U:=ZcX (And.intro r0 z);clear j J r0 z))
  refine ZdU (v:=Wr ⟨a,(ZP x).1,(ZP x).2.1,xh,0⟩) ?_ rfl ⟨t.out.symm,?_⟩
  .simp[results,Try.results133,go_sem,Wr,P,Q,R,S,T]
  have l:=(((Zdr _ w).alloc (ZcR _) (.cells #[.int .i64 0,.int .i64 0,.int .i64 0,.bool xh,.int .u64 0] 59)).alloc Z1 (.cells #[.int .i64 a,.int .i64 0,.int .i64 0,.bool xh,.int .u64 0] 59)).trans (d.out.mono ZbV);have I:=(l.trans (k.out.mono (by have:=l.size;omega))).alloc (by have:=l.size;have:=k.out.size;omega) (.cells #[.int .i64 (ZP x).1,.int .i64 (ZP x).2.1] 52);exact((((((I.setCell (p:=⟨xz (xj w)+1,1,xw⟩) Z1 _).setCell (p:=⟨xz (xj w)+1,2,xw⟩) Z1 _).setCell (p:=⟨xz (xj w),0,xw⟩) (ZcR _) _).setCell (p:=⟨xz (xj w),1,xw⟩) (ZcR _) _).setCell (p:=⟨xz (xj w),2,xw⟩) (ZcR _) _).setCell (p:=⟨xz (xj w),3,xw⟩) (ZcR _) _).setCell (p:=⟨xz (xj w),4,xw⟩) (ZcR _) _
 .rw[if_neg u]at n;have t:=ZcX n;clear n;have H:((ZP x).2.2=0)=False:=ZgP u;go_enter Sol.func133,Try.ntmps133
  go_wp2_with (first
   |(go_at_call 44;refine(VD r _).mono ?_;rintro e w1 ⟨rfl,h⟩;have d:=ZcX h;have G:=A.out w1 (((((Zdr _ w).alloc (ZcR _) _).alloc (by simp) _).trans (h.mono (by simp;omega))));clear h)
   |(go_at_call 69;refine(KO r _).mono ?_;rintro e w2 ⟨rfl,j⟩;have k:=ZcX j;clear j))
  refine⟨rfl,t.out.symm,?_⟩;have l:=(((Zdr _ w).alloc (ZcR _) (.cells #[.int .i64 0,.int .i64 0,.int .i64 0,.bool xh,.int .u64 0] 59)).alloc Z1 (.cells #[.int .i64 a,.int .i64 0,.int .i64 0,.bool xh,.int .u64 0] 59)).trans (d.out.mono ZbV);exact(l.trans (k.out.mono (by have:=l.size;omega))).alloc (by have:=l.size;have:=k.out.size;omega) _
def Df(w:World)(vs:Array Value)(ws:List Int)(g o cap:Nat)(h:Words w ws g o cap)(G:g<U (R w))(a:Nat)(x:Int)(hx:ws[a]?=xk x)(A:(adr x).2=0)
  (d:∀W,Below (U (R w)) w W->Calls Sol.prog 129 vs W λe W'=>e=.panicked (V0 3)/\Below (U (R W)) W W'):
  Calls Sol.prog 133 #[.slice (xk ⟨g,o,xw⟩) (P ws) cap,.int .i64 a,.func (.func 129) #[] vs] w λe C=>e=.panicked (V0 3)/\Below (U (R w)) w C:=by
 have H:=h.len;have F:=h.le;have I:=h.cap;have z:a<P ws:=(ZcN.1 hx).1;have t:(a:Int)<P ws:=Z0;have B:ZA x:=h.u64 x (ZcT hx);have D:=h.at_ a x hx;have y:=λW=>A4 W 129 vs;have u:=ZcX d;clear h hx d;go_enter Sol.func133,Try.ntmps133
 go_wp2_with (first
  | (go_at_call 44;refine(VD B _).mono ?_;rintro e w1 ⟨rfl,f⟩
     have r:Below (U (R w)) w w1:=((((Zdr _ w).alloc (ZcR _) _).alloc Z1 _).trans (f.mono ZbV));have k:w1.heap[U (R w)+1]?=xk (.cells #[.int .i64 a,.int .i64 0,.int .i64 0,.bool xh,.int .u64 0] 59 (0,0)):=(f.block _ Z1).trans ZbZ;have p3:w1.cell? ⟨U (R w)+1,3,xw⟩=xk (.bool xh):=by rw[Zd5 _ _ _ _ _ _ k];rfl
     have p4:w1.cell? ⟨U (R w)+1,4,xw⟩=xk (.int .u64 0):=by rw[Zd5 _ _ _ _ _ _ k];rfl
     have J:=X2 (o:=3) k;have K:=X2 (o:=4) k;have n:=ZcX r;clear f r k)
  |(go_at_call 129;refine(u.out _ ?_).mono ?_;rotate_left;rintro e w2 ⟨rfl,j⟩;have l:=ZcX j;clear j))
 case refine_1=>exact(n.out.setCell (p:=⟨U (R w)+1,3,xw⟩) Z1 _).setCell (p:=⟨U (R w)+1,4,xw⟩) Z1 _
 case refine_2=>
  have q:=(n.out.setCell (p:=⟨U (R w)+1,3,xw⟩) Z1 (.bool xy)).setCell (p:=⟨U (R w)+1,4,xw⟩) Z1 (.int .u64 (adr x).1);exact⟨rfl,rfl,q.trans (l.out.mono q.size)⟩
theorem Z0S{w W:World}{r:Option Nat}(h:w.grownBy W r){p:Addr}(f:U (R w)<=p.block)(u:Value):w.grownBy (W.setCell p u) r:=
 ⟨h.os,h.tape,h.output,by simpa[World.setCell]using h.size,λk d a=>(Zdi _ _ _ _ Z0).trans (h.block k d a)⟩
def Ol(w:World)(vs:Array Value)(ws:List Int)(g o cap:Nat)(r:Words w ws g o cap)(Z:g<xz (xj w))(a:Nat)(x:Int)(hx:ws[a]?=xk x)(N:(adr x).2=0)
  (bt:Nat) (O:Obj) (s p:Int) (J:bt<xz (xj w))
  (f:∀W,Below (xz (xj w)) w W->Calls Sol.prog 129 vs W λe W'=>e=.returned (.agg #[.int .i64 s,.int .i64 p])/\W.grownBy W' (xk bt)/\W'.heap[bt]?=xk O):
  Calls Sol.prog 133 #[.slice (xk ⟨g,o,xw⟩) (xq ws) cap,.int .i64 a,.func (.func 129) #[] vs] w λe H=>e=.returned (Wr ⟨a,s,p,xy,(adr x).1⟩)/\w.grownBy H (xk bt)/\H.heap[bt]?=xk O:=by
 have hl:=r.len;have Y:=r.le;have hm:=r.cap;have M:a<xq ws:=(ZcN.1 hx).1;have G:(a:Int)<xq ws:=Z0;have P:ZA x:=r.u64 x (ZcT hx);have X:=r.at_ a x hx;have K:=λW=>A4 W 129 vs;have I:=ZcX f;clear r hx f;go_enter Sol.func133,Try.ntmps133
 go_wp2_with (first
  | (go_at_call 44;refine(VD P _).mono ?_;rintro e w1 ⟨rfl,j⟩
     have D:Below (xz (xj w)) w w1:=((((Zdr _ w).alloc (ZcR _) _).alloc Z1 _).trans (j.mono ZbV));have t:w1.heap[xz (xj w)+1]?=xk (.cells #[.int .i64 a,.int .i64 0,.int .i64 0,.bool xh,.int .u64 0] 59 (0,0)):=(j.block _ Z1).trans ZbZ;have p3:w1.cell? ⟨xz (xj w)+1,3,xw⟩=xk (.bool xh):=by rw[Zd5 _ _ _ _ _ _ t];rfl
     have p4:w1.cell? ⟨xz (xj w)+1,4,xw⟩=xk (.int .u64 0):=by rw[Zd5 _ _ _ _ _ _ t];rfl
     have q3:=X2 (o:=3) t;have q4:=X2 (o:=4) t;have r0:w1.heap[xz (xj w)]?=xk (.cells #[.int .i64 0,.int .i64 0,.int .i64 0,.bool xh,.int .u64 0] 59 (0,0)):=(j.block _ ZbV).trans ((ZcU _ _ _ Z1).trans (Zdf w _));have z:=ZcX (And.intro r0 t);have C:=ZcX D;clear j D r0 t)
  | (go_at_call 129;refine(I.out _ ?_).mono ?_;rotate_left;rintro e w2 ⟨rfl,l,u⟩
     have d:=ZcX l;have A:=ZcX u;have n:w2.heap[xz (xj w)+1]?=xk (.cells #[.int .i64 a,.int .i64 0,.int .i64 0,.bool xy,.int .u64 (adr x).1] 59 (0,0)):=(l.block _ (by simp[World.setCell];exact YO z.out.2) ZbV).trans (by simp[World.setCell,ZdW,z.out.2]);have h:w2.heap[xz (xj w)]?=xk (.cells #[.int .i64 0,.int .i64 0,.int .i64 0,.bool xh,.int .u64 0] 59 (0,0)):=(l.block _ (by simp[World.setCell];exact YO z.out.1) ZbV).trans (by simp[World.setCell,ZdW,z.out.1]);have s0:w2.cell? ⟨xz (xj w)+1,0,xw⟩=xk (.int .i64 a):=Zcf;have s1:w2.cell? ⟨xz (xj w)+1,1,xw⟩=xk (.int .i64 0):=Zcf;have s2:w2.cell? ⟨xz (xj w)+1,2,xw⟩=xk (.int .i64 0):=Zcf;have s3:w2.cell? ⟨xz (xj w)+1,3,xw⟩=xk (.bool xy):=Zcf;have s4:w2.cell? ⟨xz (xj w)+1,4,xw⟩=xk (.int .u64 (adr x).1):=Zcf;have Q:w2.cell? ⟨xz (xj w),0,xw⟩=xk (.int .i64 0):=Zce;have R:w2.cell? ⟨xz (xj w),1,xw⟩=xk (.int .i64 0):=Zce;have S:w2.cell? ⟨xz (xj w),2,xw⟩=xk (.int .i64 0):=Zce;have T:w2.cell? ⟨xz (xj w),3,xw⟩=xk (.bool xh):=Zce;have U:w2.cell? ⟨xz (xj w),4,xw⟩=xk (.int .u64 0):=Zce;have u1:=X2 (o:=1) n;have u2:=X2 (o:=2) n;have v0:=X2 (o:=0) h;have v1:=X2 (o:=1) h;have v2:=X2 (o:=2) h;have v3:=X2 (o:=3) h;have v4:=X2 (o:=4) h;clear l u h n))
 case refine_1=>exact(C.out.setCell (p:=⟨xz (xj w)+1,3,xw⟩) Z1 _).setCell (p:=⟨xz (xj w)+1,4,xw⟩) Z1 _
 next=>
  have q:=(C.out.setCell (p:=⟨xz (xj w)+1,3,xw⟩) Z1 (.bool xy)).setCell (p:=⟨xz (xj w)+1,4,xw⟩) Z1 (.int .u64 (adr x).1);have L:w.grownBy w2 (xk bt):=⟨d.out.os.trans q.os,d.out.tape.trans q.tape,d.out.output.trans q.output,Zdm q.size d.out.size,λk F B=>(d.out.block k (ZcY F q.size) B).trans (q.block k F)⟩;have k1:bt≠xz (xj w)+1:=Z0;have y:bt≠xz (xj w):=Z0;clear q;refine ZdU (v:=Wr ⟨a,s,p,xy,(adr x).1⟩) ?_ rfl ⟨rfl,?_,?_⟩
  .simp[results,Try.results133,go_sem,Wr,Q,R,S,T,U]
  grind [Z0S];rw[Zdi _ _ _ _ y,Zdi _ _ _ _ y,Zdi _ _ _ _ y,Zdi _ _ _ _ y,Zdi _ _ _ _ y,Zdi _ _ _ _ k1,Zdi _ _ _ _ k1];exact A.out
end Vm
namespace Vm
open Go Go.Proofs Go.RowKit Go.Shelf
def Ua(W:World)(bl:Nat):Option Nat:=(W.cell? ⟨bl,0,xw⟩).bind Value.ownBlock
structure KpW (bl base:Nat) (A B:World):Prop where
 size:U (R A)<=U (R B)
 same:∀k o,A.heap[k]?=xk o->o.isCells=xy->k≠bl->(k<base\/Ua A bl≠xk k)->B.heap[k]?=xk o
 row:∀k,k<U (R A)->Ua B bl=xk k->Ua A bl=xk k
theorem KpW.trans{bl base:Nat}{A B C:World}(h:KpW bl base A B)(k:KpW bl base B C):KpW bl base A C:=
 ⟨Zdm h.size k.size,λi o a j l d=>k.same i o (h.same i o a j l d) j l (d.imp id λf e=>f (h.row i (YO a) e)),λi a d=>h.row i a (k.row i (ZcY a h.size) d)⟩
theorem KpW.put{bl base:Nat}{W:World}{l:Nat}{o:Obj}(d:Obj)(n:W.heap[l]?=xk o)(p:o.isCells=xh)(h:bl≠l):KpW bl base W (W.putObj l d):=by
 have a:(W.putObj l d).cell? ⟨bl,0,xw⟩=W.cell? ⟨bl,0,xw⟩:=ZdL (ZdX Z0);refine⟨(ZfZ W l d).size,λk r j f _ _=> ?_,λk _ q=> ?_⟩;grind [World.putObj_heap_other,trans];simp_all[Ua]
def KT(ws:List Int)(g o cap:Nat)(gv:Value)(shs:List (Int×Int))(old:Bool)(bt:Option Nat)(K:Nat->World->Prop):Prop:=
 ∀(W:World) (a t:Nat) (x:Int),Words W ws g o cap->g<U (R W)->K t W->ws[a]?=xk x->
  Calls Sol.prog 133 #[.slice (xk ⟨g,o,xw⟩) (P ws) cap,.int .i64 a,gv] W λe W'=>W.grownBy W' bt/\match XT shs old a t x with
   |some (d,f)=>e=.returned (Wr d)/\K f W'
   |none=>e=.panicked (V0 3)
def Li(ws:List Int)(shs:List (Int×Int))(old:Bool)(K:Nat->World->Prop)(xs:List Ob)(W:World):Prop:=
 ∃t,K t W/\ZN ws shs old=(if t<(P shs) then([],3)else(xs,0))
def Z0d(ws:List Int)(shs:List (Int×Int))(old:Bool)(chain:List PanicEntry)(pre:List Ob)(W:World):Prop:=
 ∃e,(e=2\/e=3)/\chain=V0 e/\ZN ws shs old=([],e)
structure Stat6 (ws:List Int) (g o cap:Nat) (sv:Value) (bw bg base bl:Nat) (bt:Option Nat) (gv:Value) (W:World):Prop where
 words:Words W ws g o cap
 sv_:sv=.slice (xk ⟨g,o,xw⟩) (P ws) cap\/(ws=[]/\∃a c,sv=.slice a 0 c)
 hbw:W.heap[bw]?=xk (.cells #[sv] 35 (0,0))
 hbg:W.heap[bg]?=xk (.cells #[gv] 190 (0,0))
 gb:ws≠[]->∃ob,W.heap[g]?=xk ob/\ob.isCells=xy
 lt:g<base/\bw<base/\bg<base/\base<=U (R W)
 ne:g≠bl/\bw≠bl/\bg≠bl
 nt:xk g≠bt/\xk bw≠bt/\xk bg≠bt
section
variable {ws:List Int}{g o cap bw bg base bl:Nat}{bt:Option Nat}{sv gv:Value}{W W':World}
theorem Stat6.of(h:Stat6 ws g o cap sv bw bg base bl bt gv W)(n:U (R W)<=U (R W'))(d:∀k a,W.heap[k]?=xk a->a.isCells=xy->k<base->k≠bl->xk k≠bt->W'.heap[k]?=xk a):Stat6 ws g o cap sv bw bg base bl bt gv W':=by
 refine⟨⟨λi x p=> ?_,h.words.le,h.words.cap,h.words.len,h.words.u64⟩,h.sv_,d _ _ h.hbw rfl h.lt.2.1 h.ne.2.1 h.nt.2.1,d _ _ h.hbg rfl h.lt.2.2.1 h.ne.2.2 h.nt.2.2,λj=> ?_,⟨h.lt.1,h.lt.2.1,h.lt.2.2.1,Zdm h.lt.2.2.2 n⟩,h.ne,h.nt⟩;have j:ws≠[]:=λe=>ZbU;obtain⟨a,l,f⟩:=h.gb j;have q:=d _ _ l f h.lt.1 h.ne.1 h.nt.1;rw[<-h.words.at_ i x p];grind [World.cell?_of_block];obtain⟨a,l,f⟩:=h.gb j;exact⟨a,d _ _ l f h.lt.1 h.ne.1 h.nt.1,f⟩
def Stat6.grown(h:Stat6 ws g o cap sv bw bg base bl bt gv W)(a:W.grownBy W' bt):Stat6 ws g o cap sv bw bg base bl bt gv W':=
 h.of a.size λk j d _ _ _ f=>(a.block k (YO d) f).trans d
def Stat6.kp(h:Stat6 ws g o cap sv bw bg base bl bt gv W)(j:KpW bl base W W'):Stat6 ws g o cap sv bw bg base bl bt gv W':=
 h.of j.size λk n a l d f _=>j.same k n a l f (.inl d)
end
def Re{W W':World}(a:Below (U (R W)) W W')(r:Option Nat):W.grownBy W' r:=⟨a.os,a.tape,a.output,a.size,λk d _=>a.block k d⟩
def Oi{ws:List Int}{g o cap:Nat}:KT ws g o cap .nilFunc [] xh xw (λt _=>t=0):=by
 intro W a t x h f k j;refine(Om W ws g o cap h f a x j).mono ?_;rintro e W' ⟨rfl,d⟩;refine⟨Re d xw,?_⟩;unfold XT Sb;grind
def Shps.grown{W W':World}{shs:List (Int×Int)}{d:Nat}{v:Value}{r:Option Nat}(h:Shps W shs d v)(j:W.grownBy W' r)(f:xk d≠r)(k:shs≠[]->∀g o cap,v=.slice (xk ⟨g,o,xw⟩) (P shs) cap->xk g≠r):Shps W' shs d v:=by
 refine⟨(j.block _ (YO h.box) f).trans h.box,?_⟩;obtain⟨g,o,cap,rfl,n,p,l,q⟩|⟨a,cap,rfl,rfl⟩:=h.val;refine .inl ⟨g,o,cap,rfl,n,p,ZcY l j.size,λi x u=> ?_⟩;have t:=j.block g l (k (λe=>ZbU) _ _ _ rfl);grind [World.cell?_of_block,trans];simp
def KOld(shs:List (Int×Int))(bt a:Nat)(v:Value)(t:Nat)(W:World):Prop:=W.heap[bt]?=xk (.cells #[.int .i64 t] 3 (0,0))/\Shps W shs a v/\t<=P shs
def Oj{ws:List Int}{g o cap:Nat}{shs:List (Int×Int)}{bt k:Nat}{v:Value}(B:P shs<=1000000)(n:k≠bt)(q:shs≠[]->∀g o cap,v=.slice (xk ⟨g,o,xw⟩) (P shs) cap->g≠bt):
  KT ws g o cap (.func (.func 129) #[] #[.pointer (xk ⟨bt,0,xw⟩),.pointer (xk ⟨k,0,xw⟩)]) shs xy (xk bt) (KOld shs bt k v):=by
 intro W a t x y w F z;obtain⟨A,D,K⟩:=F;have p:xk k≠xk bt:=λe=>n ZbT;have r:shs≠[]->∀g o cap,v=.slice (xk ⟨g,o,xw⟩) (P shs) cap->xk g≠xk bt:=λJ g o cap e M=>q J g o cap e ZbT;have h:∀W',Below (U (R W)) W W'->Shps W' shs k v:=λW' d=>D.grown (Re d xw) Z1 (λ_ _ _ _ _=>Z1);have f:∀W',Below (U (R W)) W W'->W'.heap[bt]?=xk (.cells #[.int .i64 t] 3 (0,0)):=λW' d=>(d.block _ (YO A)).trans A;by_cases l:(adr x).2=0;unfold XT;rw[if_pos ⟨rfl,l⟩];cases j:shs[t]? with
 |none=>
  have:t=P shs:=by have:=Zfk.1 j;omega
  subst this;refine(Df W _ ws g o cap y w a x z l λW' d=>Z0P W' shs bt k v B (h W' d) (f W' d)).mono ?_;rintro e W' ⟨rfl,d⟩;exact⟨Re d _,rfl⟩
 |some s=>
  simp only;cases u:Yx s.1 s.2;refine(Df W _ ws g o cap y w a x z l λW' d=>Z0O W' shs bt k t v s B (h W' d) (f W' d) j u).mono ?_;rintro e W' ⟨rfl,d⟩;exact⟨Re d _,Z1⟩;refine(Ol W _ ws g o cap y w a x z l bt _ s.1 s.2 (YO A) λW' d=>Z0Q W' shs bt k t v s B (h W' d) (f W' d) j u n (q (λe=>ZbU))).mono ?_;rintro e W' ⟨rfl,C,G⟩;have I:=(ZcN.1 j).1;refine⟨C,?_⟩;simp only[Zdv];exact⟨trivial,G,D.grown C p r,Z0⟩
 refine(On W _ _ ws g o cap y w a x z l).mono ?_;rintro e W' ⟨rfl,d⟩;refine⟨Re d _,?_⟩;unfold XT Sb;rw[if_neg (λH=>l H.2)];by_cases L:(ZP x).2.2=0;simp only[L,Zdv];exact⟨trivial,f W' d,h W' d,K⟩;simp_all
end Vm
end
section
namespace Vm
open Go Go.Proofs Go.RowKit Go.Shelf
def CD(a:Nat)(W:World):Prop:=∀k,Ua W a=xk k->k<U (R W)
def Ew{A B C:World}{r:Option Nat}(h:A.grownBy B r)(k:B.grownBy C r):A.grownBy C r:=
 ⟨k.os.trans h.os,k.tape.trans h.tape,k.output.trans h.output,Zdm h.size k.size,λi a d=>(k.block i (ZcY a h.size) d).trans (h.block i a d)⟩
def Z7r(ws:List Int)(shs:List (Int×Int))(old:Bool){a t g:Nat}{x:Int}{d:Ob}(hx:ws[a]?=xk x)(h:XT shs old a t x=xk (d,g)){f:Nat}{pre:List Ob}:
  Xi ws shs old (f+1) a t pre=if(P ws:Int)<a+1+d.size then([],2)else if XG ((ws.drop (a+1)).take d.size.toNat) d.gone d.ptrs 0=xh then([],3)else Xi ws shs old f (a+1+d.size.toNat) g (pre++[d]):=by
 simp_all[Xi]
def Z09(n:Nat){w:World}{ws:List Int}{g o cap bw bg base z:Nat}{bt:Option Nat}{sv gv:Value}{shs:List (Int×Int)}{old:Bool}{K:Nat->World->Prop}(d6:Stat6 ws g o cap sv bw bg base z bt gv w)
  (e7:z<base) (b0:xk z≠bt) (a7:KT ws g o cap gv shs old bt K) (c7:K 0 w) (a4:∀t W W',K t W->Below (xz (xj W)) W W'->K t W') (c9:∀t W W',K t W->KpW z base W W'->K t W'):
  CE Fence.wide n Sol.prog 132 #[.pointer (xk ⟨bw,0,xw⟩),.pointer (xk ⟨bg,0,xw⟩)] (λd:Ob=> #[Wr d]) (KpW z base) (Li ws shs old K) (Z0d ws shs old) (xq ws) bt (CD z) w:=by
 intro l J W hW c6 hJ hY h0;refine callsIn_of_wp Sol.func132 rfl trivial ?_ rfl;simp only[Try.ntmps132,Ze7,Zec,ZeV,Nat.reduceAdd,Nat.reduceSub,Zfi,Zfj,ZfF,Zfp,ZdJ,Ze2];have b9:=ZcX (d6.grown (Re hW bt));have b7:=ZcX (a4 0 w W c7 hW);have b5:=ZcX h0;clear h0;gi_wp2
 gi_loopw [4] (λp wr=>∃(a t f:Nat) (pre:List Ob),p=.int .i64 a/\Hid (J pre wr/\K t wr/\Stat6 ws g o cap sv bw bg base z bt gv wr/\xq ws<f+a/\0<f/\a<=xq ws/\xq pre<=a/\ZN ws shs old=Xi ws shs old f a t pre))
  (λp _=>xq ws- (intOf p).toNat)
 case atStart=>exact⟨0,0,xq ws+1,[],rfl,ZcX ⟨b5.out,b7.out,b9.out,Z0,Z0,Z0,Z1,rfl⟩⟩
 case round=>
  obtain⟨a,t,f,pre,rfl,j⟩:=hrel;have k:=j.out.2.2.1;have Z:=k.sv_;have c1:wr.cell? ⟨bw,0,xw⟩=xk sv:=by rw[Zd5 _ _ _ _ _ _ k.hbw];rfl
  have c2:wr.cell? ⟨bg,0,xw⟩=xk gv:=by rw[Zd5 _ _ _ _ _ _ k.hbg];rfl
  have d8:=k.words.len;clear k;by_cases a9:a<xq ws
  .obtain⟨x,hx⟩:∃x,ws[a]?=xk x:=⟨_,ZcM a9⟩;obtain rfl:sv=.slice (xk ⟨g,o,xw⟩) (xq ws) cap:=Z.resolve_right (λh=>ZbU);clear Z;have d9:((a:Int)<xq ws)=True:=eq_true Z0;have hb:=a7 wr a t x j.out.2.2.1.words (by have:=j.out.2.2.1.lt;omega) j.out.2.1 hx;cases ho:XT shs old a t x with
   |none=>
    rw[ho]at hb;have HX:=ZcX hb;clear hb;gi_wp2
    refine⟨trivial,λh=>Zc4,(Zga.2 HX.out).mono ?_⟩;rintro e w1 ⟨y,rfl⟩;have H:=ZcX y;clear y;gi_wp2
    refine⟨rfl,.inr ⟨_,pre,rfl,⟨3,.inr rfl,rfl,?_⟩,hJ _ _ _ _ j.out.1 H.out (λr e=>e.symm)⟩⟩;obtain⟨_,_,_,hf,M,_,_,I⟩:=j.out;cases f with
    |zero=>omega
    |succ f=>
     simp_all[Xi]
   |some q=>
    obtain⟨d,t'⟩:=q;rw[ho]at hb;have HX:=ZcX hb;clear hb;obtain⟨Y,B⟩:=zt ho;gi_wp2
    refine⟨trivial,λh=>Zc4,(Zga.2 HX.out).mono ?_⟩;rintro e w1 ⟨y,rfl,a8⟩;have H:=ZcX y;have b8:=ZcX a8;have L:=j.out.2.2.1.grown y;have e5:=ZcX L;have e1:∀O,(w1.alloc O).cell? ⟨bw,0,xw⟩=xk (.slice (xk ⟨g,o,xw⟩) (xq ws) cap):=λO=>by
     rw[Zee _ _ _ (YO L.hbw),Zd5 _ _ _ _ _ _ L.hbw];rfl
    have X:wr.grownBy (w1.alloc (.cells #[.int .i64 a,.int .i64 d.size,.int .i64 d.ptrs,.bool d.gone,.int .u64 d.target] 59)) bt:=Ew y (Zea _ _ _);have a6:=ZcX (j.out.2.2.1.grown X);have hh:=Z0Z (w1.alloc (.cells #[.int .i64 a,.int .i64 d.size,.int .i64 d.ptrs,.bool d.gone,.int .u64 d.target] 59)) ws g o cap a6.out.words (by have:=a6.out.lt;omega) d a B a9 Y;unfold Wr at hh;rw[B]at hh;have b3:=ZcX X;have Q:=ZcX hh;have G:∀f pre,Xi ws shs old (f+1) a t pre=_:=λf pre=>Z7r ws shs old hx ho (f:=f) (pre:=pre);have R:=ZcX G;clear y a8 L X hh G hx;unfold Wr;gi_wp2
    refine⟨trivial,λh=>Zc4,(Zga.2 Q.out).mono ?_⟩;rintro e w2 ⟨rfl,C⟩;have A:wr.grownBy w2 bt:=Ew b3.out (Re C bt);have P:=ZcX A;have b1:=ZcX C;unfold LE;by_cases S:(xq ws:Int)<d.at_+1+d.size
    .rw[if_pos S];rw[B]at S;clear C A;gi_wp2
     refine⟨rfl,.inr ⟨_,pre,rfl,⟨2,.inl rfl,rfl,?_⟩,hJ _ _ _ _ j.out.1 P.out (λr e=>e.symm)⟩⟩;obtain⟨_,_,_,hf,M,_,_,I⟩:=j.out;obtain⟨f,rfl⟩:∃f',f=f'+1:=⟨f-1,Z0⟩;rw[I,R.out,if_pos S]
    .rw[if_neg S];by_cases T:XG ((ws.drop (d.at_.toNat+1)).take d.size.toNat) d.gone d.ptrs 0=xh
     .rw[if_pos T];rw[B]at S T;clear C A;gi_wp2
      refine⟨rfl,.inr ⟨_,pre,rfl,⟨3,.inr rfl,rfl,?_⟩,hJ _ _ _ _ j.out.1 P.out (λr e=>e.symm)⟩⟩;obtain⟨_,_,_,hf,M,_,_,I⟩:=j.out;obtain⟨f,rfl⟩:∃f',f=f'+1:=⟨f-1,Z0⟩;rw[I,R.out,if_neg Z0];simp_all
     .rw[if_neg T];rw[B]at S T;simp only[Zda]at T;have b4:=ZcX (And.intro S T);have U:=hJ _ _ _ _ j.out.1 A (λr e=>e.symm);have e3:=ZcX U;have c0:=ZcX (j.out.2.2.1.grown A);have u:w2.heap[xz (xj w1)]?=xk (.cells #[.int .i64 a,.int .i64 d.size,.int .i64 d.ptrs,.bool d.gone,.int .u64 d.target] 59 (0,0)):=(C.block _ Z1).trans (Zdf w1 _);have b2:=ZcX u;obtain⟨fn,e2,assign,d7,hy,I⟩:=hY pre d w2 U (by have:=j.out.2.2.2.2.2.2.1;omega);unfold Wr at hy;rw[B]at hy;have d0:w2.cell? ⟨xz (xj w1),0,xw⟩=xk (.int .i64 a):=Zcg;have d1:w2.cell? ⟨xz (xj w1),1,xw⟩=xk (.int .i64 d.size):=Zcg;have d2:w2.cell? ⟨xz (xj w1),2,xw⟩=xk (.int .i64 d.ptrs):=Zcg;have d3:w2.cell? ⟨xz (xj w1),3,xw⟩=xk (.bool d.gone):=Zcg;have d4:w2.cell? ⟨xz (xj w1),4,xw⟩=xk (.int .u64 d.target):=Zcg;clear C A U u;gi_wp2
      refine⟨λh=>Zc4,I.mono ?_⟩;rintro e W3 ⟨rfl,a1,D⟩;have b6:=ZcX a1;have e4:=ZcX D;have F:Ua w2 z≠xk (xz (xj w1)):=by
       intro e;have d5:z<xz (xj wr):=by have:=j.out.2.2.1.lt.2.2.2;omega
       have:Ua w2 z=Ua wr z:=by
        unfold Ua;rw[ZdL (a:=⟨z,0,xw⟩) (P.out.block z d5 b0)]
       rw[this]at e;have:=c6 _ _ j.out.1 _ e;have:=H.out.size;omega
      have N:=D.same _ _ b2.out rfl (by have:=j.out.2.2.1.lt.2.2.2;have:=H.out.size;omega) (.inr F);have f1:W3.cell? ⟨xz (xj w1),1,xw⟩=xk (.int .i64 d.size):=by rw[Zd5 _ _ _ _ _ _ N];rfl
      have a5:=c0.out.kp D;have a2:K t' w2:=a4 _ _ _ b8.out (((Zdr _ _).alloc (ZcR _) _).trans (b1.out.mono Z1));have a3:=c9 _ _ _ a2 D;have a0:=ZcX (And.intro a5 a3);obtain⟨m,hm⟩:∃m:Nat,d.size=m:=⟨d.size.toNat,by have:=(YG.1 Y).1;omega⟩;rw[hm]at f1;have e9:(m:Int)<=255:=by have:=(YG.1 Y);omega
      have q1:IntKind.i64.wrap (1+(m:Int))=((1+m:Nat):Int):=by rw[Zz _ Z0 Z0];omega
      have q2:IntKind.i64.wrap ((a:Int)+((1+m:Nat):Int))=((a+(1+m):Nat):Int):=by rw[Zz _ Z0 Z0];omega
      clear a1 D N a5 a2 a3 F;clear T;gi_wp2
      obtain⟨_,_,_,hf,M,e6,f0,I⟩:=j.out;obtain⟨f,rfl⟩:∃f',f=f'+1:=⟨f-1,Z0⟩;rw[R.out,if_neg Z0,if_neg b4.out.2]at I;have e8:a+1+m<=xq ws:=Z0;refine⟨⟨a+(1+m),t',f,pre++[d],Z1,ZcX ⟨b6.out,a0.out.2,a0.out.1,Z0,Z0,Z0,ZbV,?_⟩⟩,by grind [intOf]⟩;grind
  .have e0:((a:Int)<xq ws)=False:=ZgP Z0
   have HE:Hid (Li ws shs old K pre wr):=ZcX (by
    obtain⟨_,hK,_,hf,M,_,_,I⟩:=j.out;refine⟨t,hK,?_⟩;cases f with
    |zero=>omega
    |succ f=>
     simp_all[Xi,ZdY])
   obtain⟨sa,sc,rfl⟩:∃sa sc,sv=.slice sa (xq ws) sc:=by
    grind
   clear Z;gi_wp2
   go_end0
   exact .inl ⟨_,pre,rfl,HE.out,j.out.1⟩
end Vm
namespace Vm
open Go Go.Proofs Go.RowKit Go.Shelf
def Z0a(w:World)(g d:Value)(k:∃a n c,g=.slice a n c)(h:d=.nilFunc\/∃f vs,d=.func (.func f) #[] vs):
  Calls Sol.prog 131 #[g,d] w λe l=>e=.returned (.func (.func 132) #[] #[.pointer (xk ⟨U (R w),0,xw⟩),.pointer (xk ⟨U (R w)+1,0,xw⟩)])/\
   l=(w.alloc (.cells #[g] 35)).alloc (.cells #[d] 190):=by
 have j:∀(fn:Go.Fn) (first cap:Array Value) (w:World),(Instr.makeFunc fn first cap).run Sol.prog w=.ok (.func fn first cap) w:=λ_ _ _ _=>rfl;obtain⟨a,n,c,rfl⟩:=k;obtain rfl|⟨f,vs,rfl⟩:=h
 .go_enter Sol.func131,Try.ntmps131;go_wp2;exact ZdU (results_tmp rfl _ _ _) rfl ⟨rfl,rfl⟩
 .go_enter Sol.func131,Try.ntmps131;go_wp2;exact ZdU (results_tmp rfl _ _ _) rfl ⟨rfl,rfl⟩
def Z3e(w:World):Sem.run Sol.prog (binOp .neq 20 .nilIface .nilIface) w=.ok (.bool xh) w:=ZcG
def Z3f(w:World)(T:TypeId)(v:Value):Sem.run Sol.prog (binOp .neq 20 (.iface T v) .nilIface) w=.ok (.bool xy) w:=ZcG
def Z71(w:World)(x:Int):Sem.run Sol.prog (Instr.typeAssert (.iface 189 (.agg #[.int .i64 x])) 20 189 xy) w=.ok (.tuple #[.agg #[.int .i64 x],.bool xy]) w:=ZcG
def s9(n:Nat)(p q:Addr)(w:World):
  CallsDIn Fence.wide n Sol.prog 130 #[.pointer (xk p),.pointer (xk q)] .returning w λe f g=>e=.returned (.tuple #[])/\f=.returning/\g=w:=by
 have j:=Z3e;refine callsDIn_of_wpSIn Sol.func130 rfl trivial λa h d=> ?_;simp only[Try.ntmps130,Ze7,Zec,ZeV,Nat.reduceAdd,Nat.reduceSub,Zfi,Zfj,ZfF,Zfp,ZdJ,Ze2];apply wpSIn_seq;apply wpSIn_region;simp[wpOpsSIn,go_sem,recoverD,d,Exit.thenS];refine wpSIn_of_wpIn rfl ?_;gi_wp2
 cases a;simp_all [bodyPostS,results,Try.results130]
def t5(n:Nat)(a d:Nat)(x:Int)(w:World)(z l:Value)(f:Boxed w a 55 z)(g:Boxed w d 32 l)(h:a≠d):
  CallsDIn Fence.wide n Sol.prog 130 #[.pointer (xk ⟨a,0,xw⟩),.pointer (xk ⟨d,0,xw⟩)] (.panicking (V0 x)) w λe y j=>
   e=.returned (.tuple #[])/\y=.panicking [{v:=.iface 189 (.agg #[.int .i64 x]),recovered:=xy}]/\
   Boxed j a 55 (.slice xw 0 0)/\Boxed j d 32 (.int .i64 x)/\(xz (xj w)<=xz (xj j)/\∀k,k<xz (xj w)->k≠a->k≠d->j.heap[k]?=w.heap[k]?)/\j.os=w.os/\j.tape=w.tape/\j.output=w.output:=by
 have C:=Z3f;have D:=Z71;have N:=(f.alloc (.cells #[.int .i64 x] 189)).cell;have p2:=(f.alloc (.cells #[.int .i64 x] 189)).frozen;have O:=(g.alloc (.cells #[.int .i64 x] 189)).cell;have P:=(g.alloc (.cells #[.int .i64 x] 189)).frozen;have p3:=f.cell;have p4:=f.frozen;have Q:=g.cell;have R:=g.frozen;have H:=f.lt;have I:=g.lt;have t:¬a=d:=h;have u:¬d=a:=λe=>h e.symm;have J:¬a=xz (xj w):=Z0;have K:¬xz (xj w)=a:=Z0;have L:¬d=xz (xj w):=Z0;have M:¬xz (xj w)=d:=Z0;have o:=ZcX (And.intro f g);clear f g h;refine callsDIn_of_wpSIn Sol.func130 rfl trivial λB A r=> ?_;simp only[Try.ntmps130,Ze7,Zec,ZeV,Nat.reduceAdd,Nat.reduceSub,Zfi,Zfj,ZfF,Zfp,ZdJ,Ze2];apply wpSIn_seq;apply wpSIn_region;simp[wpOpsSIn,go_sem,recoverD,r,V0,Exit.thenS];refine wpSIn_of_wpIn rfl ?_;gi_wp2
 gi_region
 all_goals gi_wp2
 obtain⟨f,g⟩:=o.out;have p:Boxed ((w.setCell ⟨a,0,xw⟩ (.slice xw 0 0)).setCell ⟨d,0,xw⟩ (.int .i64 x)) a 55 (.slice xw 0 0):=(Zdi _ ⟨d,0,xw⟩ _ a t).trans (f.set _);have q:Boxed ((w.setCell ⟨a,0,xw⟩ (.slice xw 0 0)).setCell ⟨d,0,xw⟩ (.int .i64 x)) d 32 (.int .i64 x):=Boxed.set _ (show Boxed (w.setCell ⟨a,0,xw⟩ (.slice xw 0 0)) d 32 l from(Zdi _ ⟨a,0,xw⟩ _ d u).trans g);refine⟨rfl,_,rfl,_,by simp[results,Try.results130],rfl,rfl,p.alloc _,q.alloc _,⟨?_,λk F k1 G=> ?_⟩,rfl,rfl,rfl⟩;simp;show(World.alloc _ _).heap[k]?=_;grind [Below.heap_alloc,World.setCell,Below.heap_setCell]
end Vm
namespace Vm
open Go Go.Proofs Go.RowKit Go.Shelf
def T8(a:Ob):List Value:=[.int .i64 a.at_,.int .i64 a.size,.int .i64 a.ptrs,.bool a.gone,.int .u64 a.target]
def Ws(l:List Ob):List Value:=l.flatMap T8
def Z3y(l:List Ob)(x:Ob):Ws (l++[x])=Ws l++T8 x:=by simp[Ws]
structure WIv (w:World) (bt:Option Nat) (pre:List Ob) (W:World):Prop where
 row:∃v,Boxed W (U (R w)) 55 v/\W.ownsRow (U (R w)+4) 59 5 v (P pre) (Ws pre)
 e:Boxed W (U (R w)+1) 32 (.int .i64 0)
 gr:w.grownBy W bt
 size:U (R w)+4<=U (R W)
def Sn{w X Y:World}{bt row:Option Nat}(h:w.grownBy X bt)(k:X.grownBy Y row)(f:∀r,row=xk r->xk r=bt\/U (R w)<=r):w.grownBy Y bt:=
 ⟨k.os.trans h.os,k.tape.trans h.tape,k.output.trans h.output,Zdm h.size k.size,λi a d=>
  (k.block i (ZcY a h.size) (λe=>ZbT)).trans (h.block i a d)⟩
theorem yl{W:World}{b:Nat}{t:TypeId}{v:Value}(h:Boxed W b t v):Ua W b=v.ownBlock:=by
 unfold Ua;rw[h.cell];rfl
def WIv.rowIn{w:World}{bt:Option Nat}{pre:List Ob}{W:World}(h:WIv w bt pre W):CD (U (R w)) W:=by
 obtain⟨v,f,d⟩:=h.row;intro k a;rw[yl f]at a;exact(d.lt k a).2
def WIv.own{w:World}{bt:Option Nat}(y:∀r,bt=xk r->r<U (R w)):OwnP bt (U (R w)+4) (WIv w bt):=by
 intro s X Y row h d l;have f:∀k,U (R w)<=k->k<U (R w)+4->xk k≠row:=by
  intro k u x e;obtain n|⟨n,_⟩:=l k e.symm;grind;omega
 obtain⟨v,A,a⟩:=h.row;refine⟨⟨v,A.kept d (f _ (ZcR _) Z0),a.kept d ?_⟩,h.e.kept d (f _ Z0 Z0),Sn h.gr d λr e=>(l r e).imp id λx=>Z0,Zdm h.size d.size⟩;cases p:v.ownBlock with
 |none=>simp
 |some b=>
  refine .inr λe=> ?_;have u:=a.lt b p;obtain n|⟨_,o,q,z⟩:=l b e.symm;grind;obtain⟨rfl,_⟩|⟨g,cap,t,rfl,_,j,_⟩:=a.2;simp[Value.ownBlock]at p;obtain rfl:g=b:=by grind [Value.ownBlock]
  rw[j]at q;cases q;cases z
def WIv.appended{w W w1:World}{bt:Option Nat}{pre:List Ob}{x:Ob}{v v':Value}{tmp:Obj}(C:∀r,bt=xk r->r<U (R w))(h:WIv w bt pre W)(A:Boxed W (U (R w)) 55 v)
  (g:W.ownsRow (U (R w)+4) 59 5 v (P pre) (Ws pre)) (d:w1.ownsRow (U (R w)+4) 59 5 v' (P pre+1) (Ws pre++T8 x))
  (a:(W.alloc tmp).grownBy w1 v.ownBlock) (f:v'.ownBlock=v.ownBlock\/v'.ownBlock=xk (U (R (W.alloc tmp)))):
  Boxed w1 (U (R w)) 55 v/\KeepsFrom (U (R w)+4) W (w1.setCell ⟨U (R w),0,xw⟩ v')/\KpW (U (R w)) (U (R w)+4) W (w1.setCell ⟨U (R w),0,xw⟩ v')/\WIv w bt (pre++[x]) (w1.setCell ⟨U (R w),0,xw⟩ v'):=by
 have u:=h.size;obtain⟨y,l,F,j,B⟩:=A.appended (by decide) (zI g (B':=U (R w)) Z0) Z0 (ZcR _) (zI d (B':=U (R w)) Z0) a;have z:∀b,v.ownBlock=xk b->U (R w)+4<=b:=λb p=>(g.lt b p).1
 have t:(w1.setCell ⟨U (R w),0,xw⟩ v').ownsRow (U (R w)+4) 59 5 v' (P pre+1) (Ws pre++T8 x):=d.kept (ZfN w1 (U (R w)) v') (by
  cases p:v'.ownBlock with
  |none=>simp
  |some b=>exact .inr λe=>by have G:=(d.lt b p).1;grind)
 refine⟨y,j.from _,⟨j.size,λk o n H D I=> ?_,λk n e=> ?_⟩,⟨v',l,?_⟩,?_,?_,Zdm u j.size⟩;rw[Zdi _ _ _ _ D,a.block k (by have:=YO n;simp;omega) (λe=> ?_),ZcU _ _ _ (YO n),n];grind [yl,trans];rw[yl l]at e;rw[yl A];obtain f|f:=f;simp_all;rw[f]at e;simp at e;omega;simp_all[ZdD,Z3y];have q:Boxed w1 (U (R w)+1) 32 (.int .i64 0):=(h.e.alloc tmp).kept a (λe=>ZbT);exact(Zdi _ _ _ _ Z1).trans q;refine Sn (Sn (Sn h.gr (Zea W tmp xw) Z1) a λr e=>.inr ?_) (ZfN w1 (U (R w)) v') λr e=>.inr ?_;grind;simp_all
def KpW.alloc{a base:Nat}{W:World}(o:Obj)(f:a<U (R W)):KpW a base W (W.alloc o):=by
 refine⟨Z1,λk h d _ _ _=>(ZcU _ _ _ (YO d)).trans d,λk _ g=> ?_⟩;simp_all[Ua,Zee]
end Vm
namespace Vm
open Go Go.Proofs Go.RowKit Go.Shelf
attribute [local go_sem] Oper.semAt_some
def Z2d:(Sol.prog.info? 59).map (λi=>(i.zero,i.size,i.bytes))=xk (xk (.agg #[.int .i64 0,.int .i64 0,.int .i64 0,.bool xh,.int .u64 0]),5,40):=Z2
def unO:Sol.prog.underlying 55=xk (.slice 59):=Z2
def u9(w:World)(a b c d e:Value)(t:TypeId):∀j u,[a,b,c,d,e][j]?=xk u->(w.alloc (.cells #[a,b,c,d,e] t)).cell? ((⟨U (R w),0,xw⟩:Addr).add j)=xk u:=by
 intro j u h;have:=Zd5 _ _ j _ _ _ (Zdf w (.cells #[a,b,c,d,e] t));grind [add,Addr.add]
def CI(w:World)(ws:List Int)(shs:List (Int×Int))(old:Bool)(bt:Option Nat)(K:Nat->World->Prop)(e:Ending)(W:World):Prop:=
 ∃v n a,e=.returned (.tuple #[v,.int .i64 n])/\w.grownBy W bt/\W.ownsRow (U (R w)+4) 59 5 v (P a) (Ws a)/\((n=0/\Li ws shs old K a W)\/((n=2\/n=3)/\a=[]/\ZN ws shs old=([],n)))
def MY{w:World}{ws:List Int}{g o cap:Nat}{bt:Option Nat}{p j:Value}{shs:List (Int×Int)}{old:Bool}{K:Nat->World->Prop}(hw:Words w ws g o cap)
  (a9:p=.slice (xk ⟨g,o,xw⟩) (xq ws) cap\/(ws=[]/\∃a c,p=.slice a 0 c)) (hg:(ws≠[]->g<xz (xj w))/\g<xz (xj w)+4/\g≠xz (xj w)) (c6:j=.nilFunc\/∃f vs,j=.func (.func f) #[] vs)
  (T:∀r,bt=xk r->r<xz (xj w)) (c0:xk g≠bt) (a4:KT ws g o cap j shs old bt K) (b4:K 0 w)
  (z:∀t A B row,K t A->A.grownBy B row->(∀r,row=xk r->xz (xj w)<=r)->K t B)
  (b6:∀bl base t A B,xz (xj w)<=bl->xz (xj w)<=base->K t A->KpW bl base A B->K t B):
  Calls Sol.prog 128 #[p,j] w (CI w ws shs old bt K):=by
 refine(Zga (n:=5)).1 ?_;have f5:∀(fn:Go.Fn) (first cap:Array Value) (w:World),(Instr.makeFunc fn first cap).run Sol.prog w=.ok (.func fn first cap) w:=λ_ _ _ _=>rfl;have d6:∃a n c,p=.slice a n c:=by
  obtain rfl|⟨_,a,c,rfl⟩:=a9;simp;simp
 refine callsIn_of_wp_marks Sol.func128 rfl trivial ?_ rfl;simp only[Try.ntmps128,Ze7,Zec,ZeV,Nat.reduceAdd,Nat.reduceSub,Zfi,Zfj,ZfF,Zfp,ZdJ,Ze2];have he:=λW=>Z0a W p j d6 c6;gi_wp2
 refine⟨trivial,(Zga.2 (he _)).mono ?_⟩;rintro e w1 ⟨rfl,rfl⟩;gi_wp2
 have a0:∀b:Nat,b<xz (xj w)->((((w.alloc (Obj.cells #[.slice xw 0 0] 55)).alloc (.cells #[.int .i64 0] 32)).alloc (.cells #[p] 35)).alloc (.cells #[j] 190)).heap[b]?=w.heap[b]? :=λb hb=>by
  grind [Below.heap_alloc]
 have b0:Boxed ((((w.alloc (Obj.cells #[.slice xw 0 0] 55)).alloc (.cells #[.int .i64 0] 32)).alloc (.cells #[p] 35)).alloc (.cells #[j] 190)) (xz (xj w)) 55 (.slice xw 0 0):=(((Boxed.new w _ _).alloc _).alloc _).alloc _;have b1:Boxed ((((w.alloc (Obj.cells #[.slice xw 0 0] 55)).alloc (.cells #[.int .i64 0] 32)).alloc (.cells #[p] 35)).alloc (.cells #[j] 190)) (xz (xj w)+1) 32 (.int .i64 0):=by
  have:=((Boxed.new (w.alloc (Obj.cells #[.slice xw 0 0] 55)) 32 (.int .i64 0)).alloc (.cells #[p] 35)).alloc (.cells #[j] 190);rwa[World.size_alloc]at this
 have b2:Boxed ((((w.alloc (Obj.cells #[.slice xw 0 0] 55)).alloc (.cells #[.int .i64 0] 32)).alloc (.cells #[p] 35)).alloc (.cells #[j] 190)) (xz (xj w)+2) 35 p:=by
  have:=(Boxed.new ((w.alloc (Obj.cells #[.slice xw 0 0] 55)).alloc (.cells #[.int .i64 0] 32)) 35 p).alloc (.cells #[j] 190);simp_all
 have b3:Boxed ((((w.alloc (Obj.cells #[.slice xw 0 0] 55)).alloc (.cells #[.int .i64 0] 32)).alloc (.cells #[p] 35)).alloc (.cells #[j] 190)) (xz (xj w)+3) 190 j:=by
  have:=Boxed.new (((w.alloc (Obj.cells #[.slice xw 0 0] 55)).alloc (.cells #[.int .i64 0] 32)).alloc (.cells #[p] 35)) 190 j;simp_all
 have I:w.grownBy ((((w.alloc (Obj.cells #[.slice xw 0 0] 55)).alloc (.cells #[.int .i64 0] 32)).alloc (.cells #[p] 35)).alloc (.cells #[j] 190)) bt:=⟨rfl,rfl,rfl,ZbV,λk Z _=>a0 k Z⟩;have N:xz (xj ((((w.alloc (Obj.cells #[.slice xw 0 0] 55)).alloc (.cells #[.int .i64 0] 32)).alloc (.cells #[p] 35)).alloc (.cells #[j] 190)))=xz (xj w)+4:=Z1;generalize f3:(((w.alloc (Obj.cells #[.slice xw 0 0] 55)).alloc (.cells #[.int .i64 0] 32)).alloc (.cells #[p] 35)).alloc (.cells #[j] 190)=W0 at*;have d7:Stat6 ws g o cap p (xz (xj w)+2) (xz (xj w)+3) (xz (xj w)+4) (xz (xj w)) bt j W0:=by
  refine⟨⟨λi x F=> ?_,hw.le,hw.cap,hw.len,hw.u64⟩,a9,b2,b3,λhn=> ?_,⟨Z0,Z0,Z0,Z0⟩,⟨Z0,Z0,Z0⟩,c0,?_,?_⟩;rw[<-hw.at_ i x F];grind [World.cell?_of_block];obtain⟨x,F⟩:∃x,ws[0]?=xk x:=by cases ws with|nil=>simp_all|cons x l=>simp
  have:=hw.at_ 0 x F;rw[a0 g (hg.1 hn)];unfold World.cell? at this;cases hh:w.heap[g]? with
  |none=>simp_all
  |some ob=>
   refine⟨ob,rfl,?_⟩;grind [Obj.isCells]
  grind;grind
 have a3:K 0 W0:=z 0 w W0 xw b4 ⟨I.os,I.tape,I.output,I.size,λk Z _=>a0 k Z⟩ Z1;have a8:=Z09 4 d7 Z0 (λe=>ZbT) a4 a3 (λt A B hA M=>z t A B xw hA ⟨M.os,M.tape,M.output,M.size,λk Z _=>M.block k Z⟩ Z1) (λt A B hA M=>b6 _ _ t A B (ZcR _) Z0 hA M)
 refine Z7E rfl Z0 (gf:=132) (lb:=#[.pointer (xk ⟨xz (xj w)+2,0,xw⟩),.pointer (xk ⟨xz (xj w)+3,0,xw⟩)]) rfl trivial (enters_of Sol.func132 Z2 rfl)
  a8 (λr e=>ZbT) KpW.trans (λW l o o' h1 h2 h3 _=>KpW.put o' h2 h3 Z0) (Zdr _ _) (λ_=>rfl)
  (WIv w bt) (N▸WIv.own T) (λpre W h=>h.rowIn) ⟨⟨_,b0,Zed _ _ _ _⟩,b1,I,Z0⟩ ?hS
  (λx a' W=>∃y,xz (xj w)+4<=y/\W.heap[y]?=xk (.cells #[.int .i64 x.at_,.int .i64 x.size,.int .i64 x.ptrs,.bool x.gone,.int .u64 x.target] 59 (0,0))/\
   a'= {tmps:=#[p,j,undef,undef,.pointer (xk ⟨xz (xj w),0,xw⟩),.pointer (xk ⟨xz (xj w)+1,0,xw⟩),.pointer (xk ⟨y,0,xw⟩),
    .func (.func 130) #[] #[.pointer (xk ⟨xz (xj w),0,xw⟩),.pointer (xk ⟨xz (xj w)+1,0,xw⟩)],p,j,.func (.func 132) #[] #[.pointer (xk ⟨xz (xj w)+2,0,xw⟩),.pointer (xk ⟨xz (xj w)+3,0,xw⟩)],Wr x,undef,undef,undef,undef,undef],defers:=[]})
  ?hAx ?assign ?body ?done ?panic
 case hS=>
  rintro u X Y row ⟨t,hK,hR⟩ J d;exact⟨t,z t X Y row hK J λr e=>(d r e).elim (λe2=>by cases e2) (λe2=>Z0),hR⟩
 case hAx=>
  rintro x a' s X Y row ⟨y,M,F,ha⟩ J d;refine⟨y,M,(J.block y (YO F) λe=> ?_).trans F,ha⟩;obtain e2|⟨_,o2,h2,h3⟩:=d y e.symm;cases e2;rw[F]at h2;cases h2;cases h3
 case assign=>
  rintro l pre x W K2 q b5;simp only[List.zip_cons_cons,Array.zip,Wr];gi_wp2
  exact b5 _ _ ((KeepsOthers.alloc W _).from _) (KpW.alloc _ (by have:=q.size;omega)) ((WIv.own T).alloc _ q) ⟨xz (xj W),q.size,Zdf W _,rfl⟩
 case body=>
  rintro l pre x a' W q ⟨y,f2,F,rfl⟩ a6;obtain⟨v,O,d⟩:=q.row;obtain⟨i0,c7,d8,d9,e0⟩:=info_parts Z2d;obtain⟨G,H,rfl⟩:=YJ d;have c1:=O.cell;have c2:=O.frozen;have d0:W.cell? ⟨y,0,xw⟩=xk (.int .i64 x.at_):=Zcd;have d1:W.cell? ⟨y,1,xw⟩=xk (.int .i64 x.size):=Zcd;have d2:W.cell? ⟨y,2,xw⟩=xk (.int .i64 x.ptrs):=Zcd;have d3:W.cell? ⟨y,3,xw⟩=xk (.bool x.gone):=Zcd;have d4:W.cell? ⟨y,4,xw⟩=xk (.int .u64 x.target):=Zcd;have f6:xq pre<=1000000:=Zdm (Nat.le_of_lt a6) hw.len;have e9:=q.size;have HA:=λtmp w1 v'=>WIv.appended (W:=W) (w1:=w1) (x:=x) (v':=v') (tmp:=tmp) T q O d;gi_wp2_with (gi_at_builtin;refine wpListIn_append_own_at _ rfl _ _ 55 rfl (xz (xj w)+4) 59 i0 _ 5 40 unO c7 d8 d9 e0 rfl (by decide) _ _ _ rfl (d.alloc _) ⟨xz (xj W),0,xw⟩ 1 1 (T8 x) rfl rfl (u9 _ _ _ _ _ _ _) (by simp[T8,Value.oneCell']) ZcE Z0 ZbV ?_;intro v' w1 L U _ b8;obtain⟨g',e8,rfl⟩:=ownsRow_succ L;obtain⟨e1,e2,e3,e4⟩:=HA _ _ _ L U b8;have e5:=e1.cell;have e6:=e1.frozen)
  rw[N];exact⟨e2,e3,e4⟩
 case done=>
  rintro D u W hD hS q S;obtain⟨v,O,d⟩:=q.row;obtain⟨G,H,rfl⟩:=YJ d;have c1:=O.cell;have c2:=O.frozen;have c3:=q.e.cell;have c4:=q.e.frozen;rw[N]at hD;gi_wp2
  have a2:((W.setCell ⟨xz (xj w),0,xw⟩ (.slice G (xq u) H)).setCell ⟨xz (xj w)+1,0,xw⟩ (.int .i64 0)).heap[D]?=xk (.deferred (xk [])):=by
   rw[Zdi _ _ _ _ ZbT,Zdi _ _ _ _ ZbT];exact S
  have f0:Boxed ((W.setCell ⟨xz (xj w),0,xw⟩ (.slice G (xq u) H)).setCell ⟨xz (xj w)+1,0,xw⟩ (.int .i64 0)) (xz (xj w)) 55 (.slice G (xq u) H):=
   (Zdi _ _ _ _ Z1).trans (O.set _)
  have f1:Boxed ((W.setCell ⟨xz (xj w),0,xw⟩ (.slice G (xq u) H)).setCell ⟨xz (xj w)+1,0,xw⟩ (.int .i64 0)) (xz (xj w)+1) 32 (.int .i64 0):=
   Boxed.set _ (show Boxed (W.setCell ⟨xz (xj w),0,xw⟩ (.slice G (xq u) H)) (xz (xj w)+1) 32 (.int .i64 0)from(Zdi _ _ _ _ Z1).trans q.e)
  have g1:=ZfN W (xz (xj w)) (.slice G (xq u) H);have g2:=ZfN (W.setCell ⟨xz (xj w),0,xw⟩ (.slice G (xq u) H)) (xz (xj w)+1) (.int .i64 0);have P:=d.lt
  have r2:=(d.kept g1 (by
   cases hb:(Value.slice G (xq u) H).ownBlock with
   |none=>simp
   |some b=>exact .inr λe=>by have:=(P b hb).1;grind)).kept g2 (by
   cases hb:(Value.slice G (xq u) H).ownBlock with
   |none=>simp
   |some b=>exact .inr λe=>by have:=(P b hb).1;grind)
  generalize f4:(W.setCell ⟨xz (xj w),0,xw⟩ (.slice G (xq u) H)).setCell ⟨xz (xj w)+1,0,xw⟩ (.int .i64 0)=W2 at*;have g3:=ZfZ W2 D (.deferred xw);have Q:Boxed (W2.putObj D (.deferred xw)) (xz (xj w)) 55 (.slice G (xq u) H):=(ZdX Z0).trans f0;have R:Boxed (W2.putObj D (.deferred xw)) (xz (xj w)+1) 32 (.int .i64 0):=(ZdX Z0).trans f1;have k0:=Q.cell;have k1:=R.cell;refine⟨Z1,.inl ⟨D,_,rfl,run_takeDeferred a2,?_⟩⟩;refine⟨Z1,.inr ⟨λh=>Zc4,.func 130,_,130, #[.pointer (xk ⟨xz (xj w),0,xw⟩),.pointer (xk ⟨xz (xj w)+1,0,xw⟩)],rfl,ZcG,λ_ _=>trivial,?_⟩⟩;refine(s9 _ _ _ _).mono ?_;rintro e u' e7 ⟨rfl,rfl,rfl⟩;refine⟨.tuple #[.slice G (xq u) H,.int .i64 0],by simp[results,Try.results128,go_sem,k0,k1],?_⟩;obtain⟨t,hK,hR⟩:=hS;refine⟨_,0,u,rfl,Sn (Sn (Sn q.gr g1 λr e=>.inr ?_) g2 λr e=>.inr ?_) g3 λr e=>.inr ?_,ownsRow_putObj r2 _ a2 rfl,.inl ⟨rfl,t,z t _ _ _ (z t _ _ _ (z t _ _ _ hK g1 λr e=> ?_) g2 λr e=> ?_) g3 λr e=> ?_,hR⟩⟩;all_goals (grind)
 case panic=>
  rintro D chain pre W hD ⟨e,b9,rfl,b7⟩ q S;rw[N]at hD;obtain⟨v,O,d⟩:=q.row;have g3:=ZfZ W D (.deferred xw);have Q:Boxed (W.putObj D (.deferred xw)) (xz (xj w)) 55 v:=(ZdX Z0).trans O;have R:Boxed (W.putObj D (.deferred xw)) (xz (xj w)+1) 32 (.int .i64 0):=(ZdX Z0).trans q.e;have C:w.grownBy (W.putObj D (.deferred xw)) bt:=Sn q.gr g3 λr e=>.inr ZbT;refine⟨Z1,.inl ⟨D,_,rfl,run_takeDeferred S,?_⟩⟩;refine⟨Z1,.inr ⟨λh=>Zc4,.func 130,_,130, #[.pointer (xk ⟨xz (xj w),0,xw⟩),.pointer (xk ⟨xz (xj w)+1,0,xw⟩)],rfl,ZcG,λ_ _=>trivial,?_⟩⟩;refine(t5 _ (xz (xj w)) (xz (xj w)+1) e _ _ _ Q R Z0).mono ?_;rintro e' u' e7 ⟨rfl,rfl,h0,h1,⟨d5,Z⟩,c9,a1,a7⟩;have k0:=h0.cell;have k1:=h1.cell;refine⟨.tuple #[.slice xw 0 0,.int .i64 e],by simp[results,Try.results128,go_sem,k0,k1],?_⟩;refine⟨_,e,[],rfl,⟨c9.trans C.os,a1.trans C.tape,a7.trans C.output,Zdm C.size d5,λk a5 hn=> ?_⟩,Zed _ _ _ _,.inr ⟨b9,rfl,b7⟩⟩;exact(Z k (ZcY a5 C.size) Z0 Z0).trans (C.block k a5 hn)
end Vm
namespace Vm
open Go Go.Proofs Go.RowKit Go.Shelf
theorem TO{w:World}{G:Nat->Prop}{k:IntKind}{n:Int}{v:Value}(r:Rd w G (.int k n) v):v=.int k n:=by cases r;rfl
theorem Ip{w:World}{G:Nat->Prop}{b:Bool}{v:Value}(r:Rd w G (.bool b) v):v=.bool b:=by cases r;rfl
def N5{w:World}{G:Nat->Prop}{ws:List Int}{v:Value}(r:Rd w G (.sl (ws.map vu)) v)(p:∀b,G b->b<U (R w))(B:P ws<=1000000)(C:∀x∈ws,ZA x)(q:Nat):
  ∃g o cap,Words w ws g o cap/\(v=.slice (xk ⟨g,o,xw⟩) (P ws) cap\/(ws=[]/\∃a c,v=.slice a 0 c))/\((ws≠[]->g<U (R w))/\(g<(U (R w))\/g=q)):=by
 generalize t:ws.map vu=L at r;cases r with
 |nil a cap D=>
  have:ws=[]:=List.map_eq_nil_iff.1 t;subst this;exact⟨q,0,0,⟨λi x d=>ZcC,Z1,ZcE,Z1,Z1⟩,.inr ⟨rfl,a,cap,rfl⟩,λh=>absurd rfl h,.inr rfl⟩
 |sl _ b o cap k vs f y j l n z=>
  subst t;simp only[Zdz]at f n⊢;refine⟨b,o,cap,⟨λi x d=> ?_,f,y,B,C⟩,.inl rfl,λ_=>p b j,.inl (p b j)⟩;have u:(ws.map vu)[i]?=xk (vu x):=by rw[Zdb,d];rfl
  have A:k=1:=((l _ (ZcT u)).1).symm;subst A;have F:i<P ws:=(ZcN.1 d).1;rw[n i Z0];have:=z i (vu x) (by have:=Vk l u 0 Z0;simp_all);rw[TO this]
def Z6l{w:World}{G:Nat->Prop}{shs:List (Int×Int)}{v:Value}(r:Rd w G (.sl (shs.map XZ)) v)(t:∀b,G b->b<U (R w)):
  (∃g o cap,v=.slice (xk ⟨g,o,xw⟩) (P shs) cap/\P shs<=cap/\cap<=maxLen/\g<U (R w)/\∀(i:Nat) (x:Int×Int),shs[i]?=xk x->w.cell? ⟨g,o+i*2,xw⟩=xk (.int .i64 x.1)/\w.cell? ⟨g,o+i*2+1,xw⟩=xk (.int .i64 x.2))\/
  (∃a cap,v=.slice a 0 cap/\shs=[]):=by
 generalize u:shs.map XZ=L at r;cases r with
 |nil a cap B=>
  simp_all
 |sl _ b o cap k vs h n p d q j=>
  subst u;simp only[Zdz]at h q⊢;refine .inl ⟨b,o,cap,rfl,h,n,t b p,λi x l=> ?_⟩;have f:(shs.map XZ)[i]?=xk (XZ x):=by rw[Zdb,l];rfl
  have y:k=2:=((d _ (ZcT f)).1).symm;subst y;have C:i<P shs:=(ZcN.1 l).1;have z:=j (i*2) (vi x.1) (by have:=Vk d f 0 Z0;simp_all);have A:=j (i*2+1) (vi x.2) (by have:=Vk d f 1 Z0;simp_all);grind [TO,Nat.add_assoc]
def Gm{w:World}{G:Nat->Prop}:∀(l:List Ob) (i:Nat) (c:V),(flat (l.map ZH))[i]?=xk c->Rd w G c ((Ws l).getD i undef)
 | [],i,c,h=>ZbU
 |x::l,i,c,h=>by
  rw[Zdc,Sk]at h;have e:Ws (x::l)=T8 x++Ws l:=by simp[Ws]
  rw[e];by_cases d:i<5
  match i,d with
  |0,_=>simp[ZH,V.cells]at h;subst h;exact .int _ _
  |1,_=>simp[ZH,V.cells]at h;subst h;exact .int _ _
  |2,_=>simp[ZH,V.cells]at h;subst h;exact .int _ _
  |3,_=>simp[ZH,V.cells]at h;subst h;exact .bool _
  |4,_=>simp[ZH,V.cells]at h;subst h;exact .int _ _
  have a:(flat (l.map ZH))[i-5]?=xk c:=by
   rw[Zd9 ZbU]at h;simpa[ZH,V.cells]using h
  have:=Gm (w:=w) (G:=G) l (i-5) c a;have f:(T8 x++Ws l).getD i undef=(Ws l).getD (i-5) undef:=by
   simp only[List.getD_eq_getElem?_getD];rw[Zd9 (by grind [T8])];simp[T8]
  simp_all
def Z3z(l:List Ob):∀x∈l.map ZH,V.fits 5 x:=by
 intro x d;obtain⟨o,_,rfl⟩:=Zd1.1 d;exact⟨rfl,λc a=>by simp[ZH,V.cells]at a;obtain rfl|rfl|rfl|rfl|rfl:=a<;>rfl⟩
def Gn{w:World}{G:Nat->Prop}{B:Nat}{e:TypeId}{v:Value}{l:List Ob}(h:w.ownsRow B e 5 v (P l) (Ws l))(n:∀c,B<=c->c<U (R w)->G c):Rd w G (.sl (l.map ZH)) v:=by
 have a:P (Ws l)=P l*5:=h.1;obtain⟨rfl,k⟩|⟨g,cap,j,rfl,o,q,t,d,_⟩:=h.2;have:l=[]:=Zev.1 k;subst this;exact .nil _ _ ZcE
 have:=Rd.sl (w:=w) (G:=G) (l.map ZH) g 0 cap 5 (λi=>(Ws l).getD i undef) ZbU d (n g o (YO q)) (Z3z l) (λi r=>by
   have f:i< P (Ws l):=by rw[a];simpa using r
   rw[Zdy,h.cellAt i Z0];simp[f]) (λi c p=>Gm l i c p)
 simp_all
def Z7s{ws:List Int}{shs:List (Int×Int)}{old:Bool}{K:Nat->World->Prop}{n:Int}{xs:List Ob}{W:World}(a:shs=[])(h:(n=0/\Li ws shs old K xs W)\/((n=2\/n=3)/\xs=[]/\ZN ws shs old=([],n))):ZN ws shs old=(xs,n):=by
 subst a;obtain⟨rfl,t,_,h⟩|⟨_,rfl,h⟩:=h;simp_all;exact h
def qa:SQ:=by
 intro S M N;refine⟨Z2,λw G vs I p q=> ?_⟩;have r0:=q 0 _ rfl;obtain⟨⟨l⟩⟩:=vs;simp at p;rename_i v0 l;cases l with
 |cons _ _=>simp at p
 |nil=>
  simp at r0;obtain⟨g,o,cap,C,k,x,L⟩:=N5 r0 I M N (xz (xj w)+1);have z:=MY (w:=w) (shs:=[]) (old:=xh) (bt:=xw) (K:=λt _=>t=0) C k ⟨x,Z0,Z0⟩ (.inl rfl) Z1 Z1 Oi rfl (λt A B row h _ _=>h) (λO base t A B _ _ h _=>h);obtain⟨Q,R,sc,rfl⟩:∃a n c,v0=.slice a n c:=by
   obtain rfl|⟨_,a,c,rfl⟩:=k;simp;simp
  have D:=ZcX z;clear z C k r0 q;go_enter Sol.func117,Try.ntmps117;go_wp2_with (go_at_call 128;refine D.out.mono ?_;rintro e w1 ⟨v,n,T,rfl,f,d,u⟩;have F:=ZcX (And.intro f (And.intro d u));clear f d u)
  obtain⟨f,d,u⟩:=F.out;have J:=Z7s rfl u;refine ZdU (v:=.tuple #[v,.int .i64 n]) (by simp[results,Try.results117,go_sem]) rfl ⟨_,rfl,(Zdr _ w).grown f (ZcR _) (λj e=>by cases e),?_⟩;rw[J];refine .tup _ _ rfl ?_;intro i y r
  match i,r with
  |0,r=>cases r;exact Gn d λc P H=>.inr ⟨Z0,H⟩
  |1,r=>cases r;exact .int _ _
def KpW.cell{l base:Nat}{A B:World}(h:KpW l base A B){k i:Nat}{c:Value}(hc:A.cell? ⟨k,i,xw⟩=xk c)(n:k<base)(o:k≠l):B.cell? ⟨k,i,xw⟩=xk c:=by
 have d:=hc;unfold World.cell? at hc;cases f:A.heap[k]? with
 |none=>simp_all
 |some j=>
  have g:j.isCells=xy:=by
   rw[f]at hc;cases j<;>simp_all [Obj.isCells]
  rw[<-d];exact ZdL (a:=⟨k,i,xw⟩) ((h.same k j f g o (.inl n)).trans f.symm)
def KOld.grown{shs:List (Int×Int)}{bt a t n:Nat}{v:Value}{A B:World}{row:Option Nat}(h:KOld shs bt a v t A)(f:A.grownBy B row)(p:bt<n)(l:a<n)(x:shs≠[]->∀g o cap,v=.slice (xk ⟨g,o,xw⟩) (P shs) cap->g<n)(w:∀r,row=xk r->n<=r):KOld shs bt a v t B:=by
 obtain⟨d,j,k⟩:=h;exact⟨(f.block _ (YO d) (λe=>ZbT)).trans d,j.grown f (λe=>ZbT) (λu g o cap e q=>ZbT),k⟩
def KOld.kp{shs:List (Int×Int)}{bt d t n j base:Nat}{v:Value}{A B:World}(h:KOld shs bt d v t A)(a:KpW j base A B)(u:bt<n)(r:d<n)(w:shs≠[]->∀g o cap,v=.slice (xk ⟨g,o,xw⟩) (P shs) cap->g<n)(D:n<=j)(h2:n<=base):KOld shs bt d v t B:=by
 obtain⟨k1,⟨y,z⟩,C⟩:=h;refine⟨a.same _ _ k1 rfl Z0 (.inl Z0),⟨a.same _ _ y rfl Z0 (.inl Z0),?_⟩,C⟩;obtain⟨g,o,cap,rfl,l,p,q,f⟩|h:=z;refine .inl ⟨g,o,cap,rfl,l,p,ZcY q a.size,λi x k=> ?_⟩;have:=w (λe=>ZbU) _ _ _ rfl;exact⟨a.cell (f i x k).1 Z0 Z0,a.cell (f i x k).2 Z0 Z0⟩;simp_all
def Words.below2{w W:World}{ws:List Int}{g o cap:Nat}(h:Words w ws g o cap)(d:ws≠[]->g<U (R w))(a:Below (U (R w)) w W):Words W ws g o cap:=
 ⟨λi x f=>by rw[a.cell (p:=⟨g,o+i,xw⟩) (d (λe=>ZbU))];exact h.at_ i x f,h.le,h.cap,h.len,h.u64⟩
def q9:SR:=by
 intro C d hl a7 hu b2;refine⟨Z2,λw G vs hG L N=> ?_⟩;have r0:=N 0 _ rfl;have r1:=N 1 _ rfl;obtain⟨⟨l⟩⟩:=vs;simp at L;rename_i v0 l;cases l with
 |nil=>simp at L
 |cons v1 l=>
 cases l with
 |cons _ _=>simp at L
 |nil=>
  simp at r0 r1;obtain⟨g,o,cap,hw,K,P,a0⟩:=N5 r0 hG hl hu (xz (xj w)+3);have M:=Z6l r1 hG;obtain⟨sa,sn,sc,rfl⟩:∃a n c,v0=.slice a n c:=by
   obtain rfl|⟨_,a,c,rfl⟩:=K;simp;simp
  obtain⟨k,q,rfl⟩:∃a c,v1=.slice a (xq d) c:=by
   grind
  have b0:((w.alloc (.cells #[.slice k (xq d) q] 180)).alloc (.cells #[.int .i64 0] 3)).heap[xz (xj w)]?=xk (.cells #[.slice k (xq d) q] 180 (0,0)):=(ZcU _ _ _ Z1).trans (Zdf w _);have b1:((w.alloc (.cells #[.slice k (xq d) q] 180)).alloc (.cells #[.int .i64 0] 3)).heap[xz (xj w)+1]?=xk (.cells #[.int .i64 0] 3 (0,0)):=by
   have:=Zdf (w.alloc (.cells #[.slice k (xq d) q] 180)) (.cells #[.int .i64 0] 3);simp_all
  have z:Below (xz (xj w)) w ((w.alloc (.cells #[.slice k (xq d) q] 180)).alloc (.cells #[.int .i64 0] 3)):=((Zdr _ w).alloc (ZcR _) _).alloc Z1 _;have J:xz (xj ((w.alloc (.cells #[.slice k (xq d) q] 180)).alloc (.cells #[.int .i64 0] 3)))=xz (xj w)+2:=Z1;have a5:d≠[]->∀g o cap,Value.slice k (xq d) q=.slice (xk ⟨g,o,xw⟩) (xq d) cap->g<xz (xj w):=by
   intro T g o cap e;obtain⟨g1,U,c1,Z,_,_,h4,_⟩|⟨_,_,_,h⟩:=M;simp_all;simp_all
  have S:Calls Sol.prog 128 #[.slice sa sn sc,.func (.func 129) #[] #[.pointer (xk ⟨xz (xj w)+1,0,xw⟩),.pointer (xk ⟨xz (xj w),0,xw⟩)]] ((w.alloc (.cells #[.slice k (xq d) q] 180)).alloc (.cells #[.int .i64 0] 3))
    (CI ((w.alloc (.cells #[.slice k (xq d) q] 180)).alloc (.cells #[.int .i64 0] 3)) C d xy (xk (xz (xj w)+1)) (KOld d (xz (xj w)+1) (xz (xj w)) (.slice k (xq d) q))):=by
   generalize a8:(w.alloc (.cells #[.slice k (xq d) q] 180)).alloc (.cells #[.int .i64 0] 3)=Y at*;have I:d≠[]->∀g o cap,Value.slice k (xq d) q=.slice (xk ⟨g,o,xw⟩) (xq d) cap->g<xz (xj Y):=λT g o cap e=>ZbT;refine MY (hw.below2 P z) K ⟨λh=>ZbT,Z0,Z0⟩ (.inr ⟨_,_,rfl⟩) (λr e=>ZbT) (λe=>ZbT) (Oj a7 Z0 (λT g o cap e=>ZbT)) ⟨b1,⟨b0,?_⟩,Z0⟩ (λt A B row h hg hr=>h.grown hg (n:=xz (xj Y)) Z0 Z0 I hr) (λbl base t A B h1 h2 h S=>h.kp S (n:=xz (xj Y)) Z0 Z0 I h1 h2);obtain⟨g1,U,c1,Z,a1,a2,a3,a4⟩|⟨a,c,Z,h⟩:=M;exact .inl ⟨g1,U,c1,Z,a1,a2,Z0,λi x hx=>⟨(z.cell (p:=⟨g1,U+i*2,xw⟩) a3).trans (a4 i x hx).1,(z.cell (p:=⟨g1,U+i*2+1,xw⟩) a3).trans (a4 i x hx).2⟩⟩;simp_all
  have F:∀w1 v n (O:List Ob),(v=.slice xw 0 0/\O=[]\/w1.ownsRow (xz (xj w)+6) 59 5 v (xq O) (Ws O))->ZN C d xy=(O,n)->Rd w1 (λb=>xy=xh/\G b\/xz (xj w)<=b/\b<xz (xj w1)) (.tup [.sl ((ZN C d xy).1.map ZH),vi (ZN C d xy).2]) (.tuple #[v,.int .i64 n]):=by
   intro w1 v n O f hW;rw[hW];refine .tup _ _ rfl ?_;intro i y R
   match i,R with
   |0,R=>
    cases R;obtain⟨rfl,rfl⟩|f:=f;exact .nil _ _ ZcE;exact Gn f λc h1 h2=>.inr ⟨Z0,h2⟩
   |1,R=>cases R;exact .int _ _
  have Q:Calls Sol.prog 128 #[.slice sa sn sc,.func (.func 129) #[] #[.pointer (xk ⟨xz (xj w)+1,0,xw⟩),.pointer (xk ⟨xz (xj w),0,xw⟩)]] ((w.alloc (.cells #[.slice k (xq d) q] 180)).alloc (.cells #[.int .i64 0] 3)) λe w1=>
    (∃(v:Value) (t:Nat),e=.returned (.tuple #[v,.int .i64 0])/\w1.cell? ⟨xz (xj w)+1,0,xw⟩=xk (.int .i64 t)/\w1.cell? ⟨xz (xj w),0,xw⟩=xk (.slice k (xq d) q)/\(t:Int)<xq d/\Hid (Below (xz (xj w)) w w1/\Rd w1 (λb=>xy=xh/\G b\/xz (xj w)<=b/\b<xz (xj w1)) (.tup [.sl ((ZN C d xy).1.map ZH),vi (ZN C d xy).2]) (.tuple #[.slice xw 0 0,.int .i64 3])))\/
    (∃(v:Value) (t:Nat),e=.returned (.tuple #[v,.int .i64 0])/\w1.cell? ⟨xz (xj w)+1,0,xw⟩=xk (.int .i64 t)/\w1.cell? ⟨xz (xj w),0,xw⟩=xk (.slice k (xq d) q)/\¬(t:Int)<xq d/\Hid (Below (xz (xj w)) w w1/\Rd w1 (λb=>xy=xh/\G b\/xz (xj w)<=b/\b<xz (xj w1)) (.tup [.sl ((ZN C d xy).1.map ZH),vi (ZN C d xy).2]) (.tuple #[v,.int .i64 0])))\/
    (∃(v:Value) (n:Int),e=.returned (.tuple #[v,.int .i64 n])/\¬n=0/\Hid (Below (xz (xj w)) w w1/\Rd w1 (λb=>xy=xh/\G b\/xz (xj w)<=b/\b<xz (xj w1)) (.tup [.sl ((ZN C d xy).1.map ZH),vi (ZN C d xy).2]) (.tuple #[.slice xw 0 0,.int .i64 n]))):=by
   refine S.mono ?_;rintro e w1 ⟨v,n,O,rfl,a6,f,hE⟩;rw[J]at f;have hB:Below (xz (xj w)) w w1:=z.trans ((Zdr _ _).grown a6 Z0 (λj e=>ZbT));obtain⟨rfl,t,⟨hb,hs,ht⟩,u⟩|⟨T,rfl,u⟩:=hE;have W:w1.cell? ⟨xz (xj w)+1,0,xw⟩=xk (.int .i64 t):=by rw[Zd5 _ _ _ _ _ _ hb];rfl
   have X:w1.cell? ⟨xz (xj w),0,xw⟩=xk (.slice k (xq d) q):=by rw[Zd5 _ _ _ _ _ _ hs.box];rfl
   by_cases D:t<xq d;rw[if_pos D]at u;exact .inl ⟨v,t,rfl,W,X,Z0,ZcX ⟨hB,F w1 _ _ [] (.inl ⟨rfl,rfl⟩) u⟩⟩;rw[if_neg D]at u;exact .inr (.inl ⟨v,t,rfl,W,X,Z0,ZcX ⟨hB,F w1 _ _ O (.inr f) u⟩⟩);exact .inr (.inr ⟨v,n,rfl,Z0,ZcX ⟨hB,F w1 _ _ [] (.inl ⟨rfl,rfl⟩) u⟩⟩)
  have HK:=ZcX Q;clear hw K r0 r1 N M P a0 S Q z b0 b1 a5 J F;go_enter Sol.func119,Try.ntmps119;have a9:∀(fn:Go.Fn) (first cap:Array Value) (w:World),(Instr.makeFunc fn first cap).run Sol.prog w=.ok (.func fn first cap) w:=λ_ _ _ _=>rfl;go_wp2_with (go_at_call 128;refine HK.out.mono ?_;rintro e w1 (⟨v,t,rfl,W,X,D,H⟩|⟨v,t,rfl,W,X,D,H⟩|⟨v,n,rfl,T,H⟩))
  .refine ZdU (v:=.tuple #[.slice xw 0 0,.int .i64 3]) (by simp[results,Try.results119,go_sem]) rfl ⟨_,rfl,H.out.1,H.out.2⟩
  .refine ZdU (v:=.tuple #[v,.int .i64 0]) (by simp[results,Try.results119,go_sem]) rfl ⟨_,rfl,H.out.1,H.out.2⟩
  .refine ZdU (v:=.tuple #[.slice xw 0 0,.int .i64 n]) (by simp[results,Try.results119,go_sem]) rfl ⟨_,rfl,H.out.1,H.out.2⟩
end Vm
namespace Vm
open Go Go.Proofs Go.RowKit
def Z3A{w:World}{G:Nat->Prop}{l:List Ob}{v:Value}(r:Rd w G (.sl (l.map ZH)) v)(u:∀b,G b->b<U (R w)):
  (∃g o cap,v=.slice (xk ⟨g,o,xw⟩) (P l) cap/\P l<=cap/\cap<=maxLen/\g<U (R w)/\∀(i:Nat) (x:Ob),l[i]?=xk x->w.cell? ⟨g,o+i*5,xw⟩=xk (.int .i64 x.at_)/\w.cell? ⟨g,o+i*5+1,xw⟩=xk (.int .i64 x.size)/\
   w.cell? ⟨g,o+i*5+2,xw⟩=xk (.int .i64 x.ptrs)/\w.cell? ⟨g,o+i*5+3,xw⟩=xk (.bool x.gone)/\w.cell? ⟨g,o+i*5+4,xw⟩=xk (.int .u64 x.target))\/
  (∃a cap,v=.slice a 0 cap/\l=[]):=by
 generalize y:l.map ZH=L at r;cases r with
 |nil a cap H=>
  simp_all
 |sl _ b o cap k vs j p q d t h=>
  subst y;simp only[Zdz]at j t⊢;refine .inl ⟨b,o,cap,rfl,j,p,u b q,λi x n=> ?_⟩;have f:(l.map ZH)[i]?=xk (ZH x):=by rw[Zdb,n];rfl
  have z:k=5:=((d _ (ZcT f)).1).symm;subst z;have I:i<P l:=(ZcN.1 n).1;have A:=h (i*5) (vi x.at_) (by have:=Vk d f 0 Z0;simp_all);have B:=h (i*5+1) (vi x.size) (by have:=Vk d f 1 Z0;simp_all);have C:=h (i*5+2) (vi x.ptrs) (by have:=Vk d f 2 Z0;simp_all);have D:=h (i*5+3) (.bool x.gone) (by have:=Vk d f 3 Z0;simp_all);have F:=h (i*5+4) (vu x.target) (by have:=Vk d f 4 Z0;simp_all);grind [TO,Nat.add_assoc,Ip]
end Vm
end
section

end
section
namespace Vm
open Go Go.Proofs
def Cq{h:Hp}(a:h.ok):VC Sol.prog 25 xh [ZL h] (.bool (XE h)):=by
 rw[<-(jJ h).1];exact Ns qa q9 a
def Cp{h:Hp}(a:h.ok){k:Int}:VC Sol.prog 27 xh [ZL h,vi k] (.tup [.sl ((Vq h k).1.map ZH),vi (Vq h k).2]):=by
 rw[<-Z2B h k];exact Nq qa q9 a
def Nt{h:Hp}(a:h.ok):VC Sol.prog 22 xh [ZL h] (vi (QV h)):=by
 rw[<-Z2F h];exact Nu qa q9 a
end Vm
end
section
namespace Vm
open Go
open Go.Proofs
def H8:Fn:=⟨5,[0,1,2,3,6],
pQ [pR [(1,pS 0 2),(2,.m [pN,pN]),pV 3 (pI 0)],pQ [pC [pK 5 19 [.mm 1 0 2]] [pV 4 (.un .not (.s 5))]] (.cond (.s 4) (pQ [.reg ⟨[],[([],.ag [pN,pN])],[(2,.m [pN,pN]),pV 3 (pI 1)]⟩] .ret) .skip),pC [.callm 6 [] (.id 47) [.fz,(.own 97)] [.mm 1 0 2,.c (.mp 0 [] [])]] [(2,pM (.sz (.ext (.s 6) 0) 2) 2),pV 3 (pI 0)]] .ret,[(2,(.ag 2)),(3,.v)]⟩
def P4:ZK Sol.prog fresh sig [.fz] [] Try.f17=xk H8:=Z2
def H9:Fn:=⟨12,[0,1,2,3,4,5,24,6,29,7,8,63],
pQ [pR [(2,pS 0 2),(3,pS 1 2),pV 4 pF],pC [pK 12 48 [.m 2 1,.m 3 1]] [pV 5 (.s 12)],pQ [.reg ⟨[.lt 13 [] (.un .not (.s 5))],[([(13,xh)],.bin .neq (.len (.m 2 0)) (.len (.m 3 0)))],[pV 6 (.ite (.s 13) pT (.bin .neq (.len (.m 2 0)) (.len (.m 3 0))))]⟩] (.cond (.s 6) (pQ [pR [pV 4 pF]] .ret) .skip),pQ [pR [pV 7 (pI 0)]] (.block 0 (.loop [0,1,2,3,4,5,6,7] (pQ [pQ [pR [pV 8 (.bin .lss (.s 7) (.len (.m 2 0)))]] (.cond (.s 8) .skip (.exit 0)),.block 1 (pQ [pC [pK 14 48 [.fld (.idx (.m 2 0) (.s 7) 2) 0,.fld (.idx (.m 3 0) (.s 7) 2) 0]] [pV 9 (.s 14)],pC [pK 15 49 [.fld (.idx (.m 2 0) (.s 7) 2) 1,.fld (.idx (.m 3 0) (.s 7) 2) 1]] [pV 10 (.s 15)],.reg ⟨[.lt 16 [] (.un .not (.s 9))],[([(16,xh)],.un .not (.s 10))],[pV 11 (.ite (.s 16) pT (.un .not (.s 10)))]⟩] (.cond (.s 11) (pQ [pR [pV 4 pF]] .ret) .skip))] (pR [pV 7 (.bin .add (.s 7) (pI 1))])))),pR [pV 4 pT]] .ret,[(4,.v)]⟩
def P5:ZK Sol.prog fresh sig [.fz,.fz] [] Try.f18=xk H9:=Z2
def Ha:Fn:=⟨11,[0,1,2,9,3,14,13,15,5,12,32],
pQ [pR [(1,pS 0 2),pV 2 pF],pQ [pR [pV 3 (.bin .gtr (.len (.m 1 1)) (pI 16))]] (.cond (.s 3) (pQ [pR [pV 2 pF]] .ret) .skip),pR [(4,.no)],pQ [pR [(4,.no),pV 5 (pI 0),pV 6 (.len (.m 1 0)),pV 9 (.m 1 0)]] (.block 0 (.loop [0,1,2,3,4,5,6,9] (pQ [pR [(4,.no),pV 7 (.bin .lss (.s 5) (.s 6))],.cond (.s 7) .skip (.exit 0),.block 1 (pQ [pR [(4,.no),(8,pM (.flds (.idx (.s 9) (.s 5) 2) 0 2) 2)],.reg ⟨[.lt 11 [] (.bin .gtr (.bin .add (.len (.m 8 0)) (.len (.m 8 1))) (pI 255)),.callm 12 [(11,xh)] (.id 50) [.fz,(.mem [.fz,.fz])] [.m 8 0,.ag [.m 1 0,.m 1 1]]],[([(11,xh)],.un .not (.ext (.s 12) 0))],[(1,pM (.ext (.s 12) 1) 2),(4,.no),pV 10 (.ite (.s 11) pT (.un .not (.ext (.s 12) 0)))]⟩] (.cond (.s 10) (pQ [pR [pV 2 pF,(4,.no)]] .ret) .skip))] (pR [(4,.no),pV 5 (.bin .add (.s 5) (pI 1))])))),pC [.callm 13 [] (.id 50) [.fz,(.mem [.fz,.fz])] [.m 1 1,.ag [.m 1 0,.m 1 1]]] [(1,pM (.ext (.s 13) 1) 2),pV 2 (.ext (.s 13) 0),(4,.no)]] .ret,[(2,.v)]⟩
def P6:ZK Sol.prog fresh sig [.fz] [] Try.f19=xk Ha:=Z2
def Hm:Fn:=⟨11,[0,1,2,4,5,13,12,14,7,11,8],
pQ [pR [(2,pS 0 2),(3,.m [pN,pN])],pR [(4,.m [pN,pN])],pQ [pC [.callm 9 [] (.id 80) [.fz,(.own 97)] [.mm 2 0 2,.s 1]] [pV 1 (.ext (.s 9) 1),pV 5 (pI 0),pV 6 (.len (.ext (.s 9) 0)),pV 9 (.ext (.s 9) 0)]] (.block 0 (.loop [0,1,2,3,4,5,6,9] (pQ [pR [pV 7 (.bin .lss (.s 5) (.s 6))],.cond (.s 7) .skip (.exit 0),.block 1 (pQ [pR [pV 8 (.fld (.idx (.s 9) (.s 5) 1) 0)],pR [(10,pM (.flds (.idx (.m 2 0) (.s 8) 2) 0 2) 2)]] (pC [.call 11 [] (.id 81) xy xh [.m 10 0,.s 1]] [(4,.m [.app (.m 4 0) (.lit [.ag [.one (.s 11),.app pN (.m 10 1) 1]]) 2,.m 4 1])]))] (pR [pV 5 (.bin .add (.s 5) (pI 1))])))),pC [.call 12 [] (.id 81) xy xh [.m 2 1,.s 1]] [(4,.m [.m 4 0,.one (.s 12)])],pR [(3,pM (.mm 4 0 2) 2)]] .ret,[(3,(.ag 2))]⟩
def Pn:ZK Sol.prog fresh sig [.fz,(.own 97)] [(1,(.own 97))] Try.f47=xk Hm:=Z2
def As:Fn:=⟨7,[0,1,4,10,5,14,25],
pQ [pR [pV 2 pF],pQ [pR [pV 3 (.bin .neq (.len (.s 0)) (.len (.s 1)))]] (.cond (.s 3) (pQ [pR [pV 2 pF]] .ret) .skip),pQ [pR [pV 4 (pI 0)]] (.block 0 (.loop [0,1,2,3,4] (pQ [pQ [pR [pV 5 (.bin .lss (.s 4) (.len (.s 0)))]] (.cond (.s 5) .skip (.exit 0)),.block 1 (pQ [pR [pV 6 (.bin .neq (.fld (.idx (.s 0) (.s 4) 1) 0) (.fld (.idx (.s 1) (.s 4) 1) 0))]] (.cond (.s 6) (pQ [pR [pV 2 pF]] .ret) .skip))] (pR [pV 4 (.bin .add (.s 4) (pI 1))])))),pR [pV 2 pT]] .ret,[(2,.v)]⟩
def Po:ZK Sol.prog fresh sig [.fz,.fz] [] Try.f48=xk As:=Z2
def Hn:Fn:=⟨9,[0,1,3,8,7,9,5,6,20],
pQ [pR [pV 2 pF],pQ [pR [pV 3 (pI 0),pV 4 (.len (.s 0)),pV 7 (.s 0)]] (.block 0 (.loop [0,1,2,3,4,7] (pQ [pR [pV 5 (.bin .lss (.s 3) (.s 4))],.cond (.s 5) .skip (.exit 0),.block 1 (pQ [pR [pV 6 (.fld (.idx (.s 7) (.s 3) 1) 0)],.reg ⟨[.lt 9 [] (.bin .lss (.s 6) (pI (-1)))],[([(9,xh)],.bin .geq (.s 6) (.len (.m 1 0)))],[pV 8 (.ite (.s 9) pT (.bin .geq (.s 6) (.len (.m 1 0))))]⟩] (.cond (.s 8) (pQ [pR [pV 2 pF]] .ret) .skip))] (pR [pV 3 (.bin .add (.s 3) (pI 1))])))),pR [pV 2 pT]] .ret,[(2,.v)]⟩
def Pr:ZK Sol.prog fresh sig [.fz,(.mem [.fz,.fz])] [(1,(.mem [.fz,.fz]))] Try.f50=xk Hn:=Z2
def K6:Fn:=⟨9,[0,1,2,3,4,5,6,7,17],
pQ [pR [(1,.no),(2,pS 0 2),(3,.m [.s 1]),pV 4 pN],pR [(3,.m [.mclr (.m 3 0)])],pR [(5,.m [pN])],pR [(6,.no)],pC [.callm 9 [] (.id 102) [.fz,(.mem [(.own 97)]),(.mem [(.own 3)])] [.m 2 1,.ag [.m 3 0],.ag [.m 5 0]]] [(3,.m [.fld (.ext (.s 9) 1) 0]),(5,.m [.fld (.ext (.s 9) 2) 0]),(6,.no)],pQ [pR [(6,.no),pV 7 (pI 0)]] (.block 0 (.loop [0,2,3,4,5,6,7] (pQ [pQ [pR [(6,.no),pV 8 (.bin .lss (.s 7) (.len (.m 5 0)))]] (.cond (.s 8) .skip (.exit 0)),.block 1 (pC [.callm 10 [] (.id 102) [.fz,(.mem [(.own 97)]),(.mem [(.own 3)])] [.fld (.idx (.m 2 0) (.fld (.idx (.m 5 0) (.s 7) 1) 0) 2) 0,.ag [.m 3 0],.ag [.m 5 0]]] [(3,.m [.fld (.ext (.s 10) 1) 0]),(5,.m [.fld (.ext (.s 10) 2) 0]),(6,.no)])] (pR [(6,.no),pV 7 (.bin .add (.s 7) (pI 1))])))),pR [pV 4 (.m 5 0),(6,.no)]] .ret,[(4,.v)]⟩
def PH:ZK Sol.prog fresh sig [.fz,(.own 97)] [(3,(.mem [(.own 97)]))] Try.f80=xk K6:=Z2
def HD:Fn:=⟨10,[0,1,4,5,10,9,11,7,8,15],
pQ [pR [pV 2 pN],pR [pV 3 pN],pQ [pR [pV 4 (pI 0),pV 5 (.len (.s 0)),pV 8 (.s 0)]] (.block 0 (.loop [0,1,2,3,4,5,8] (pQ [pR [pV 6 (.bin .lss (.s 4) (.s 5))],.cond (.s 6) .skip (.exit 0),.block 1 (pQ [pR [pV 7 (.fld (.idx (.s 8) (.s 4) 1) 0)],pQ [pR [pV 9 (.bin .geq (.s 7) (pI 0))]] (.cond (.s 9) (pR [pV 7 (.lk (.i .i64) (.s 1) (.s 7) (.int .i64 0) xh)]) .skip)] (pR [pV 3 (.app (.s 3) (.lit [.one (.s 7)]) 1)]))] (pR [pV 4 (.bin .add (.s 4) (pI 1))])))),pR [pV 2 (.s 3),(3,.no)]] .ret,[(2,.v)]⟩
def PI:ZK Sol.prog fresh sig [.fz,.fz] [(4,(.own 3))] Try.f81=xk HD:=Z2
def GS:Fn:=⟨11,[0,1,2,10,9,11,5,8,6,7,25],
pQ [pR [pV 3 (pI 0),pV 4 (.len (.s 0)),pV 7 (.s 0)]] (.block 0 (.loop [0,1,2,3,4,7] (pQ [pR [pV 5 (.bin .lss (.s 3) (.s 4))],.cond (.s 5) .skip (.exit 0),.block 1 (pQ [pR [pV 6 (.fld (.idx (.s 7) (.s 3) 1) 0)],pR [pV 8 (.fl (.ext (.lk (.i .i64) (.m 1 0) (.s 6) (.int .i64 0) xy) 0)),pV 9 (.fl (.ext (.lk (.i .i64) (.m 1 0) (.s 6) (.int .i64 0) xy) 1))],.reg ⟨[.lt 11 [] (.bin .geq (.s 6) (pI 0))],[([(11,xy)],.un .not (.s 9))],[pV 10 (.ite (.s 11) (.un .not (.s 9)) pF)]⟩] (.cond (.s 10) (pQ [pR [(1,.m [.mput (.i .i64) (.m 1 0) (.s 6) (.len (.m 2 0))])]] (pR [(2,.m [.app (.m 2 0) (.lit [.one (.s 6)]) 1])])) .skip))] (pR [pV 3 (.bin .add (.s 3) (pI 1))])))),[]⟩
def OE:ZK Sol.prog fresh sig [.fz,(.mem [(.own 97)]),(.mem [(.own 3)])] [(1,(.mem [(.own 97)])),(2,(.mem [(.own 3)]))] Try.f102=xk GS:=Z2
end Vm
end
section
namespace Vm
open Go Go.Proofs
def Gr.sm(g:Gr):Prop:=P g.nodes<=100000/\P g.roots<=100000/\∀n∈g.nodes,P n.ptrs<=100000/\P n.data<=100000
def Up(n:Nat)(p:Int):Bool:=decide (-1<=p/\p<n)
def Ss(k:Nat)(n:Nd):Bool:=decide (P n.ptrs+P n.data<=255)&&n.ptrs.all (Up k)
def right(g:Gr):Bool:=decide (P g.roots<=16)&&g.nodes.all (Ss (P g.nodes))&&g.roots.all (Up (P g.nodes))
theorem CS{α:Type}{p:α->Bool}{l:List α}{i:Nat}{x:α}(h:l[i]?=xk x):(l.take (i+1)).all p=((l.take i).all p&&p x):=by
 rw[ZdK,h,ZgH];simp
theorem CP{α:Type}{p:α->Bool}{l:List α}{i:Nat}{x:α}(h:l[i]?=xk x)(a:p x=xh):l.all p=xh:=by
 grind
def E7{l:List Int}{ns:List V}{a:V}(g:P l<=100000)(k:a.one=xy)(j:YM a=xk a):
  V1 Sol.prog 50 [.fz,.mem [.fz,.fz]] [.sl (l.map vi),.agg [.sl ns,a]] (.tup [.bool (l.all (Up (P ns))),.agg [.sl ns,a]]):=by
 refine QU Sol.func50 follows Z2 Pr Z2 ?_;simp[-List.all_eq_true,-List.all_eq_false,Hn];refine UI (λt=>∃i:Nat,i<=P l/\(l.take i).all (Up (P ns))=xy/\t=[.v (.sl (l.map vi)),.m [.sl ns,a],.v (.bool xh),.v (vi i),.v (vi (P l)),.no,.no,.v (.sl (l.map vi))]) (λt=>match get t 3 with|.v (.int _ n)=>P l-n.toNat|_=>0) ?_ ?_;exact⟨0,Z1,Z1,Z1⟩;rintro t ⟨i,f,d,rfl⟩;by_cases h:i<P l;have o:l[i]?=xk l[i]:=ZcM h;simp[-List.all_eq_true,-List.all_eq_false,h];simp(disch:=omega) only[Zz];grind [CP,Up,CS];have:i=P l:=Z0;simp_all
def Z5C{g:Gr}(r:g.sm):VC Sol.prog 19 xh [Yd g] (.bool (right g)):=by
 obtain⟨u,j,k⟩:=r;refine ZV Sol.func19 follows Z2 P6 rfl ?_;simp[-List.all_eq_true,-List.all_eq_false,Ha];split;grind [List.all_eq_true,List.all_eq_false,right];rename_i h;refine UI (λt=>∃i:Nat,i<=P g.nodes/\(g.nodes.take i).all (Ss (P g.nodes))=xy/\t=[.v (Yd g),.m [.sl (g.nodes.map Yf),.sl (g.roots.map vi)],.v (.bool xh),.v (.bool xh),.no,.v (vi i),.v (vi (P g.nodes)),.no,.no,.v (.sl (g.nodes.map Yf))]) (λt=>match get t 5 with|.v (.int _ n)=>P g.nodes-n.toNat|_=>0) ?_ ?_;exact⟨0,Z1,Z1,by simp[h]⟩;rintro t ⟨i,z,a,rfl⟩;by_cases d:i<P g.nodes;have A:g.nodes[i]?=xk g.nodes[i]:=ZcM d;obtain⟨q,y⟩:=k _ (Zd3 d);have p:=Zz ((i:Int)+1) Z0 Z0;simp[-List.all_eq_true,-List.all_eq_false,d,p];simp(disch:=omega) only[Zz];have w:Ss (P g.nodes) g.nodes[i]=xh->right g=xh:=λx=>by grind [List.all_eq_true,List.all_eq_false,right,CP]
 by_cases l:(g.nodes[i].ptrs.length:Int)+(g.nodes[i].data.length:Int)<=255;rw[if_pos l];refine VE (E7 q ZcG ZcG) ?_;have f:¬(255:Int)< (g.nodes[i].ptrs.length:Int)+(g.nodes[i].data.length:Int):=Z0;cases o:g.nodes[i].ptrs.all (Up (P g.nodes));simp[-List.all_eq_true,-List.all_eq_false,f,o];simp_all[ZcW,Zfg,Ss];simp[-List.all_eq_true,-List.all_eq_false,f,o,p];grind [CS,List.all_eq_true,List.all_eq_false,Ss];rw[if_neg l];grind [List.all_eq_true,List.all_eq_false,Ss];have:i=P g.nodes:=Z0;subst this;simp[-List.all_eq_true,-List.all_eq_false];refine VE (E7 j ZcG ZcG) ?_;rw[Zek]at a;simp[-List.all_eq_true,-List.all_eq_false,right,a];omega
end Vm
namespace Vm
open Go Go.Proofs
def Ff{a b:List Int}(g:P a<=100000):VC Sol.prog 48 xh [.sl (a.map vi),.sl (b.map vi)] (.bool (decide (a=b))):=by
 refine ZV Sol.func48 follows Z2 Po rfl ?_;by_cases d:P a=P b;simp[As,d];refine UI (λt=>∃i:Nat,i<=P b/\a.take i=b.take i/\t=[.v (.sl (a.map vi)),.v (.sl (b.map vi)),.v (.bool xh),.v (.bool xh),.v (vi i)]) (λt=>match get t 4 with|.v (.int _ n)=>P b-n.toNat|_=>0) ?_ ?_;exact⟨0,Z1,Z1,Z1⟩;rintro t ⟨i,j,heq,rfl⟩;by_cases h:i<P b;have f:i<P a:=Z0;by_cases k:a[i]=b[i];simp_all;simp(disch:=omega) only[Zz];grind [BW];simp_all;grind;simp_all[Zek,ZdR];simp[As,show ¬((P a:Int)=(P b:Int))by omega];grind
end Vm
namespace Vm
open Go Go.Proofs
def C2(n:Nat):List V:=(List.range n).map λ(i:Nat)=>vi i
def Xv(id:Nat)(l:List Int):V:=.mp id (l.map vi) (C2 (P l))
def Y8:List Int->List Int->List Int
 |a,[]=>a
 |a,x::l=>Y8 (if 0<=x/\x∉a then a++[x]else a) l
def qM{x:Int}:∀ {l:List Int},US (vi x) (l.map vi)=xk (l.findIdx? (· ==x))
 | []=>rfl
 |y::l=>by
  simp only[Zdc,US,JJ,Zdv,Zft];by_cases h:x=y;subst h;simp;have a:(x==y)=xh:=by simpa using h
  have d:(y==x)=xh:=by simpa using Zf1 h
  simp[a,d,qM]
def DY{x:Int}{l:List Int}:l.findIdx? (· ==x)=xw↔x∉l:=by
 grind
theorem FA{id:Nat}{l:List Int}{x:Int}{z:V}{ok:Bool}:U4 (.i .i64) (Xv id l) (vi x) z ok=match l.findIdx? (· ==x)with
  |some i=>xk (if ok then .tup [vi i,.bool xy]else vi i)
  |none=>xk (if ok then .tup [z,.bool xh]else z):=by
 unfold U4 Xv;simp only[WT,Zg6,Zem,Zdu,qM];grind [List.findIdx?_eq_some_iff_getElem,C2]
def Z3a{id:Nat}{l:List Int}{x:Int}(hx:x∉l):Us (.i .i64) (Xv id l) (vi x) (vi (P l))=xk (Xv id (l++[x])):=by
 unfold Us Xv;simp only[WT,Zg6,Zem,Zdu,qM,DY.2 hx];simp[C2,ZeW]
@[simp]theorem ZaA(id:Nat)(l:List Int):YM (Xv id l)=xk (Xv id l):=rfl
def Gg{ns acc:List Int}{id:Nat}(q:P ns<=100000)(k:P acc<=1000000):V1 Sol.prog 102 [.fz,.mem [.own 97],.mem [.own 3]] [.sl (ns.map vi),.agg [Xv id acc],.agg [.sl (acc.map vi)]]
  (.tup [.tup [],.agg [Xv id (Y8 acc ns)],.agg [.sl ((Y8 acc ns).map vi)]]):=by
 refine QU Sol.func102 follows Z2 OE Z2 ?_;simp[GS];refine UI (λt=>∃i l,i<=P ns/\Y8 l (ns.drop i)=Y8 acc ns/\P l<=1000000+i/\t=[.v (.sl (ns.map vi)),.m [Xv id l],.m [.sl (l.map vi)],.v (vi (i:Nat)),.v (vi (P ns)),.no,.no,.v (.sl (ns.map vi))]) (λt=>match get t 3 with|.v (.int _ n)=>P ns-n.toNat|_=>0) ?_ ?_;exact⟨0,acc,Z1,Z1,Z0,Z1⟩;rintro t ⟨i,l,r,f,u,rfl⟩;by_cases h:i<P ns;have p:ns.drop i=ns[i]::ns.drop (i+1):=(ZdG h);rw[p,Y8]at f;simp[h,FA];by_cases d:ns[i]∈l;have a:∃j,l.findIdx? (· ==ns[i])=xk j:=by
  cases o:l.findIdx? (· ==ns[i])with
  |none=>grind
  |some j=>simp
 obtain⟨j,o⟩:=a;simp[o,Wh,V.flatc];simp(disch:=omega) only[Zz];grind;simp[DY.2 d,Wh,V.flatc];simp(disch:=omega) only[Zz];by_cases g:0<=ns[i];rw[if_pos g,Z3a d];rw[if_pos ⟨g,d⟩]at f;simp;refine⟨by grind [Y5],⟨i+1,Z0,l++[ns[i]],f,ZbV,rfl,Z1,Z1⟩,Z0⟩;grind;have:i=P ns:=Z0;simp_all[Y8]
@[simp]theorem Z8G(id:Nat)(l:List Int):(Xv id l).cells=[Xv id l]:=rfl
def Good(n:Nat)(l:List Int):Prop:=l.Nodup/\∀x∈l,0<=x/\x<n
def A8:∀(n:Nat) {l:List Int},l.Nodup->(∀x∈l,0<=x/\x<n)->P l<=n
 |0,l,_,h=>by
  obtain _|⟨x,l⟩:=l;simp;have:=h x Z1;omega
 |n+1,l,d,h=>by
  by_cases j:(n:Int)∈l;have g:=A8 n (d.erase (n:Int)) λx a=>by
   have f:=(d.mem_erase_iff).1 a;have:=h x f.2;omega
  rw[List.length_erase_of_mem j]at g;omega;have:=A8 n d λx a=>by
   have g:=h x a;have:x≠n:=λe=>j (e▸a);omega
  omega
def Good.len{n:Nat}{l:List Int}(h:Good n l):P l<=n:=A8 n h.1 h.2
def T6{n:Nat}:∀ {g d:List Int},Good n d->(∀x∈g,x<n)->Good n (Y8 d g)
 | [],d,h,_=>h
 |x::g,d,h,l=>by
  simp only[Y8];refine T6 ?_ λy f=>l y (by simp[f]);split;rename_i k;refine⟨?_,λy f=> ?_⟩;rw[ZfE];exact⟨h.1,Z1,λa o b j=>by simp at j;subst j;exactλe=>k.2 (e▸o)⟩;obtain f|f:=Zdd.1 f;exact h.2 y f;simp at f;subst f;exact⟨k.1,l _ Z1⟩;exact h
def XJ(g:Gr):Nat->Nat->List Int->List Int
 |0,_,l=>l
 |f+1,i,l=>match l[i]? with
  |some x=>XJ g f (i+1) (Y8 l ((g.nodes[x.toNat]?).getD default).ptrs)
  |none=>l
def order(g:Gr):List Int:=XJ g (P g.nodes+1) 0 (Y8 [] g.roots)
def Fb{n:Nat}{p:Int}(h:Up n p=xy): -1<=p/\p<n:=by grind [Up]
def RH{g:Gr}(a:right g=xy):∀x∈g.roots,-1<=x/\x<P g.nodes:=by
 simp only[right,ZcP,ZcW]at a;exactλx d=>Fb (a.2 x d)
def Bg{g:Gr}(a:right g=xy):∀n∈g.nodes,∀x∈n.ptrs,-1<=x/\x<P g.nodes:=by
 simp only[right,ZcP,ZcW,Ss]at a;exactλn d x f=>Fb ((a.1.2 n d).2 x f)
def Z3Y{g:Gr}(C:g.sm)(B:right g=xy)(id:Nat)(ks vs:List V):
  Yj Sol.prog K6.body [.v (Yd g),.v (.mp id ks vs)] (λs=>get s 4=.v (.sl ((order g).map vi))/\get s 3=.m [Xv id (order g)]) (λ_ _=>False) (λs=>get s 4=.v (.sl ((order g).map vi))/\get s 3=.m [Xv id (order g)]):=by
 obtain⟨D,q,r⟩:=C;simp[K6];refine VE (Gg (ns:=g.roots) (acc:=[]) (id:=id) q Z1) ?_;simp;have d:=RH B;have j:Good (P g.nodes) (Y8 [] g.roots):=T6 ⟨Z1,Z1⟩ λx p=>(d x p).2;refine UI (λt=>∃i l,i<=P l/\Good (P g.nodes) l/\XJ g (P g.nodes+1-i) i l=order g/\t=[.v (Yd g),.no,.m [.sl (g.nodes.map Yf),.sl (g.roots.map vi)],.m [Xv id l],.v (.sl []),.m [.sl (l.map vi)],.no,.v (vi (i:Nat))]) (λt=>match get t 7 with|.v (.int _ n)=>P g.nodes-n.toNat|_=>0) ?_ ?_;exact⟨0,_,Z1,j,rfl,Z1⟩;rintro t ⟨i,l,I,u,A,rfl⟩;have z:=u.len;by_cases h:i<P l;obtain⟨G,K⟩:=u.2 _ (Zd3 h);obtain⟨k,w⟩:=Zd7 G;have o:k<P g.nodes:=Z0;have p:l[i]?=xk (k:Int):=by rw[ZcM h,w]
 simp[h,w,o];refine VE (Gg (r _ (Zd3 o)).1 Z0) ?_;simp;simp(disch:=omega) only[Zz];have a:Good (P g.nodes) (Y8 l g.nodes[k].ptrs):=T6 u λx p=>(Bg B _ (Zd3 o) x p).2;refine⟨⟨i+1,_,?_,a,?_,rfl,rfl,Z1⟩,Z0⟩;have:∀ {ns acc:List Int},P acc<=P (Y8 acc ns):=by
  intro ns;induction ns with
  |nil=>simp_all[Y8]
  |cons y ns J=>
   intro acc;simp only[Y8];grind
 grind;rw[show P g.nodes+1-i=(P g.nodes+1- (i+1))+1 by omega,XJ,p]at A;simp_all;have:i=P l:=Z0;subst this;have F:l=order g:=by
  rw[<-A];cases H:P g.nodes+1-(P l) with
  |zero=>omega
  |succ f=>simp[XJ]
 simp_all
def Z3X{g:Gr}(hg:g.sm)(hr:right g=xy)(id:Nat)(ks vs:List V):V1 Sol.prog 80 [.fz,.own 97] [Yd g,.mp id ks vs] (.tup [.sl ((order g).map vi),Xv id (order g)]):=by
 refine⟨Z2,λB w h us a8 hA=> ?_⟩;obtain⟨b5,a0,a1⟩:=hA;obtain⟨d0,Q,a9⟩:=a1 1 (.own 97) (.mp id ks vs) rfl rfl;simp only[W4,ZcL]at Q;subst Q;obtain⟨x1,R,O⟩:=a9;simp only[eval,ZcL]at R;subst R;obtain⟨_,_,hl,_⟩|⟨c1,c7,d6,b,es,T,he,hv,a4,hB,hid,hh,Y,h2,h3,h4⟩:=O;cases hl;cases he;have Z:KY Sol.prog B w h [.fz,.own 97] [Yd g,.mp (b+1) ks vs] us:=by
  refine⟨rfl,a0,λi k x f j=> ?_⟩
  match i,f,j with
  |0,f,j=>grind
  |1,f,j=>
   simp at f j;subst f j;exact⟨_,rfl,_,rfl,.inr ⟨b+1,ks,vs,b,es,T,rfl,hv,a4,hB,.inr rfl,hh,Y,h2,h3,h4⟩⟩
  |i+2,f,j=>simp at f
 refine Lv (cf:=K6) (fin:=[(3,.mem [.own 97])]) (xs:=[Yd g,.mp (b+1) ks vs]) (Rt:=λs=>get s 4=.v (.sl ((order g).map vi))/\get s 3=.m [Xv (b+1) (order g)]) Sol.func80 follows PH (Z3Y hg hr (b+1) ks vs) a8 Z λc s S a w' W hP b7 M z J r p hK o l=> ?_;rw[<-hP]at l z⊢;simp only[Sw,ZcP,ZcW]at l;obtain⟨A,a6⟩:=l;obtain⟨d,a7⟩:=KZ r p a6;have N:c.ix 3=3:=M 3 (by decide);have hr:XX s (Kp c.P c.ix Try.f80)=xk (.sl ((order g).map vi)):=by
  rw[<-z];simp[K6,J.1]
 obtain⟨v,b0,b1⟩:=Kq (D:=(W.drop (V7 S [(3,.mem [.own 97])])).F) r p (λb hb=>.inl hb) (λq hq=>by
  have Y:=A q hq;have h2:=ZcW.1 (Z2:IA Try.f80 [(3,.mem [.own 97])]=xy) q hq;refine⟨Y,λi b hb=>.inr ⟨SE q,i+1,?_,Z0,hb⟩⟩;simp_all[V7,Zgh,SE]) hr
 obtain⟨u,hu,b3,d5,T3,e1,e2,e3,e4,e5⟩:=d.at_ 3 (by grind [Yr,Yn]) ZcG;obtain⟨X,hX,C⟩:=e5 0 (.own 97,.m (c.ix 3) 0) rfl;have a2:X=Xv (b+1) (order g):=by
  simp only[eval,N,J.2]at hX;simpa using hX.symm
 subst a2;obtain⟨_,_,hl,_⟩|⟨c6,c9,d7,H,U,I,L,b9,n,b6,b4,a5,q1,q2,q3,q4⟩:=C;cases hl;simp only[Xv,V.mp.injEq]at L;obtain⟨rfl,rfl,rfl⟩:=L;have a3:H=b:=Z0;subst a3;obtain⟨r1,r2,r3⟩:=d.ok.b_lt 3 1 H n
 refine⟨v,b0,v,.sl ((order g).map vi),[.bool xh,Xv id (order g)],{F:=(W.drop (V7 S [(3,.mem [.own 97])])).F,bl:=λt i=>if t=1/\i=1 then xk H else xw,K:=W.K},rfl,o.below,o.same,
  ⟨d.ok.base,d.ok.f_lt,d.ok.f_or,d.ok.g_F,λt i x j=> ?_,λt i t' i' x j c0=> ?_,d.ok.k_lt,λt i x j=> ?_,d.ok.k_F⟩,hK,b1,⟨rfl,λi k y f b8 G=> ?_⟩,rfl⟩
 grind;grind;simp only at j;split at j;simp only[ZcL]at j;subst j;exact d.ok.k_bl 3 1 H n;cases j
 match i,f,G with
 |0,f,G=>grind
 |1,f,G=>
  simp at f G;subst f G;exact⟨_,rfl,_,rfl,.inr ⟨id,_,_,H,U,I,rfl,hv,Z1,hB,hid,a5,q1,q2,q3,q4⟩⟩
 |i+2,f,G=>simp at f
end Vm
namespace Vm
open Go Go.Proofs
def SX(l:List Int)(p:Int):Int:=match l.findIdx? (· ==p)with
 |some i=>(i:Nat)
 |none=>0
def WV(l a:List Int):List Int:=a.map λp=>if 0<=p then SX l p else p
def Q6(g:Gr)(l:List Int)(x:Int):Nd:=let n:=(g.nodes[x.toNat]?).getD default;⟨WV l n.ptrs,n.data⟩
def XO(g:Gr):Gr:=⟨(order g).map (Q6 g (order g)),WV (order g) g.roots⟩
def Z2u{id:Nat}{l:List Int}{x:Int}:U4 (.i .i64) (Xv id l) (vi x) (vi 0) xh=xk (vi (SX l x)):=by
 grind [FA,SX]
def Z0A{l:List Int}:∀c∈flat (l.map vi),c.flatc=xy:=by
 intro c d;simp only[flat,ZeH,Zd1]at d;obtain⟨y,⟨a,_,rfl⟩,d⟩:=d;have:c=vi a:=by simpa[V.cells]using d
 subst this;rfl
def G5{a l:List Int}{id:Nat}(o:P a<=100000):VC Sol.prog 81 xy [.sl (a.map vi),Xv id l] (.sl ((WV l a).map vi)):=by
 refine Z7k (t:=4) (ty:=3) Sol.func81 follows Z2 rfl PI rfl Z0A ?_;simp[HD];refine UI (λt=>∃i:Nat,i<=P a/\t=[.v (.sl (a.map vi)),.v (Xv id l),.v (.sl []),.v (.sl ((WV l (a.take i)).map vi)),.v (vi i),.v (vi (P a)),.no,.no,.v (.sl (a.map vi))]) (λt=>match get t 4 with|.v (.int _ n)=>P a-n.toNat|_=>0) ?_ ?_;exact⟨0,Z1,by simp[WV]⟩;rintro t ⟨i,k,rfl⟩;by_cases h:i<P a;have j:a[i]?=xk a[i]:=ZcM h;have d:WV l (a.take (i+1))=WV l (a.take i)++[if 0<=a[i]then SX l a[i]else a[i]]:=by
  unfold WV;rw[ZdK,j,Zeb];rfl
 have g:P (WV l (a.take i))<=100000:=by simp[WV];omega
 simp[h];simp(disch:=omega) only[Zz];by_cases f:0<=a[i];simp[f,Z2u];refine⟨Zci,⟨i+1,Z0,by rw[d];simp[f],Z1⟩,Z0⟩;simp[f];refine⟨Zci,⟨i+1,Z0,by rw[d];simp[f],Z1⟩,Z0⟩;have:i=P a:=Z0;subst this;simp
def GE{g:Gr}(d:right g=xy):∀ {f i:Nat} {l:List Int},Good (P g.nodes) l->Good (P g.nodes) (XJ g f i l)
 |0,i,l,h=>h
 |f+1,i,l,h=>by
  simp only[XJ];split;rename_i x k;refine GE d (T6 h λy j=> ?_);obtain⟨n,o⟩:=h.2 x (ZcT k);have a:x.toNat<P g.nodes:=Z0;rw[ZcM a]at j;exact(Bg d _ (Zd3 a) y j).2;exact h
def Al{g:Gr}(a:right g=xy):Good (P g.nodes) (order g):=
 GE a (T6 ⟨Z1,Z1⟩ λx d=>(RH a x d).2)
def p6{g:Gr}(p:g.sm)(r:right g=xy)(id:Nat)(ks vs:List V):V1 Sol.prog 47 [.fz,.own 97] [Yd g,.mp id ks vs] (.tup [Yd (XO g),Xv id (order g)]):=by
 refine QU Sol.func47 follows Z2 Pn Z2 ?_;simp[Hm];refine VE (Z3X p r id ks vs) ?_;simp;obtain⟨u,j,o⟩:=p;have a:=Al r;have f:=a.len;generalize A:order g=l at a f;refine UI (λt=>∃i:Nat,i<=P l/\t=[.v (Yd g),.v (Xv id l),.m [.sl (g.nodes.map Yf),.sl (g.roots.map vi)],.m [.sl [],.sl []],.m [.sl (((l.take i).map (Q6 g l)).map Yf),.sl []],.v (vi i),.v (vi (P l)),.no,.no,.v (.sl (l.map vi))]) (λt=>match get t 5 with|.v (.int _ n)=>P l-n.toNat|_=>0) ?_ ?_;exact⟨0,Z1,Z1⟩;rintro t ⟨i,z,rfl⟩;by_cases h:i<P l;have B:l[i]?=xk l[i]:=ZcM h;obtain⟨y,D⟩:=a.2 _ (Zd3 h);obtain⟨k,q⟩:=Zd7 y;have d:k<P g.nodes:=Z0;obtain⟨x,C⟩:=o _ (Zd3 d);simp[h,q,d];refine Zy (G5 x) Z1 ?_;simp;simp(disch:=omega) only[Zz];have w:V.agg [V.sl (List.map vi (WV l g.nodes[k].ptrs)),V.sl (List.map vu g.nodes[k].data)]=Yf (Q6 g l l[i]):=by
  simp[Q6,q,d,Yf]
 refine⟨by grind [Y5],by grind [Y5],⟨i+1,Z0,?_,Z1⟩,Z0⟩;simp_all[ZdK,Zdb];have:i=P l:=Z0;simp_all;refine Zy (G5 j) Z1 ?_;simp_all[XO,Yd]
def PZ{g:Gr}(h:g.sm)(o:right g=xy):(XO g).sm:=by
 obtain⟨j,k,l⟩:=h;have a:=Al o;have d:=a.len;refine⟨by grind [XO],by simp_all[XO,WV],λn f=> ?_⟩;simp only[XO,Zd1]at f;obtain⟨x,p,rfl⟩:=f;obtain⟨q,r⟩:=a.2 x p;simp_all[Zd3,Q6,WV]
def TF:Gr:=⟨[],[]⟩
def WO(g:Gr):V:=if right g=xy then .tup [Yd (XO g),vi 0]else .tup [Yd TF,vi 1]
def Nv{g:Gr}(a:g.sm):VC Sol.prog 17 xh [Yd g] (WO g):=by
 refine ZV Sol.func17 follows Z2 P4 rfl ?_;simp[H8];refine Zy (Z5C a) Z1 ?_;cases d:right g;simp[WO,d,TF,Yd];simp;refine VE (p6 a d 0 [] []) ?_;simp_all[WO,Yd]
def NQ{a b:Gr}(p:a.sm):VC Sol.prog 18 xh [Yd a,Yd b] (.bool (decide (a=b))):=by
 refine ZV Sol.func18 follows Z2 P5 rfl ?_;obtain⟨u,l,o⟩:=p;simp[H9];refine Zy (Ff l) Z1 ?_;by_cases k:a.roots=b.roots;simp[k];by_cases g:P a.nodes=P b.nodes;simp[g];refine UI (λt=>∃i:Nat,i<=P b.nodes/\a.nodes.take i=b.nodes.take i/\t=[.v (Yd a),.v (Yd b),.m [.sl (a.nodes.map Yf),.sl (a.roots.map vi)],.m [.sl (b.nodes.map Yf),.sl (b.roots.map vi)],.v (.bool xh),.v (.bool xy),.v (.bool xh),.v (vi i)]) (λt=>match get t 7 with|.v (.int _ n)=>P b.nodes-n.toNat|_=>0) ?_ ?_;exact⟨0,Z1,Z1,by simp[k]⟩;rintro t ⟨i,w,heq,rfl⟩;by_cases h:i<P b.nodes;have j:i<P a.nodes:=Z0;obtain⟨q,r⟩:=o _ (Zd3 j);simp[h,j,g];refine Zy (Ff q) Z1 ?_;simp[h,j,g];refine Zy (Qy (Zdm r Z0)) Z1 ?_;by_cases d:a.nodes[i].ptrs=b.nodes[i].ptrs;by_cases f:a.nodes[i].data=b.nodes[i].data;simp[d,f];simp(disch:=omega) only[Zz];have z:a.nodes[i]=b.nodes[i]:=by
  generalize a.nodes[i]=x at d f;generalize b.nodes[i]=y at d f;cases x;cases y;simp at d f;simp[d,f]
 grind [BW];simp[d,f];grind;simp[d];grind;have:i=P b.nodes:=Z0;subst this;rw[Zek,ZdR Z0]at heq;simp[g];cases a;simp_all;simp[show ¬((P a.nodes:Int)=(P b.nodes:Int))by omega];grind;simp[k];grind
end Vm
namespace Vm
open Go Go.Proofs
end Vm
end
section
namespace Vm
open Go Go.Proofs
def g0:Gr:=⟨[⟨[],[]⟩,⟨[],[4]⟩,⟨[1],[]⟩,⟨[],[]⟩],[2,0]⟩
def g1:Gr:=⟨[],[0]⟩
def g2:Gr:=⟨[],[-1,-1]⟩
end Vm
end
section

end
section
namespace Vm
open Go Go.Proofs
def outs(g:Gr)(x:Int):List Int:=((g.nodes[x.toNat]?).getD default).ptrs
def Ge:∀(a:Zf) {d b:Zf},Y8 d (a++b)=Y8 (Y8 d a) b
 | [],_,_=>rfl
 |x::a,d,b=>by simp only[Ze2,Y8];exact Ge a
def zm:∀(l:Zf) {acc:Zf},∃t,Y8 acc l=acc++t
 | [],acc=>⟨[],by simp[Y8]⟩
 |x::l,acc=>by
  simp only[Y8];obtain⟨t,a⟩:=zm l (acc:=if 0<=x/\x∉acc then acc++[x]else acc);rw[a];split;exact⟨x::t,Z1⟩;exact⟨t,rfl⟩
def Rs:∀ {l d:Zf} {x:Int},x∈Y8 d l↔x∈d\/(x∈l/\0<=x)
 | [],d,x=>by simp[Y8]
 |y::l,d,x=>by
  simp only[Y8,Rs (l:=l),Zd6];split;rename_i h;simp only[Zdd,ZdP];constructor;rintro((a|rfl)|a);exact .inl a;exact .inr ⟨.inl rfl,h.1⟩;exact .inr ⟨.inr a.1,a.2⟩;rintro(a|⟨rfl|a,f⟩);exact .inl (.inl a);exact .inl (.inr rfl);exact .inr ⟨a,f⟩;rename_i h;constructor;rintro(a|a);exact .inl a;exact .inr ⟨.inr a.1,a.2⟩;rintro(a|⟨rfl|a,f⟩);exact .inl a;exact .inl (by by_cases g:x∈d;exact g;exact(h ⟨f,g⟩).elim);exact .inr ⟨a,f⟩
def LB{g:Gr}(f:right g=xy)(x:Int):∀y∈outs g x,-1<=y/\y<P g.nodes:=by
 intro y a;unfold outs at a;cases d:g.nodes[x.toNat]? with
 |none=>rw[d]at a;cases a
 |some n=>rw[d]at a;exact Bg f n (ZcT d) y a
def GG{g:Gr}(n:right g=xy):∀ {f i:Nat} {l:Zf},Good (P g.nodes) l->i<=P l->P g.nodes<f+i->l=Y8 [] (g.roots++(l.take i).flatMap (outs g))->
  XJ g f i l=Y8 [] (g.roots++(XJ g f i l).flatMap (outs g))
 |0,i,l,j,p,o,a=>by have:=j.len;omega
 |f+1,i,l,j,p,o,a=>by
  simp only[XJ];cases d:l[i]? with
  |none=>
   have:P l<=i:=Zc7;rw[ZdR this]at a;exact a
  |some x=>
   have q:i<P l:=by
    obtain h|h:=ZgN i (P l);exact h;rw[ZdY h]at d;cases d
   obtain⟨t,k⟩:=zm (outs g x) (acc:=l);refine GG n (T6 j λy r=>(LB n x y r).2) ?_ Z0 ?_;show i+1<=P (Y8 l (outs g x));rw[k,ZdD];omega;show Y8 l (outs g x)=Y8 [] (g.roots++((Y8 l (outs g x)).take (i+1)).flatMap (outs g));rw[k,List.take_append_of_le_length Z0,ZdK,d,<-k];simp only[ZeB,Option.toList,<-ZdB];rw[Ge,<-a];simp
def GI{g:Gr}(a:right g=xy):order g=Y8 [] (g.roots++(order g).flatMap (outs g)):=by
 refine GG a (T6 ⟨List.nodup_nil,Z1⟩ λy d=>(RH a y d).2) (ZdZ _) Z0 ?_;simp
end Vm
end
section
namespace Vm
open Go
open Go.Proofs

end Vm
end
section
namespace Vm
open Go Go.Proofs
def ndW(n:Nd):Nat:=1+P n.ptrs+P n.data
def Z7I(l:List Nd):Nat:=(l.map ndW).sum
def words(g:Gr):Nat:=if right g=xy then Z7I g.nodes else 0
end Vm
namespace Vm
open Go Go.Proofs
def zn{f:Int->Int}:∀ {o l:List Int},(∀x∈Y8 l o,∀y∈Y8 l o,f x=f y->x=y)->(∀x∈Y8 l o,0<=f x)->(∀x∈o,x<0->f x<0)->Y8 (l.map f) (o.map f)=(Y8 l o).map f
 | [],l,_,_,_=>rfl
 |y::o,l,d,g,k=>by
  simp only[Zdc,Y8];simp only[Y8]at d g;by_cases j:0<=y/\y∉l;rw[if_pos j]at d g⊢;have h:y∈Y8 (l++[y]) o:=Rs.2 (.inl Z1)
  have a:0<=f y/\f y∉l.map f:=⟨g y h,λu=>by
   obtain⟨z,p,t⟩:=Zd1.1 u;have:=d z (Rs.2 (.inl (by simp[p]))) y h t;subst this;exact j.2 p⟩
  rw[if_pos a,show l.map f++[f y]=(l++[y]).map f by simp];exact zn d g λx n=>k x (by simp[n]);rw[if_neg j]at d g⊢;have a:¬(0<=f y/\f y∉l.map f):=by
   rintro⟨w,r⟩;by_cases q:0<=y;exact r (Zd1.2 ⟨y,by by_cases h:y∈l;exact h;exact(j ⟨q,h⟩).elim,rfl⟩);have:=k y Z1 Z0;omega
  rw[if_neg a];exact zn d g λx n=>k x (by simp[n])
def Ak{g:Gr}:∀ {F i:Nat} {l:List Int},∃t,XJ g F i l=l++t
 |0,i,l=>⟨[],by simp[XJ]⟩
 |F+1,i,l=>by
  simp only[XJ];cases l[i]? with
  |none=>exact⟨[],Z1⟩
  |some x=>
   obtain⟨t,d⟩:=zm ((g.nodes[x.toNat]?).getD default).ptrs (acc:=l);obtain⟨f,a⟩:=Ak (g:=g) (F:=F) (i:=i+1) (l:=Y8 l ((g.nodes[x.toNat]?).getD default).ptrs);refine⟨t++f,?_⟩;show XJ g F (i+1) (Y8 l ((g.nodes[x.toNat]?).getD default).ptrs)=_;rw[a,d,ZdB]
def Aj{g:Gr}(d:right g=xy):∀ {F i:Nat} {l:List Int} (k:Nat),Good (P g.nodes) l->P g.nodes<F+i->XJ g (F+k) i l=XJ g F i l
 |0,i,l,k,a,f=>by
  have:=a.len;cases k with
  |zero=>rfl
  |succ k=>
   simp only[Zdy,XJ];rw[ZdY Z0]
 |F+1,i,l,k,a,f=>by
  rw[show F+1+k=(F+k)+1 by omega];simp only[XJ];cases j:l[i]? with
  |none=>rfl
  |some x=>
   exact Aj d k (T6 a λy h=>(LB d x y h).2) Z0
def GF{g h:Gr}{f:Int->Int}(d:∀x∈order g,(h.nodes[(f x).toNat]?).map (·.ptrs)=xk ((outs g x).map f))(n:∀x∈order g,∀y∈outs g x,y<0->f y<0)(k:∀x∈order g,∀y∈order g,f x=f y->x=y)(o:∀x∈order g,0<=f x):
  ∀ {F i:Nat} {l:List Int},(∀x∈XJ g F i l,x∈order g)->XJ h F i (l.map f)=(XJ g F i l).map f
 |0,i,l,_=>rfl
 |F+1,i,l,q=>by
  simp only[XJ,Zdb];simp only[XJ]at q;cases A:l[i]? with
  |none=>rfl
  |some x=>
   rw[A]at q;simp only[Zd4];simp only at q;have u:x∈order g:=by
    obtain⟨t,C⟩:=zm ((g.nodes[x.toNat]?).getD default).ptrs (acc:=l);obtain⟨G,p⟩:=Ak (g:=g) (F:=F) (i:=i+1) (l:=Y8 l ((g.nodes[x.toNat]?).getD default).ptrs);refine q x ?_;rw[p,C];simp[ZcT A]
   have r:=d x u;cases z:h.nodes[(f x).toNat]? with
   |none=>rw[z]at r;cases r
   |some H=>
    rw[z]at r;simp only[Zd4,ZcL]at r;simp only[Zdg,r];have j:∀y∈Y8 l (outs g x),y∈order g:=λy D=>by
     obtain⟨G,p⟩:=Ak (g:=g) (F:=F) (i:=i+1) (l:=Y8 l (outs g x));refine q y ?_;show y∈XJ g F (i+1) (Y8 l (outs g x));rw[p];simp[D]
    rw[zn (λa w b B=>k a (j a w) b (j b B)) (λa w=>o a (j a w)) (n x u)];exact GF d n k o q
def LY{g:Gr}(d:right g=xy){x:Int}(hx:x∈g.roots)(a:0<=x):x∈order g:=by
 rw[GI d,Rs];exact .inr ⟨by simp[hx],a⟩
def Z2t{g:Gr}(d:right g=xy){x y:Int}(hx:x∈order g)(f:y∈outs g x)(a:0<=y):y∈order g:=by
 rw[GI d,Rs];exact .inr ⟨ZeN _ (ZeH.2 ⟨x,hx,f⟩),a⟩
def O2{L:List Int}{f:Int->Int}{p:Int}(d:∀x∈L,f x=f p->x=p):SX (L.map f) (f p)=SX L p:=by
 unfold SX;rw[List.findIdx?_map];have:L.findIdx? ((λx=>x==f p)∘f)=L.findIdx? (λx=>x==p):=by
  induction L with
  |nil=>rfl
  |cons a L k=>
   simp only[Zft,Function.comp];have g:(f a==f p)=(a==p):=by
    rw[ZgD];simp only[Zdw];exact⟨d a Z1,λe=>by rw[e]⟩
   have h:=k λx j=>d x (by simp[j]);simp only[g];rw[h]
 rw[this]
def PY{g h:Gr}(o:right g=xy)(J:right h=xy)(f:Int->Int)(N:f (-1)= -1)(q:∀x∈order g,∀y∈order g,f x=f y->x=y)(r:∀x∈order g,0<=f x)
  (n:h.roots=g.roots.map f) (k:∀x∈order g,h.nodes[(f x).toNat]?=xk ⟨(outs g x).map f,((g.nodes[x.toNat]?).getD default).data⟩):
  order h=(order g).map f/\XO h=XO g:=by
 have z:∀x:Int,-1<=x->x<0->f x=x:=λx C D=>by
  have:x= -1:=Z0;subst this;exact N
 have w:∀x∈order g,(h.nodes[(f x).toNat]?).map (·.ptrs)=xk ((outs g x).map f):=λx a=>by rw[k x a];rfl
 have G:order h=(order g).map f:=by
  have t:Good (P g.nodes) (Y8 [] g.roots):=T6 ⟨Z1,Z1⟩ λx a=>(RH o x a).2;have u:Good (P h.nodes) (Y8 [] h.roots):=T6 ⟨Z1,Z1⟩ λx a=>(RH J x a).2;have C:=Aj o (F:=P g.nodes+1) (i:=0) (P h.nodes) t Z0;have D:=Aj J (F:=P h.nodes+1) (i:=0) (P g.nodes) u Z0;have K:=GF (f:=f) w (λx a y B d=>by rw[z y (LB o x y B).1 d];exact d) q r (F:=P g.nodes+1+P h.nodes) (i:=0) (l:=Y8 [] g.roots) (λx a=>by rw[C]at a;exact a);have L:Y8 [] h.roots=(Y8 [] g.roots).map f:=by
   rw[n];refine zn (l:=[]) (λx a y B=> ?_) (λx a=> ?_) (λx a d=> ?_);rw[Rs]at a B;simp at a B;exact q x (LY o a.1 a.2) y (LY o B.1 B.2);rw[Rs]at a;simp at a;exact r x (LY o a.1 a.2);rw[z x (RH o x a).1 d];exact d
  unfold order;rw[<-D,<-C,L,<-K];congr 1;omega
 refine⟨G,?_⟩;have j:∀H:List Int,(∀p∈H,-1<=p/\(0<=p->p∈order g))->WV (order h) (H.map f)=WV (order g) H:=by
  intro H I;unfold WV;rw[Zfc];refine Zes λp A=> ?_;obtain⟨C,D⟩:=I p A;simp only[Function.comp];by_cases d:0<=p;rw[if_pos (r p (D d)),if_pos d,G];exact O2 λx a M=>q x a p (D d) M;rw[z p C Z0];rw[if_neg d,if_neg d]
 unfold XO;congr 1;rw[G,Zfc];refine Zes λx a=> ?_;simp only[Function.comp,Q6,k x a,Zdg];congr 1;rw[<-G];exact j _ λp A=>⟨(LB o x p A).1,λd=>Z2t o a A d⟩;rw[n];exact j _ λp A=>⟨(RH o p A).1,λd=>LY o A d⟩
end Vm
end
section

end
section
namespace Vm
open Go Go.Proofs
structure Fo where
 ob:Ob
 ad:Int
 sl:List Int
 deriving Inhabited
def Xb(f:Fo):V:=.agg [vi f.ob.at_,vi f.ob.size,vi f.ob.ptrs,.bool f.ob.gone,vu f.ob.target,vu f.ad,.sl (f.sl.map vu)]
@[simp]theorem Z9Y(f:Fo):(Xb f).cells=[vi f.ob.at_,vi f.ob.size,vi f.ob.ptrs,.bool f.ob.gone,vu f.ob.target,vu f.ad,.sl (f.sl.map vu)]:=rfl
@[simp]theorem Zbj(f:Fo):Ve (Xb f) 7=xk (Xb f):=rfl
@[simp]theorem Z9Q(f:Fo):VL (Xb f) 0 7=xk (Xb f):=rfl
@[simp]theorem Z94(f:Fo):ZW (Xb f) 0=xk (vi f.ob.at_):=rfl
@[simp]theorem Z95(f:Fo):ZW (Xb f) 1=xk (vi f.ob.size):=rfl
@[simp]theorem Z96(f:Fo):ZW (Xb f) 2=xk (vi f.ob.ptrs):=rfl
@[simp]theorem Z97(f:Fo):ZW (Xb f) 3=xk (.bool f.ob.gone):=rfl
@[simp]theorem Z98(f:Fo):ZW (Xb f) 4=xk (vu f.ob.target):=rfl
@[simp]theorem Z99(f:Fo):ZW (Xb f) 5=xk (vu f.ad):=rfl
@[simp]theorem Z9a(f:Fo):ZW (Xb f) 6=xk (.sl (f.sl.map vu)):=rfl
structure Vw where
 ns:List Fo
 nm:List (Int×Int)
 tm:List (Int×Int)
 deriving Inhabited
def Vw.put(s:Vw)(f:Fo):Vw:=if f.ob.gone then {s with tm:=XD s.tm f.ad f.ob.target}else {s with ns:=s.ns++[f],nm:=XD s.nm f.ad (P s.ns)}
def Vw.toA(s:Vw)(w:Int):Int:=if w=0 then-1 else(ZX s.nm ((ZX s.tm (adr w).1).getD (adr w).1)).getD 0
def Ut(s:Vw)(f:Fo):Nd:=⟨(f.sl.take f.ob.ptrs.toNat).map s.toA,f.sl.drop f.ob.ptrs.toNat⟩
def Vw.gr(s:Vw)(a:Zf):Gr:=⟨s.ns.map (Ut s),a.map s.toA⟩
def CF(s:Vw){ws:Zf}(B:P ws<=1000000)(x:∀w∈ws,ZA w):
  V1 Sol.prog 43 [.fz,.mem [.fz],.mem [.fz]] [.sl (ws.map vu),.agg [Ya vu s.tm],.agg [Ya vi s.nm]] (.tup [.sl ((ws.map s.toA).map vi),.agg [Ya vu s.tm],.agg [Ya vi s.nm]]):=by
 refine QU Sol.func43 follows Z2 PQ Z2 ?_;simp[HQ];refine VB 5 (P ws) (λi=>[(4,.v (.sl (((ws.take i).map s.toA).map vi))),(5,.v (vi i))]) (λ_=>True) Z1 Z1 trivial ?_;intro i A _;by_cases h:i<P ws;have y:ws[i]?=xk ws[i]:=ZcM h;have r:=x _ (Zd3 h);have o:=Zz ((i:Int)+1) Z0 Z0;have q:List.take (i+1) (List.map (vi∘s.toA) ws)=List.take i (List.map (vi∘s.toA) ws)++[vi (s.toA ws[i])]:=by
  rw[ZdK,Zdb,y];rfl
 have a:min i (P ws)+1<=Y5:=by unfold Y5;omega
 simp[h,o,q,a];split;simp_all[Vw.toA];rename_i p;refine Zy (J6 r) Z1 ?_;have j:=Rn (f:=vu) (l:=s.tm) (k:=(adr ws[i]).1) (z:=.int .u64 0) (ok:=xy);cases n:ZX s.tm (adr ws[i]).1 with
 |none=>
  rw[n]at j;have d:=Rn (f:=vi) (l:=s.nm) (k:=(adr ws[i]).1) (z:=.int .i64 0) (ok:=xh);cases g:ZX s.nm (adr ws[i]).1 with
  |none=>rw[g]at d;simp[j,d,Vw.toA,p,n,g,o,a]
  |some t=>rw[g]at d;simp[j,d,Vw.toA,p,n,g,o,a]
 |some u=>
  rw[n]at j;have d:=Rn (f:=vi) (l:=s.nm) (k:=u) (z:=.int .i64 0) (ok:=xh);cases g:ZX s.nm u with
  |none=>rw[g]at d;simp[j,d,Vw.toA,p,n,g,o,a]
  |some t=>rw[g]at d;simp[j,d,Vw.toA,p,n,g,o,a]
 have:i=P ws:=Z0;simp_all
def Z51{s:St}{st:Vw}{f:Fo}{N R:St->Prop}{X:Nat->St->Prop}(o:get s 6=.v (.sl (st.ns.map Xb)))(p:get s 7=.m [Ya vi st.nm])(q:get s 8=.m [Ya vu st.tm])(h:get s 12=.v (.tup [Xb f,.bool xy]))(g:get s 10=.v (.bool xy))(u:P st.ns<=4000000)
  (r:∀a,get a 6=.v (.sl ((st.put f).ns.map Xb))->get a 7=.m [Ya vi (st.put f).nm]->get a 8=.m [Ya vu (st.put f).tm]->get a 1=get s 1->get a 2=get s 2->get a 3=get s 3->N a):Yj Sol.prog rD s N X R:=by
 have j:=JO (f:=vu) (l:=st.tm) (k:=f.ad) (x:=f.ob.target);have n:=JO (f:=vi) (l:=st.nm) (k:=f.ad) (x:=(P st.ns:Int));have d:P st.ns+1<=Y5:=by unfold Y5;omega
 cases t:f.ob.gone;simp_all[rD,YT,Vw.put,Xb];simp_all[rD,YT,Vw.put]
def Z50{s:St}{N R:St->Prop}{X:Nat->St->Prop}(a:get s 10=.v (.bool xh))(d:X 0 s):Yj Sol.prog rD s N X R:=by
 simp[rD,a,d]
structure Vw.sm (st:Vw) (roots:List Int):Prop where
 n:P st.ns<=100000
 f:∀f∈st.ns,0<=f.ob.ptrs/\f.ob.ptrs<=P f.sl/\P f.sl<=100000/\∀w∈f.sl,ZA w
 r:P roots<=100000/\∀w∈roots,ZA w
def Vw.sm.gr{st:Vw}{a:Zf}(h:st.sm a):(st.gr a).sm:=by
 refine⟨by simpa[Vw.gr]using h.n,by simpa[Vw.gr]using h.r.1,λn d=> ?_⟩;simp only[Vw.gr,Zd1]at d;obtain⟨f,g,rfl⟩:=d;obtain⟨_,_,j,_⟩:=h.f f g;grind [Ut,List.length_map,List.length_take,List.length_drop]
def Z4Z{s:St}{st:Vw}{roots:Zf}{b c t y sc:V}{I J K L:V}{N R:St->Prop}{X:Nat->St->Prop}(k:st.sm roots)(x:get s 1=.m [b,c,t,y,sc,I,J,K,L,.sl (roots.map vu)])(o:get s 6=.v (.sl (st.ns.map Xb)))(z:get s 7=.m [Ya vi st.nm])(A:get s 8=.m [Ya vu st.tm])
  (a:∀D,XX D [(2,.ag 2),(3,.v)]=xk (WO (st.gr roots))->R D):Yj Sol.prog rC s N X R:=by
 simp[rC,o,YT];refine VB 16 (xq st.ns) (λi=>[(15,.m [.sl (((st.ns.take i).map (Ut st)).map Yf),.sl []]),(16,.v (vi i))]) (λ_=>True) (by simp[YT]) (by simp[YT]) trivial ?_;intro i M _;by_cases h:i<xq st.ns;have G:st.ns[i]?=xk st.ns[i]:=ZcM h;obtain⟨H,Q,p2,p3⟩:=k.f _ (Zd3 h);have O:=k.n;obtain⟨P,B⟩:=Zd7 H;have d:P<=st.ns[i].sl.length:=Z0;have u:=Zz ((i:Int)+1) Z0 Z0;have q:List.take (i+1) (List.map (Yf∘Ut st) st.ns)=List.take i (List.map (Yf∘Ut st) st.ns)++[Yf (Ut st st.ns[i])]:=by
  rw[ZdK,Zdb,G];rfl
 have l:=CF st (ws:=st.ns[i].sl.take P) ZbV λw u=>p3 w (ZdE u);have j:min i (xq st.ns)+1<=Y5:=by unfold Y5;omega
 simp[YT,h,x,o,z,A,B,SG,d];rw[List.map_take]at l;refine VE l ?_;simp[YT,Kz,d,u,q,j,B,Ut,Yf];have:i=xq st.ns:=Z0;subst this;simp[YT,x,o,z,A];refine VE (CF st (ws:=roots) (by have:=k.r.1;omega) k.r.2) ?_;simp;have C:=Nv k.gr;simp only[Vw.gr,Yd,Zfc]at C;refine Zy C Z1 ?_;have F:WO (st.gr roots)=WO {nodes:=List.map (Ut st) st.ns,roots:=List.map st.toA roots}:=rfl;rw[F]at a;generalize ({nodes:=List.map (Ut st) st.ns,roots:=List.map st.toA roots}:Gr)=g at*;unfold WO at a⊢;split;rename_i p;rw[if_pos p]at a;simp;refine a _ ?_;simp[XX,Vv,UB,Yd];rename_i p;rw[if_neg p]at a;simp[TF,Yd];refine a _ ?_;simp[XX,Vv,UB,TF,Yd]
end Vm
end
section
namespace Vm
open Go Go.Proofs Go.RowKit Go.Conc
def D7{t:Z9}(h:t.size=71):t=#[t.getD 0 undef,t.getD 1 undef,t.getD 2 undef,t.getD 3 undef,t.getD 4 undef,t.getD 5 undef,t.getD 6 undef,t.getD 7 undef,t.getD 8 undef,t.getD 9 undef,t.getD 10 undef,t.getD 11 undef,t.getD 12 undef,t.getD 13 undef,t.getD 14 undef,t.getD 15 undef,t.getD 16 undef,t.getD 17 undef,t.getD 18 undef,t.getD 19 undef,t.getD 20 undef,t.getD 21 undef,t.getD 22 undef,t.getD 23 undef,t.getD 24 undef,t.getD 25 undef,t.getD 26 undef,t.getD 27 undef,t.getD 28 undef,t.getD 29 undef,t.getD 30 undef,t.getD 31 undef,t.getD 32 undef,t.getD 33 undef,t.getD 34 undef,t.getD 35 undef,t.getD 36 undef,t.getD 37 undef,t.getD 38 undef,t.getD 39 undef,t.getD 40 undef,t.getD 41 undef,t.getD 42 undef,t.getD 43 undef,t.getD 44 undef,t.getD 45 undef,t.getD 46 undef,t.getD 47 undef,t.getD 48 undef,t.getD 49 undef,t.getD 50 undef,t.getD 51 undef,t.getD 52 undef,t.getD 53 undef,t.getD 54 undef,t.getD 55 undef,t.getD 56 undef,t.getD 57 undef,t.getD 58 undef,t.getD 59 undef,t.getD 60 undef,t.getD 61 undef,t.getD 62 undef,t.getD 63 undef,t.getD 64 undef,t.getD 65 undef,t.getD 66 undef,t.getD 67 undef,t.getD 68 undef,t.getD 69 undef,t.getD 70 undef]:=by
 refine Zgi Z0 λi f d=> ?_;have a:i<71:=Zc7;have e:t[i]=t.getD i undef:=by simp[Array.getD,f]
 rw[e]
 revert d
 match i,a with
 |0,_=>simp
 |1,_=>simp
 |2,_=>simp
 |3,_=>simp
 |4,_=>simp
 |5,_=>simp
 |6,_=>simp
 |7,_=>simp
 |8,_=>simp
 |9,_=>simp
 |10,_=>simp
 |11,_=>simp
 |12,_=>simp
 |13,_=>simp
 |14,_=>simp
 |15,_=>simp
 |16,_=>simp
 |17,_=>simp
 |18,_=>simp
 |19,_=>simp
 |20,_=>simp
 |21,_=>simp
 |22,_=>simp
 |23,_=>simp
 |24,_=>simp
 |25,_=>simp
 |26,_=>simp
 |27,_=>simp
 |28,_=>simp
 |29,_=>simp
 |30,_=>simp
 |31,_=>simp
 |32,_=>simp
 |33,_=>simp
 |34,_=>simp
 |35,_=>simp
 |36,_=>simp
 |37,_=>simp
 |38,_=>simp
 |39,_=>simp
 |40,_=>simp
 |41,_=>simp
 |42,_=>simp
 |43,_=>simp
 |44,_=>simp
 |45,_=>simp
 |46,_=>simp
 |47,_=>simp
 |48,_=>simp
 |49,_=>simp
 |50,_=>simp
 |51,_=>simp
 |52,_=>simp
 |53,_=>simp
 |54,_=>simp
 |55,_=>simp
 |56,_=>simp
 |57,_=>simp
 |58,_=>simp
 |59,_=>simp
 |60,_=>simp
 |61,_=>simp
 |62,_=>simp
 |63,_=>simp
 |64,_=>simp
 |65,_=>simp
 |66,_=>simp
 |67,_=>simp
 |68,_=>simp
 |69,_=>simp
 |70,_=>simp
 |i+71,h=>omega
def SI(v:Z7)(a n:Nat):Value:=match v with
 |.slice (xk ⟨b,o,q⟩) _ c=>.slice (xk (if c=a then⟨b,o,q⟩else⟨b,o+a,q⟩)) n (c-a)
 |v=>v
def U0(h:Hp)(x:Zh)(p:Nat)(o:Ob):Value:=.agg #[.int .i64 o.at_,.int .i64 o.size,.int .i64 o.ptrs,.bool o.gone,.int .u64 o.target,.int .u64 (ZY (Zu h) ((p:Int)+1) o.at_).1,SI (x p) (o.at_+1).toNat o.size.toNat]
def obP(h:Hp)(p:Nat):List Ob:=(Vq h ((p:Int)+1)).1
def Wb(h:Hp)(x:Zh):Nat->Nat->List Value
 |0,_=>[]
 |n+1,p=>(obP h p).map (U0 h x p)++Wb h x n (p+1)
noncomputable def seC:Code:=match Try.f42.body with|some c=>c|none=>.skip
noncomputable def clOps:Array Oper:=K0 (Yk seC [1,1,1])
def Cm(c:Nat)(b:Ze)(d:Z5)(fr:Ze)(cs:Z5)(w:Z3):Prop:=cs=d/\∃a,fr=b.at a [.inRegion clOps [1]]/\a.tmps[70]?=xk (.chan (xk c))/\a.defers=[]
def Z55{w:Z3}{G:Z6}{h:Hp}{x:Zh}(d:∀j,j<5->Rd w G (.sl ((Zv h j).map vu)) (x j)):Rd w G (ZL h) (ZZ h x):=by
 refine .agg _ _ rfl Z1 ?_;intro i y a
 match i,a with
 |0,a=>cases a;exact .int _ _
 |1,a=>cases a;exact .int _ _
 |2,a=>cases a;exact .int _ _
 |3,a=>cases a;exact .bool _
 |4,a=>cases a;exact .int _ _
 |5,a=>cases a;exact d 0 Z0
 |6,a=>cases a;exact d 1 Z0
 |7,a=>cases a;exact d 2 Z0
 |8,a=>cases a;exact d 3 Z0
 |9,a=>cases a;exact d 4 Z0
def NI{w:Z3}{G:Z6}{h:Hp}(u:h.ok){x:Zh}(o:∀b,G b->b<U (R w))(z:∀j,j<5->Rd w G (.sl ((Zv h j).map vu)) (x j))(p:Int):
  Calls Sol.prog 27 #[ZZ h x,.int .i64 p] w λe f=>∃s,e=.returned (.tuple #[s,.int .i64 (Vq h p).2])/\Below (U (R w)) w f/\Rd f (λb=>b<U (R f)) (.sl ((Vq h p).1.map ZH)) s:=by
 refine Zgj ((Cp u (k:=p)).2 w G _ o rfl ?_) ?_;intro i y d
 match i,d with
 |0,d=>cases d;exact Z55 z
 |1,d=>cases d;exact .int _ _
 rintro e f ⟨v,rfl,q,A⟩;cases A with
 |tup _ vs l n=>
  have t:=n 0 _ rfl;have g:=TO (n 1 _ rfl);simp only[Zec,ZeV]at l;refine⟨vs.getD 0 undef,?_,q,t.mono λb a=> ?_⟩;congr 2;refine Zgi (by simpa using l) λi r B=> ?_;have:i=0\/i=1:=by simp at B;omega
  obtain rfl|rfl:=this;simp[Array.getD,r];simp[Array.getD,r]at g;simpa using g;obtain⟨_,a⟩|a:=a;exact ZcY (o b a) q.size;exact a.2
def u71(a b:Z7):(#[a,b]:Array Value)++Array.replicate (71- (#[a,b]:Array Value).size) undef=#[a,b,undef,undef,undef,undef,undef,undef,undef,undef,undef,undef,undef,undef,undef,undef,undef,undef,undef,undef,undef,undef,undef,undef,undef,undef,undef,undef,undef,undef,undef,undef,undef,undef,undef,undef,undef,undef,undef,undef,undef,undef,undef,undef,undef,undef,undef,undef,undef,undef,undef,undef,undef,undef,undef,undef,undef,undef,undef,undef,undef,undef,undef,undef,undef,undef,undef,undef,undef,undef,undef]:=Z2
structure SSt (w:World) (h:Hp) (x:Nat->Value) (b4:Nat) (W:World):Prop where
 bel:Below (U (R w)) w W
 c2:W.heap[U (R w)]?=xk (.cells #[.int .u64 h.base,.int .i64 h.cap,.int .i64 h.to,.bool h.cycle,.int .i64 h.scan,x 0,x 1,x 2,x 3,x 4] 37 (0,0))
 c4:W.heap[b4]?=xk (.cells #[.int .u64 h.base,.int .i64 h.cap,.int .i64 h.to,.int .i64 (P h.low),.int .i64 (P h.high),.int .i64 (P h.old),.int .i64 (P h.far)] 69 (0,0))
def SSt.below{w W d:Z3}{h:Hp}{x:Zh}{f:Nat}(s:SSt w h x f W)(a:Below (U (R W)) W d):SSt w h x f d:=
 ⟨s.bel.trans (a.mono s.bel.size),(a.block _ (YO s.c2)).trans s.c2,(a.block _ (YO s.c4)).trans s.c4⟩
def Kk{W:Z3}{G:Z6}{l:Zf}{y:Z7}(h:Rd W G (.sl (l.map vu)) y):∃a c,y=.slice a (P l) c:=by
 generalize f:l.map vu=L at h;have j:P L=P l:=by rw[<-f,Zdz]
 cases h with
 |nil a c d=>simp_all
 |sl _ b o cap k vs d g=>simp_all
def Z62{P:Z4}{W:Z3}{T f:Z8}(p:P.underlying T=xk (.slice f))(q:(Go.sizeOf f).run P W=.ok 1 W){b o len cap:Nat}{d a:Int}(g:0<=d)(h2:d<=a)(r:a<=cap):
  (Instr.slice T (.slice (xk ⟨b,o,xw⟩) len cap) (xk (.int .i64 d)) (xk (.int .i64 a)) xw).run P W=.ok (SI (.slice (xk ⟨b,o,xw⟩) len cap) d.toNat (a-d).toNat) W:=by
 obtain⟨l,rfl⟩:=Zd7 g;obtain⟨k,rfl⟩:=Zd7 (Z0:0<=a);have h:l<=k:=Z0;have j:k<=cap:=Z0;have n:((k:Int) - (l:Int)).toNat=k-l:=Z0;simp[Instr.slice,Instr.sliceBounds,Instr.sliceBound,asIntOf,Zdx p,q,h,j,n,SI,Addr.add];grind
def Z5a{W:Z3}{G:Z6}{l:Zf}{y:Z7}(h:Rd W G (.sl (l.map vu)) y)(g:0<P l){a:ZbQ}{n k:Nat}(e:y=.slice a n k):∃b o,a=xk ⟨b,o,xw⟩/\P l<=k/\k<=maxLen:=by
 generalize f:l.map vu=L at h;have p:P L=P l:=by rw[<-f,Zdz]
 cases h with
 |nil a c d=>simp_all
 |sl _ b o cap q vs d j=>grind
def Z57{W:Z3}{G:Z6}{l:Zo}{y:Z7}(h:Rd W G (.sl (l.map ZH)) y):∃a c,y=.slice a (P l) c:=by
 generalize f:l.map ZH=L at h;have j:P L=P l:=by rw[<-f,Zdz]
 cases h with
 |nil a c d=>simp_all
 |sl _ b o cap k vs d g=>simp_all
def M1:Try.f42.body=xk seC:=Z2
def Z2G{Q:Z4}{c:Nat}{Post:Za}{es:ZbS}{fn:Func}{code d:Code}{a:Act}{b:Ze}{w:Z3}{cs:Z5}(f:fn.body=xk code)(h2:fn.body=xk d)(h:LS Q c Post es (b.at a [.code code]) cs w):LS Q c Post es (b.at a [.code d]) cs w:=by
 simp_all
def Z6b(b:Ze)(b7:Z5)(w:Z3)(h:Hp)(hh:h.ok)(x:Zh)(c:Nat)(G:Z6)(hG:∀b,G b->b<xz (xj w))(X:∀j,j<5->Rd w G (.sl ((Zv h j).map vu)) (x j))
  (d5:∀p,p<4->xq (obP h p)<=1000000/\∀o∈obP h p,0<=o.at_/\0<=o.size/\o.at_+1+o.size<=xq (Zv h p)):
  LS Sol.prog c (Cm c b b7) ((Wb h x 4 0).map .send) (b.at {tmps:=#[ZZ h x,.chan (xk c)]++Array.replicate (71- (#[ZZ h x,.chan (xk c)]:Array Value).size) undef,defers:=[]} [.code seC]) b7 w:=by
 obtain⟨O,Y,e0⟩:=Kk (X 0 Z0);obtain⟨P,k1,e1⟩:=Kk (X 1 Z0);obtain⟨Q,Z,e2⟩:=Kk (X 2 Z0);obtain⟨R,k3,e3⟩:=Kk (X 3 Z0);have A:=ZcX (And.intro e0 (And.intro e1 (And.intro e2 e3)));have HL:∀W,Below (xz (xj w)) w W->Calls Sol.prog 64 #[ZZ h x] W λe w'=>e=.returned (Va (Zu h))/\Below (xz (xj W)) W w':=λW L=>
  Tj (G:=G) (λb N=>ZcY (hG b N) L.size) λj hj=>(X j hj).keep (λb N=>L.block b (hG b N)) λ_ q=>q
 have HO:∀W,Below (xz (xj w)) w W->∀p,Calls Sol.prog 27 #[ZZ h x,.int .i64 p] W λe w'=>∃s,e=.returned (.tuple #[s,.int .i64 (Vq h p).2])/\Below (xz (xj W)) W w'/\Rd w' (λb=>b<xz (xj w')) (.sl ((Vq h p).1.map ZH)) s:=λW L p=>
  NI hh (G:=G) (λb N=>ZcY (hG b N) L.size) (λj hj=>(X j hj).keep (λb N=>L.block b (hG b N)) λ_ q=>q) p
 unfold ZZ at HL HO;rw[e0,e1,e2,e3]at HL HO;have HL:=ZcX HL;have HO:=ZcX HO;have HF:=ZcX (And.intro hG X);have HB:=ZcX d5;clear hG X d5;unfold ZZ;rw[e0,e1,e2,e3];refine Z2G (fn:=Try.f42) rfl M1 ?_;rw[u71];refine LS.two (LS.regK λK u=> ?_);go_wp2;obtain⟨w2,z⟩:∃w2,w2=w.alloc (.cells #[.int .u64 h.base,.int .i64 h.cap,.int .i64 h.to,.bool h.cycle,.int .i64 h.scan,.slice O (xq (Zv h 0)) Y,.slice P (xq (Zv h 1)) k1,.slice Q (xq (Zv h 2)) Z,.slice R (xq (Zv h 3)) k3,x 4] 37):=⟨_,rfl⟩;rw[<-z];have b2:w2.heap[xz (xj w)]?=xk (.cells #[.int .u64 h.base,.int .i64 h.cap,.int .i64 h.to,.bool h.cycle,.int .i64 h.scan,.slice O (xq (Zv h 0)) Y,.slice P (xq (Zv h 1)) k1,.slice Q (xq (Zv h 2)) Z,.slice R (xq (Zv h 3)) k3,x 4] 37 (0,0)):=by rw[z];exact Zdf ..
 have z2:xz (xj w2)=xz (xj w)+1:=by rw[z];simp
 have q2:Below (xz (xj w)) w w2:=by rw[z];exact(Zdr _ _).alloc (ZcR _) _
 clear z;have y2:∀j,w2.cell? ⟨xz (xj w),j,xw⟩=(#[.int .u64 h.base,.int .i64 h.cap,.int .i64 h.to,.bool h.cycle,.int .i64 h.scan,.slice O (xq (Zv h 0)) Y,.slice P (xq (Zv h 1)) k1,.slice Q (xq (Zv h 2)) Z,.slice R (xq (Zv h 3)) k3,x 4]:Array Value)[j]? :=λj=>Zd5 _ _ _ _ _ _ b2;have d:=ZcX (And.intro b2 (And.intro z2 q2));clear b2 z2 q2;refine LS.two (LS.regK λK u=> ?_)
 go_wp2_with (first
  |(go_at_call 64;refine(HL.out _ d.out.2.2).mono ?_;rintro e w3 ⟨rfl,b9⟩;unfold Va Zu;dsimp only;have I:=ZcX b9;clear b9))
 obtain⟨W,L⟩:∃W,W=w3.alloc (.cells #[.int .u64 h.base,.int .i64 h.cap,.int .i64 h.to,.int .i64 (xq h.low),.int .i64 (xq h.high),.int .i64 (xq h.old),.int .i64 (xq h.far)] 69):=⟨_,rfl⟩;obtain⟨S,a8⟩:∃S,S=xz (xj w3):=⟨_,rfl⟩;rw[<-L,<-a8];have f:SSt w h x S W:=by
  have hz:=I.out.size;rw[L,a8];exact⟨(d.out.2.2.trans (I.out.mono d.out.2.2.size)).alloc (by have:=d.out.2.2.size;omega) _,by rw[ZcU _ _ _ (by have:=YO d.out.1;omega)];rw[e0,e1,e2,e3];exact(I.out.block _ (YO d.out.1)).trans d.out.1,Zdf ..⟩
 clear L a8 I d y2 e0 e1 e2 e3;have y2:∀j,W.cell? ⟨xz (xj w),j,xw⟩=(#[.int .u64 h.base,.int .i64 h.cap,.int .i64 h.to,.bool h.cycle,.int .i64 h.scan,.slice O (xq (Zv h 0)) Y,.slice P (xq (Zv h 1)) k1,.slice Q (xq (Zv h 2)) Z,.slice R (xq (Zv h 3)) k3,x 4]:Array Value)[j]? :=λj=>Zcb;refine LS.two (LS.two (LS.regK λK u=> ?_));go_wp2
 refine LS.block (LS.loopI (λn es a W=>∃(p:Nat) (t:Z9),p+n=4/\es=(Wb h x n p).map .send/\a=⟨t,[]⟩/\t.size=71/\t.getD 1 undef=.chan (xk c)/\t.getD 2 undef=.pointer (xk ⟨xz (xj w),0,xw⟩)/\t.getD 4 undef=.pointer (xk ⟨S,0,xw⟩)/\
  t.getD 24 undef=.agg #[.slice O (xq (Zv h 0)) Y,.slice P (xq (Zv h 1)) k1,.slice Q (xq (Zv h 2)) Z,.slice R (xq (Zv h 3)) k3]/\t.getD 25 undef=.int .i64 p/\SSt w h x S W) (n:=4) ⟨0,_,rfl,rfl,rfl,rfl,rfl,rfl,rfl,rfl,rfl,f⟩ ?_)
 clear f y2 W;rintro n es a W ⟨p,t,hp,rfl,rfl,D,t1,t2,t4,F,H,f⟩ ih;have IH:=ZcX ih;clear ih;rw[D7 D,t1,t2,t4,F,H];obtain⟨g,hg⟩:∃g:Zh,∀i,t.getD i undef=g i:=⟨_,λ_=>rfl⟩;simp only[hg];clear hg t1 t2 t4 F H D t;have y2:∀j,W.cell? ⟨xz (xj w),j,xw⟩=(#[.int .u64 h.base,.int .i64 h.cap,.int .i64 h.to,.bool h.cycle,.int .i64 h.scan,.slice O (xq (Zv h 0)) Y,.slice P (xq (Zv h 1)) k1,.slice Q (xq (Zv h 2)) Z,.slice R (xq (Zv h 3)) k3,x 4]:Array Value)[j]? :=λj=>Zcb;cases n with
 |zero=>
  have d7:((p:Int)<4)=False:=ZgP Z0;refine LS.two (LS.regK λK u=> ?_);go_wp2;refine LS.two (LS.condF rfl (LS.exit rfl (LS.region ?_)));refine LS.value (i:=0) (l:=[1]) rfl rfl rfl ?_;exact LS.now ⟨rfl,_,rfl,rfl,rfl⟩
 |succ n=>
  have d7:((p:Int)<4)=True:=eq_true Z0;have f6:p<4:=Z0;refine LS.two (LS.regK λK u=> ?_);go_wp2;refine LS.two (LS.condT rfl (LS.skip (LS.two (LS.block (LS.two (LS.regK λK u=> ?_))))));obtain⟨ap,kp,ep⟩:=Kk (HF.out.2 p Z0);have d0:∀W,(Instr.index 135 (.agg #[.slice O (xq (Zv h 0)) Y,.slice P (xq (Zv h 1)) k1,.slice Q (xq (Zv h 2)) Z,.slice R (xq (Zv h 3)) k3]) (.int .i64 (p:Int))).run Sol.prog W=.ok (.slice ap (xq (Zv h p)) kp) W:=by
   intro W;have hT:Sol.prog.underlying 135=xk (.array 4 35):=Z2;have:p=0\/p=1\/p=2\/p=3:=Z0;rw[<-ep];obtain rfl|rfl|rfl|rfl:=this;rw[A.out.1];rfl;rw[A.out.2.1];rfl;rw[A.out.2.2.1];rfl;rw[A.out.2.2.2];rfl
  have EP:=ZcX ep;clear ep;go_wp2;clear d0;have b6:=Zz ((p:Int)+1) Z0 Z0;refine LS.two (LS.regK λK u=> ?_);go_wp2;have d:=ZcX f;clear f;refine LS.two (LS.regK λK u=> ?_)
  go_wp2_with (first
   |(go_at_call 27;refine(HO.out _ d.out.bel _).mono ?_;rintro e W5 ⟨s5,rfl,c0,r⟩;obtain⟨a5,k5,rfl⟩:=Z57 r;have a4:=ZcX (And.intro c0 r);clear c0 r))
  refine LS.two (LS.regK λK u=> ?_);go_wp2;have f:=d.out.below a4.out.1;have r:=a4.out.2;clear d a4 y2 W d7;rename_i W5;rw[show(Vq h ((p:Int)+1)).1=obP h p from rfl]at r⊢;have U:=Z3A r λb N=>N;obtain⟨f5,d6⟩:=HB.out p f6;have c7:Wb h x (n+1) p=(obP h p).map (U0 h x p)++Wb h x n (p+1):=rfl;rw[c7];clear c7 r;have HX:=ZcX (And.intro U (And.intro f5 d6));clear U d6
  refine LS.block (LS.loopI (λm es a W=>∃(i:Nat) (t:Z9),i+m=xq (obP h p)/\es=(((obP h p).drop i).map (U0 h x p)++Wb h x n (p+1)).map .send/\a=⟨t,[]⟩/\t.size=71/\t.getD 1 undef=.chan (xk c)/\t.getD 2 undef=.pointer (xk ⟨xz (xj w),0,xw⟩)/\t.getD 4 undef=.pointer (xk ⟨S,0,xw⟩)/\
   t.getD 6 undef=.slice ap (xq (Zv h p)) kp/\t.getD 7 undef=.int .i64 ((p:Int)+1)/\t.getD 24 undef=.agg #[.slice O (xq (Zv h 0)) Y,.slice P (xq (Zv h 1)) k1,.slice Q (xq (Zv h 2)) Z,.slice R (xq (Zv h 3)) k3]/\t.getD 25 undef=.int .i64 p/\t.getD 37 undef=.slice a5 (xq (obP h p)) k5/\t.getD 38 undef=.int .i64 (xq (obP h p))/\t.getD 39 undef=.int .i64 i/\
   SSt w h x S W/\Below (xz (xj W5)) W5 W) (n:=xq (obP h p)) ⟨0,_,Z0,rfl,rfl,rfl,rfl,rfl,rfl,rfl,rfl,rfl,rfl,rfl,rfl,rfl,f,Zdr _ _⟩ ?_)
  clear f g b6;rintro m es a W ⟨i,t,hi,rfl,rfl,D,t1,t2,t4,t6,t7,F,H,e8,f0,f1,f,k⟩ ih;have f2:=ZcX ih;clear ih;rw[D7 D,t1,t2,t4,t6,t7,F,H,e8,f0,f1];obtain⟨g,hg⟩:∃g:Zh,∀i,t.getD i undef=g i:=⟨_,λ_=>rfl⟩;simp only[hg];clear hg t1 t2 t4 t6 t7 F H e8 f0 f1 D t;cases m with
  |zero=>
   have b3:((i:Int)< (xq (obP h p):Int))=False:=ZgP Z0;refine LS.two (LS.regK λK u=> ?_);go_wp2;refine LS.two (LS.condF rfl (LS.exit rfl (LS.inBlock ?_)));have b6:=Zz ((p:Int)+1) Z0 Z0;have C:(obP h p).drop i=[]:=ZfB Z0;rw[C];clear C b3;refine LS.regK λK u=> ?_;go_wp2;exact IH.out n _ _ _ Z0 ⟨p+1,_,Z0,rfl,rfl,rfl,rfl,rfl,rfl,rfl,Z1,f⟩
  |succ m=>
   have b5:i< xq (obP h p):=Z0;obtain⟨o,ho⟩:∃o,(obP h p)[i]?=xk o:=⟨_,ZcM b5⟩;have b3:((i:Int)< (xq (obP h p):Int))=True:=eq_true Z0;obtain⟨g5,o5,f7,e5,c6,g6,f4,B⟩|⟨a9,c9,e9,f3⟩:=HX.out.1;case inr=>rw[f3]at b5;simp at b5
   injection e5 with e5 _ e6;subst e5;subst e6;obtain⟨v0,v1,v2,v3,v4⟩:=B i o ho;have y:=k.block _ f4;have y0:W.cell? ⟨g5,o5+i*5,xw⟩=xk (.int .i64 o.at_):=by rw[ZdL y];exact v0
   have y1:W.cell? ⟨g5,o5+i*5+1,xw⟩=xk (.int .i64 o.size):=by rw[ZdL y];exact v1
   have y2:W.cell? ⟨g5,o5+i*5+2,xw⟩=xk (.int .i64 o.ptrs):=by rw[ZdL y];exact v2
   have y3:W.cell? ⟨g5,o5+i*5+3,xw⟩=xk (.bool o.gone):=by rw[ZdL y];exact v3
   have y4:W.cell? ⟨g5,o5+i*5+4,xw⟩=xk (.int .u64 o.target):=by rw[ZdL y];exact v4
   clear v0 v1 v2 v3 v4 y B;have HC:=ZcX c6;clear c6;refine LS.two (LS.regK λK u=> ?_);go_wp2;refine LS.two (LS.condT rfl (LS.skip (LS.two (LS.block (LS.two (LS.regK λK u=> ?_))))));go_wp2;obtain⟨W6,M⟩:∃W6,W6=W.alloc (.cells #[.int .i64 o.at_,.int .i64 o.size,.int .i64 o.ptrs,.bool o.gone,.int .u64 o.target] 59):=⟨_,rfl⟩;obtain⟨T,b1⟩:∃T,T=xz (xj W):=⟨_,rfl⟩;rw[<-M,<-b1];have b0:Below (xz (xj W)) W W6:=by rw[M];exact(Zdr _ _).alloc (ZcR _) _
   have q6:W6.heap[T]?=xk (.cells #[.int .i64 o.at_,.int .i64 o.size,.int .i64 o.ptrs,.bool o.gone,.int .u64 o.target] 59 (0,0)):=by rw[M,b1];exact Zdf ..
   have a6:=f.below b0;have b8:=k.trans (b0.mono k.size);clear M b1 b0 f k y0 y1 y2 y3 y4 W;have z4:∀j,W6.cell? ⟨S,j,xw⟩=(#[.int .u64 h.base,.int .i64 h.cap,.int .i64 h.to,.int .i64 (xq h.low),.int .i64 (xq h.high),.int .i64 (xq h.old),.int .i64 (xq h.far)]:Array Value)[j]? :=λj=>Zd5 _ _ _ _ _ _ a6.c4;have zo:∀j,W6.cell? ⟨T,j,xw⟩=(#[.int .i64 o.at_,.int .i64 o.size,.int .i64 o.ptrs,.bool o.gone,.int .u64 o.target]:Array Value)[j]? :=λj=>Zd5 _ _ _ _ _ _ q6;have d:=ZcX (And.intro a6 (And.intro b8 q6));clear a6 b8 q6;have HA:=ZcX λW=>CL hh.lay ((p:Int)+1) o.at_ W;unfold Va Zu at HA;dsimp only at HA;refine LS.two (LS.regK λK u=> ?_)
   go_wp2_with (first
    |(go_at_call 75;refine(HA.out _).mono ?_;rintro e W7 ⟨rfl,c1⟩;have J:=ZcX c1;clear c1))
   have f:=d.out.1.below J.out;have k:=d.out.2.1.trans (J.out.mono d.out.2.1.size);have q7:=(J.out.block _ (YO d.out.2.2)).trans d.out.2.2;clear z4 zo d J HA;rename_i W7;clear W6;obtain⟨f8,h0,g4⟩:=HX.out.2.2 o (ZcT ho);have d8:0< xq (Zv h p):=Z0;obtain⟨bw,ow,ew,f9,g7⟩:=Z5a (HF.out.2 p Z0) d8 EP.out;subst ew;have C:(obP h p).drop i=o::(obP h p).drop (i+1):=by
    obtain⟨h1,rfl⟩:=ZcN.1 ho;exact ZdG h1
   rw[C];rw[show(((o::(obP h p).drop (i+1)).map (U0 h x p)++Wb h x n (p+1)).map Ev.send)=.send (U0 h x p o)::(((obP h p).drop (i+1)).map (U0 h x p)++Wb h x n (p+1)).map .send from rfl];clear C ho b3;have zo:∀j,W7.drew.cell? ⟨T,j,xw⟩=(#[.int .i64 o.at_,.int .i64 o.size,.int .i64 o.ptrs,.bool o.gone,.int .u64 o.target]:Array Value)[j]? :=λj=>Zd5 _ _ _ _ _ _ (show W7.drew.heap[T]?=_ from q7);have g3:=Qt hh p;have b6:=Zz (o.at_+1) Z0 Z0;have z:=Zz (o.at_+1+o.size) Z0 Z0;have d9:(0:Int)<=o.at_+1:=Z0;have e4:o.at_+1<=o.at_+1+o.size:=Z0;have e7:o.at_+1+o.size<=(kp:Int):=Z0;obtain⟨av,nv,cv,a7⟩:∃av nv cv,.slice av nv cv=SI (x p) (o.at_+1).toNat o.size.toNat:=by rw[EP.out];exact⟨_,_,_,rfl⟩
   have g8:∀W,(Instr.slice 35 (.slice (xk ⟨bw,ow,xw⟩) (xq (Zv h p)) kp) (xk (.int .i64 (o.at_+1))) (xk (.int .i64 (o.at_+1+o.size))) xw).run Sol.prog W=.ok (.slice av nv cv) W:=by
    intro W;have hT:Sol.prog.underlying 35=xk (.slice 24):=Z2;rw[a7,EP.out,Z62 hT Z1 d9 e4 e7,show o.at_+1+o.size- (o.at_+1)=o.size by omega]
   clear d9 e4 e7 zo;have zo:∀j,W7.drew.cell? ⟨T,j,xw⟩=(#[.int .i64 o.at_,.int .i64 o.size,.int .i64 o.ptrs,.bool o.gone,.int .u64 o.target]:Array Value)[j]? :=λj=>Zd5 _ _ _ _ _ _ (show W7.drew.heap[T]?=_ from q7);have HV:=ZcX a7;clear a7;have d:=ZcX (And.intro f k);clear f k q7;refine LS.send (n:=16) follows Z2 rfl rfl rfl rfl rfl rfl ?_;simp only[Zg3,ZgR];change wpStill Sol.prog _ W7.drew _ _ _;repeat still_step
   refine wpStill_nil ⟨rfl,?_,?_⟩;unfold U0;rw[<-HV.out];rfl
   .refine LS.inBlock ?_;have g9:=Zz ((i:Int)+1) Z0 Z0;refine LS.regK λK u=> ?_;go_wp2;exact f2.out m _ _ _ Z0 ⟨i+1,_,Z0,rfl,rfl,rfl,rfl,rfl,rfl,rfl,rfl,rfl,rfl,rfl,rfl,Z1,SSt.below d.out.1 (Zdr _ _).drew,d.out.2.drew⟩
end Vm
end
section
namespace Vm
open Go Go.Proofs Go.Conc
open Go.RowKit (Below)
section
section
variable {c:Ctx}{B:Nat}{G Kf:Z6}{s:St}{a:Act}{w w0:Z3}{h:GH}{S:SS}{n0:Nat}{fix:Zb}{T0:Z9}{t:Nat}{v:Z7}{x:V}
def Wp{p:Nat}(d:p≠t):(a.put (xk t) v).tmps[p]?=a.tmps[p]? :=by
 simp[Act.put,Ze0,Zf1 d]
def SW(d:t<a.tmps.size):(a.put (xk t) v).tmps[t]?=xk v:=by
 simp[Act.put,Ze0,d]
theorem S9:(a.put (xk t) v).tmps.size=a.tmps.size:=by simp[Act.put]
theorem Z5t{p:Nat}{k:OT}{u:Z7}{d f:Nat->Option Value}(g:RelK c.P B s w h d p u (Q9 c p k)):RelK c.P B s w h f p u (Q9 c p k):=by
 cases k<;>exact g
def RelG.set(j:RelG c B G s a w h (Yl c S))(n:S.at t=xw):RelG c B G s (a.put (xk t) v) w h (Yl c S):=by
 refine⟨j.ok,λp g d=> ?_,λp g=> ?_⟩;by_cases e:p=t;subst e;rw[Yr,n]at d;cases d;obtain⟨u,o,f⟩:=j.at_ p g d;refine⟨u,by simp_all[Wp],?_⟩;rw[Yr]at f⊢;cases l:S.at p with
 |none=>rw[Yr,l]at d;cases d
 |some k=>grind [Z5t]
 refine absurd ?_ g;rw[Yr];cases S.at p<;>exact Vo _
def RelS.set(l:RelS Kf fix T0 c B G w0 n0 s a w S)(k:S.at t=xw):RelS Kf fix (a.put (xk t) v).tmps c B G w n0 s (a.put (xk t) v) w S:=by
 obtain⟨⟨h,d,f⟩,g,n,o,j⟩:=l;exact⟨⟨h,d.set k,f⟩,g,.refl _ _,by grind [S9],j⟩
def RelS.base(j:RelS Kf fix T0 c B G w0 n0 s a w S):RelS Kf fix a.tmps c B G w n0 s a w S:=by
 obtain⟨d,f,k,g⟩:=j;exact⟨d,f,.refl _ _,g⟩
theorem RelS.put(C:RelS Kf fix T0 c B G w0 n0 s a w S)(u:S.at t=xw)(f:∀y∈S,c.ix y.1≠c.ix t)(A:t<n0)(D:Rd w G x v):RelS Kf fix (a.put (xk t) v).tmps c B G w n0 (YA s (c.ix t) (.v x)) (a.put (xk t) v) w ((t,.fz)::S):=by
 obtain⟨⟨h,j,o⟩,q,H,I,r⟩:=C;refine⟨⟨h,⟨j.ok,λp d g=> ?_,λp d=> ?_⟩,o⟩,λp d=> ?_,.refl _ _,by grind [S9],r⟩;rw[Yr]at g⊢;by_cases e:t=p;subst e;simp only[SS.at,Zdv];exact⟨v,SW Z0,x,by simp[eval,YT],D.mono λb z=>GH.ext_F (j.ok.g_F b z)⟩;simp only[SS.at,if_neg e]at g⊢;have l:=(j.set (v:=v) u).agree (t:=YA s (c.ix t) (.v x)) λy F=>by rw[YT,if_neg (f y F)]
 cases n:S.at p with
 |none=>rw[n]at g;cases g
 |some k=>
  have:=l.at_ p (by grind [Yr,Vo]) (by simp_all[Yr]);simp_all[Yr]
 refine absurd ?_ d;rw[Yr];split<;>exact Vo _;by_cases e:t=p;simp_all[SS.at];simp only[SS.at,if_neg e]at d;rw[YT,if_neg (f _ (Q2 d))];exact q p d
end
noncomputable def cV:Ctx:= {P:=Sol.prog,ix:=(vf Sol.prog).ix,own:=λ_=>xh,fresh,sig:=BA,tr:=[3],n:=82}
def zu{code:Code}{S:SS}{st:Stm}{fl:Flow}{B:Nat}{G Kf:Z6}{s:St}{a:Act}{w w0:Z3}{T0:Z9}{N:St->Prop}{X:Nat->St->Prop}{Rt:St->Prop}(hc:comp (vf Sol.prog) code S=xk (st,fl))(j:RelS Kf [4,23] T0 cV B G w0 82 s a w S)(k:Yj Sol.prog st s N X Rt):
  code.wp Sol.prog (Post Kf [4,23] T0 cV B G w0 82 fl N X Rt) a w:=
 qz (fc:=vf Sol.prog) follows (λp f q g d=>B0 (Ze8 _ f) (Ze8 _ g) d) rfl rfl rfl (ZcR _) code (CO (λ_=>trivial) code) hc j k
noncomputable def bodyC:Code:=Yk ofC [1,1,1,1,1,1,1,0,1,0,0]
noncomputable def ops9:Array Oper:=K0 (Yk ofC [1,1,1,1,1,1,1,0,1,0,0,0])
def Z8h:bodyC=.seq (.region 9 ops9 xh) (Yk ofC [1,1,1,1,1,1,1,0,1,0,0,1]):=Z2
def Z5x:Yk ofC [1,1,1,1]=.seq (Yk ofC [1,1,1,1,0]) (.seq (Yk ofC [1,1,1,1,1,0]) (.seq (Yk ofC [1,1,1,1,1,1,0]) (.seq (.seq (Yk ofC [1,1,1,1,1,1,1,0,0]) (.block 0 (.loop bodyC))) (Yk ofC [1,1,1,1,1,1,1,1])))):=Z2
noncomputable def ops8:Array Oper:=K0 (Yk ofC [1,1,1,1,1,1,1,0,0])
def Z4Y:Yk ofC [1,1,1,1,1,1,1,0,0]=.region 8 ops8 xh:=Z2
def zF:Value:=.agg #[.int .i64 0,.int .i64 0,.int .i64 0,.bool xh,.int .u64 0,.int .u64 0,.slice xw 0 0]
def Z3U:∃t f d inf o,ops9[0]?=xk o/\o.guard=xw/\o.dst=xk 24/\o.op=.recv t f xy/\f=.tmp 23/\Sol.prog.underlying t=xk (.chan d 87)/\Sol.prog.info? 87=xk inf/\inf.zero=xk zF:=
 ⟨_,_,_,_,_,rfl,rfl,rfl,rfl,rfl,rfl,rfl,rfl⟩
def Z3V:∃o,ops9[1]?=xk o/\o.guard=xw/\o.dst=xk 25/\o.op=.extract (.tmp 24) 1:=⟨_,rfl,rfl,rfl,rfl⟩
def Z3W:ops9.size=2:=rfl
def B8:SS:=[(1,.mem [.fz,.fz,.fz,.fz,.fz,.fz,.fz,.fz,.fz,.fz]),(2,.mem [.fz,.fz]),(3,.fz),(5,.own 87),(6,.mem [.own 84]),(7,.mem [.own 85])]
structure AtL (B:Nat) (G:Nat->Prop) (wS:World) (c:Nat) (st:Vw) (hc:List V) (s:St) (a:Act) (w:World):Prop where
 rel:∃T0 w0,RelS G [4,23] T0 cV B G w0 82 s a w B8
 same:Same G wS w
 ch:a.tmps[23]?=xk (.chan (xk c))
 s1:get s 1=.m hc
 s6:get s 6=.v (.sl (st.ns.map Xb))
 s7:get s 7=.m [Ya vi st.nm]
 s8:get s 8=.m [Ya vu st.tm]
theorem AtL.put{B:Nat}{G:Z6}{wS:Z3}{c:Nat}{st:Vw}{hc:Zp}{s:St}{a:Act}{w:Z3}(h:AtL B G wS c st hc s a w){v:Z7}{x:V}{b:Bool}(r:Rd wS G x v):
  ∃g d T0 w0,g=(a.put (xk 24) (.tuple #[v,.bool b])).put (xk 25) (.bool b)/\RelS G [4,23] T0 cV B G w0 82 d g w B6/\g.tmps[23]?=xk (.chan (xk c))/\get d 1=.m hc/\get d 6=.v (.sl (st.ns.map Xb))/\get d 7=.m [Ya vi st.nm]/\get d 8=.m [Ya vu st.tm]/\get d 12=.v (.tup [x,.bool b])/\get d 10=.v (.bool b):=by
 obtain⟨T0,w0,p⟩:=h.rel;have j:Rd w G (.tup [x,.bool b]) (.tuple #[v,.bool b]):=by
  refine .tup _ _ rfl λi c f=> ?_
  match i,f with
  |0,f=>cases f;exact r.keep h.same λ_ q=>q
  |1,f=>cases f;exact .bool _
 have o:=p.put (t:=24) rfl ZbW Z0 j;have n:=o.put (t:=25) (v:=.bool b) (x:=.bool b) rfl ZbW Z0 (.bool _);have k:cV.ix 24=12:=ZbW;have l:cV.ix 25=10:=ZbW;rw[k,l]at n;refine⟨_,_,_,_,rfl,n.weak (R:=B6) Z2,?_,?_,?_,?_,?_,?_,?_⟩;rw[Wp Z0,Wp Z0];exact h.ch;all_goals simp[YT,h.s1,h.s6,h.s7,h.s8]
def Z5e{B:Nat}{G:Z6}{wS:Z3}{c:Nat}{hc:Zp}{k:Zi}{b:Ze}{Post:Za}(fin:Vw)
  (K:Rd wS G (Xb ⟨⟨0,0,0,xh,0⟩,0,[]⟩) zF)
  (a0:∀s a w T0 w0,RelS G [4,23] T0 cV B G w0 82 s a w B7->get s 1=.m hc->get s 6=.v (.sl (fin.ns.map Xb))->get s 7=.m [Ya vi fin.nm]->get s 8=.m [Ya vu fin.tm]->LS Sol.prog c Post [] (b.at a k) [] w):
  ∀(p:List (Fo×Value)) (st:Vw),(∀y∈p,Rd wS G (Xb y.1) y.2)->xq st.ns+xq p<=4000000->(p.map (·.1)).foldl Vw.put st=fin->∀s a w,AtL B G wS c st hc s a w->
   LS Sol.prog c Post (p.map (λy=>.recv y.2)++[.closed zF]) (b.at a (.code bodyC:: .inLoop bodyC:: .inBlock 0::k)) [] w:=by
 obtain⟨t,U,d,inf,o,o1,o2,o3,o4,D,o6,o7,o8⟩:=Z3U;obtain⟨o',p1,p2,p3,p4⟩:=Z3V;have ext:∀(a:Act) (w:Z3) (v:Z7) (b:Bool),a.tmps[24]?=xk (.tuple #[v,.bool b])->(execOp a.eval o').run Sol.prog w=.ok (.value (.bool b)) w:=λa w v b h=>by
  have he:a.eval (.tmp 24)=.tuple #[v,.bool b]:=Act.eval_tmp a 24 _ h;unfold execOp;simp only[p4,he];rfl
 have enter:∀ {F:ZbS} {e:Ev} {v:Z7} {fl:Bool} {s:St} {st:Vw} {a:Act} {w:Z3},e.val=.tuple #[v,.bool fl]->((∃v,e=.recv v)\/e=.closed zF)->AtL B G wS c st hc s a w->
   LS Sol.prog c Post F (b.at ((a.put (xk 24) (.tuple #[v,.bool fl])).put (xk 25) (.bool fl)) (.code (Yk ofC [1,1,1,1,1,1,1,0,1,0,0,1]):: .inLoop bodyC:: .inBlock 0::k)) [] w->
   LS Sol.prog c Post (e::F) (b.at a (.code bodyC:: .inLoop bodyC:: .inBlock 0::k)) [] w:=λ{F e v fl s st a w} J I f hk=>by
  obtain⟨T0,w0,C⟩:=f.rel;have a1:a.tmps.size=82:=C.2.2.2.1;rw[show(Item.code bodyC)=.code (.seq (.region 9 ops9 xh) (Yk ofC [1,1,1,1,1,1,1,0,1,0,0,1]))by rfl];refine LS.two (LS.region ?_);rw[Z3W,show List.range 2=[0,1]from rfl];refine LS.event (i:=0) o1 (by simp[Region.wanted,o2]) ?_ ?_;obtain⟨v,rfl⟩|rfl:=I;exact⟨t,U,d,_,inf,zF,o4,by rw[D];rfl,by rw[D];exact Act.eval_tmp a 23 _ f.ch,o6,o7,o8,λz' e=>by cases e⟩;exact⟨t,U,d,_,inf,zF,o4,by rw[D];rfl,by rw[D];exact Act.eval_tmp a 23 _ f.ch,o6,o7,o8,λz' e=>ZbT⟩;rw[o3,J];refine LS.value (i:=1) p1 (by simp[Region.wanted,p2]) (ext _ w v fl (SW Z0)) ?_;simp_all[LS.regEnd]
 intro p;induction p with
 |nil=>
  intro st r hn n s a w f;refine enter (v:=zF) (fl:=xh) rfl (.inr rfl) f ?_;obtain⟨a2,s2,T0,w0,rfl,C,A,W,Y,Z,h8,u,q⟩:=f.put (b:=xh) K;refine LS.wp (zu Im C (Z50 (N:=λ_=>False) (R:=λ_=>False) (X:=λid g=>id=0/\g=s2) q ⟨rfl,rfl⟩)) λe T w' j=> ?_;cases e with
  |normal=>obtain⟨_,_,_,h,_⟩:=j;grind
  |exit id=>
   obtain⟨g,Q,hx,⟨rfl,rfl⟩,l⟩:=j;have H:Q=B7:=by simpa using hx
   subst H;refine⟨k,rfl,?_⟩;grind
  |ret=>obtain⟨_,_,_,h,_⟩:=j;grind
  |_=>exact j.elim
 |cons y p ih=>
  intro st r hn n s a w f;simp only[Zec]at hn;refine enter (v:=y.2) (fl:=xy) rfl (.inl ⟨_,rfl⟩) f ?_;obtain⟨a2,s2,T0,w0,rfl,C,A,W,Y,Z,h8,u,q⟩:=f.put (b:=xy) (r y Z1);refine LS.wp (zu Im C.base (Z51 (X:=λ_ _=>False) (R:=λ_=>False) (N:=λg=>get g 6=.v (.sl ((st.put y.1).ns.map Xb))/\get g 7=.m [Ya vi (st.put y.1).nm]/\get g 8=.m [Ya vu (st.put y.1).tm]/\get g 1=.m hc) Y Z h8 u q Z0 λg M O P L _ _=>⟨M,O,P,L.trans W⟩)) λe T w' j=> ?_;cases e with
  |normal=>
   obtain⟨g,Q,H,⟨M,O,P,L⟩,l⟩:=j;cases H;refine LS.inLoop (ih (st.put y.1) (λz K=>r z (by simp[K])) ?_ n g T w' ⟨⟨_,_,l.weak (R:=B8) Z2⟩,f.same.trans l.2.2.1.same,?_,L,M,O,P⟩);grind [Vw.put];rw[l.2.2.1.fix 23 Z1];exact A
  |exit id=>obtain⟨_,_,_,h,_⟩:=j;grind
  |ret=>obtain⟨_,_,_,h,_⟩:=j;grind
  |_=>exact j.elim
def Cn(b:Ze)(D:World->Nat->Prop)(r:V)(fr:Ze)(cs:Z5)(w:Z3):Prop:=
 cs=[]/\∃(a:Act) (d:Zi),fr= {b.at a d with mode:=.returning}/\a.defers=[]/\∃v,(results Try.f15 a.tmps).run Sol.prog w=.ok v w/\Rd w (D w) r v
def Ce{code:Code}{S:SS}{st:Stm}{o:SS}{B:Nat}{G Kf:Z6}{s:St}{a:Act}{w w0:Z3}{T0:Z9}{N:St->Prop}{c:Nat}{d:Za}{es:ZbS}{b:Ze}{k:Zi}(hc:comp (vf Sol.prog) code S=xk (st,⟨xk o,[],[]⟩))(u:RelS Kf [4,23] T0 cV B G w0 82 s a w S)
  (y:Yj Sol.prog st s N (λ_ _=>False) (λ_=>False)) (r:∀l g n,N l->RelS Kf [4,23] T0 cV B G w0 82 l g n o->LS Sol.prog c d es (b.at g k) [] n):LS Sol.prog c d es (b.at a (.code code::k)) [] w:=
 LS.wp (zu hc u y) λe g n f=>by
  cases e with
  |normal=>obtain⟨l,z,q,p,j⟩:=f;cases q;exact r _ _ _ p j
  |exit id=>obtain⟨_,_,_,h,_⟩:=f;grind
  |ret=>obtain⟨_,_,_,h,_⟩:=f;grind
  |_=>exact f.elim
def Z3S:∃o,ops8[0]?=xk o/\o.guard=xw/\o.dst=xk 23/\o.op=.move (.tmp 4):=⟨_,rfl,rfl,rfl,rfl⟩
def Z3T:ops8.size=1:=rfl
def Z3H{B:Nat}{G:Z6}{c:Nat}{b:Ze}{s:St}{a:Act}{w w0:Z3}{T0:Z9}{T U W y sc Y Z x7 x8:V}{d:Zf}{fs:List (Fo×Value)}{fin:Vw}(L:RelS G [4,23] T0 cV B G w0 82 s a w Ki)(J:a.tmps[4]?=xk (.chan (xk c)))(F:get s 1=.m [T,U,W,y,sc,Y,Z,x7,x8,.sl (d.map vu)])
  (K:∀y∈fs,Rd w G (Xb y.1) y.2) (hn:xq fs<=4000000) (u:(fs.map (·.1)).foldl Vw.put ⟨[],[],[]⟩=fin) (hs:fin.sm d):
  LS Sol.prog c (Cn b (λw' x=>G x\/(B<=x/\x<xz (xj w'))) (WO (fin.gr d))) (fs.map (λy=>.recv y.2)++[.closed zF]) (b.at a [.code (Yk ofC [1,1,1,1])]) [] w:=by
 rw[Z5x];refine LS.two (Ce r5c L.base (N:=λj=>get j 6=.v (.sl [])/\get j 1=get s 1) (by simp[r5,YT]) λs1 a1 w1 ⟨q6,q1⟩ l=> ?_);refine LS.two (Ce r6c l.base (N:=λj=>get j 7=.m [Ya vi []]/\get j 6=.v (.sl [])/\get j 1=get s 1) (by simp[r6,YT,q6,q1];rfl) λs2 a2 w2 ⟨t7,t6,t1⟩ n=> ?_);refine LS.two (Ce r7c n.base (N:=λj=>get j 8=.m [Ya vu []]/\get j 7=.m [Ya vi []]/\get j 6=.v (.sl [])/\get j 1=get s 1) (by simp[r7,YT,t7,t6,t1];rfl) λs3 C w3 ⟨u8,u7,u6,u1⟩ k=> ?_);have q:C.tmps[4]?=xk (.chan (xk c)):=by
  rw[k.2.2.1.fix 4 Z1,n.2.2.1.fix 4 Z1,l.2.2.1.fix 4 Z1];exact J
 have p:Same G w w3:=(l.2.2.1.same.trans n.2.2.1.same).trans k.2.2.1.same;refine LS.two (LS.two ?_);rw[Z4Y];refine LS.region ?_;rw[Z3T,show List.range 1=[0]from rfl];obtain⟨o,o1,o2,o3,o4⟩:=Z3S;have a0:C.eval (.tmp 4)=.chan (xk c):=Act.eval_tmp C 4 _ q;refine LS.value (v:=.chan (xk c)) (w':=w3) o1 (by simp[Region.wanted,o2]) (by simp_all[execOp]) (LS.regEnd ?_);rw[o3];have O:=k.set (t:=23) (v:=.chan (xk c)) rfl;have a4:C.tmps.size=82:=k.2.2.2.1;refine LS.block (LS.steps (.one step_loop) ?_);refine Z5e (hc:=[T,U,W,y,sc,Y,Z,x7,x8,.sl (d.map vu)]) fin (wS:=w) (B:=B) (G:=G) ?_ ?_ fs ⟨[],[],[]⟩ K ZbT u s3 _ w3 ⟨⟨_,_,O.weak (R:=B8) Z2⟩,p,SW Z0,u1.trans F,u6,u7,u8⟩;refine .agg _ _ rfl Z1 λi x g=> ?_
 match i,g with
 |0,g=>cases g;exact .int _ _
 |1,g=>cases g;exact .int _ _
 |2,g=>cases g;exact .int _ _
 |3,g=>cases g;exact .bool _
 |4,g=>cases g;exact .int _ _
 |5,g=>cases g;exact .int _ _
 |6,g=>cases g;exact .nil _ _ (ZdZ _)
 intro s5 a5 w5 T5 a6 P v1 v6 v7 v8;refine LS.wp (zu rCc ((P.weak (R:=Il) Z2).base) (Z4Z (N:=λ_=>False) (X:=λ_ _=>False) (R:=λj=>XX j [(2,.ag 2),(3,.v)]=xk (WO (fin.gr d))) hs v1 v6 v7 v8 λj h=>h)) λe a' w' H=> ?_;cases e with
 |normal=>obtain⟨_,_,_,h,_⟩:=H;grind
 |exit id=>obtain⟨_,_,_,h,_⟩:=H;grind
 |ret=>
  obtain⟨j,S',I,hR,M⟩:=H;have I:S'=B5:=by simpa using I
  subst I;obtain⟨⟨h,k1,k2⟩,k3,k4,k5,k6⟩:=M;intro A
  obtain⟨v,hv,Q⟩:=Kq (c:=cV) (f:=Try.f15) (D:=λx=>G x\/(B<=x/\x<xz (xj w'))) k1 k3 (λx z=>by
   obtain F|F:=k1.ok.f_or x z;grind;exact .inr ⟨F,k1.ok.f_lt x z⟩) (λr L=>⟨ZcW.1 (Z2:(Try.f15.results.toList.all (Sx Sol.prog B5))=xy) r L,λi x z=>.inr ⟨(k1.ok.b_lt _ _ x z).1,(k1.ok.b_lt _ _ x z).2.1⟩⟩) (x:=WO (fin.gr d)) (by rw[<-hR];rfl)
  exact LS.now ⟨rfl,a',A,rfl,k6,v,hv,Q⟩
 |_=>exact H.elim
end
section
def x5:∃o d,clOps[1]?=xk o/\o.guard=xw/\o.dst=xw/\o.op=.call ⟨.builtin .close, #[.tmp 70],d⟩:=⟨_,_,rfl,rfl,rfl,rfl⟩
section
variable {b:Ze}{a:Act}{c:Nat}{w:Z3}
def Z00{cs:Z5}(t:b.fn=42)(x:b.kind≠.early)(q:a.tmps[70]?=xk (.chan (xk c))){s r:Nat}{f:Bool}(hc:w.heap[c]?=xk (.chan 0 #[] xh s r f)):
  stepG Try.prog xh (G (b.at a [.inRegion clOps [1]]) cs) w=.go (G (b.at a [.inRegion clOps []]) cs) (Wq w c (.chan 0 #[] xy s r f)) #[⟨.obj c,xh,xy⟩,⟨.obj c,xy,xy⟩]:=by
 obtain⟨o,d,l,g,n,p⟩:=x5;have h:a.eval (.tmp 70)=.chan (xk c):=Act.eval_tmp a 70 _ q;have j:execOp a.eval o=(do pure (.value (<-Builtin.close_ d o.type #[.chan (xk c)])):Sem Next):=by
  unfold execOp;simp only[p];simp[resolve,builtin,h];rfl
 have y:(execOp a.eval o).run Try.prog w=.ok (.value (.tuple #[])) (Wq w c (.chan 0 #[] xy s r f)):=by
  rw[j];simp only[Zdp,run_close_open d o.type hc,Zdj];rfl
 have u:(execOp a.eval o).events Try.prog w #[]=#[⟨.obj c,xh,xy⟩,⟨.obj c,xy,xy⟩]:=by
  rw[j];have g:(Builtin.close_ d o.type #[.chan (xk c)]).runT Try.prog w #[]=(.ok (.tuple #[]) (Wq w c (.chan 0 #[] xy s r f)), #[⟨.obj c,xh,xy⟩,⟨.obj c,xy,xy⟩]):=by
   refine Zf7 ?_ (events_close_open d o.type hc);rw[ZeK];exact run_close_open d o.type hc
  show((Sem.bind _ _).runT Try.prog w #[]).2=_;rw[ZeR,g];rfl
 rw[stepG_value l (by simp[Region.wanted,g]) x y];have k:a.put o.dst (.tuple #[])=a:=by rw[n];rfl
 rw[k];unfold listed;rw[u,seen_eq (by rw[t,Try.func42];rfl) Z1]
noncomputable def bornF:Frame:= {(default:Ze)with fn:=Try.prog.funcs.size,defers:=[],mode:=.panicking [goexitEntry]}
def Z6c(d:b= {base 42 with kind:=.deferred})(f:a.defers=[]):QuitsIn Try.prog 4 (G (b.at a [.inRegion clOps []]) [bornF]):=by
 subst d;refine .ctl (g':=G (({base 42 with kind:=.deferred}:Frame).at a []) [bornF]) rfl (λw=>ZcG) ?_;refine .ctl (g':=G {(({base 42 with kind:=.deferred}:Frame).at a [])with mode:=.returning} [bornF]) rfl (λw=>ZcG) ?_;refine .ctl (g':=G bornF []) rfl (λw=> ?_) ?_;have g:=Try.func42;simp[G,stepG,unwind,Frame.at,f,base,g,results,Try.results42,doReturn,bornF,goexitEntry];rfl;refine .ctl (g':= {(G bornF [])with status:=.finished}) rfl (λw=> ?_) rfl;rfl
end
def zl(l:Zf):NoM (.sl (l.map vu)):=.sl _ λc d=>by
 have:flat (l.map vu)=l.map vu:=VK λx f=>by obtain⟨y,_,rfl⟩:=Zd1.1 f;rfl
 rw[this]at d;obtain⟨y,_,rfl⟩:=Zd1.1 d;exact .int _ _
def Z0s{n:Nat}{v:Z7}(h:FixV n v)(g m:Nat):FixV n (SI v g m):=by
 intro ρ f;have d:=h ρ f;unfold SI;split;rename_i b o q k c;simp only[Zt,Zd4,ZO,Value.slice.injEq,ZcL,Addr.mk.injEq,and_true]at d;grind [Zt,ZO];exact d
def E9{n:Nat}{h:Hp}{x:Zh}{p:Nat}(hx:FixV n (x p))(o:Ob):FixV n (U0 h x p o):=by
 intro ρ d;have:=Z0s hx (o.at_+1).toNat o.size.toNat ρ d;simp_all[U0,Wm,XK,VR]
def qV{h:Hp}{x:Zh}{v:Z7}:∀ {n p:Nat},v∈Wb h x n p->∃q o,q<p+n/\v=U0 h x q o
 |0,p,d=>by simp[Wb]at d
 |n+1,p,d=>by
  simp only[Wb,Zdd,Zd1]at d;obtain⟨o,_,rfl⟩|d:=d;exact⟨p,o,Z0,rfl⟩;obtain⟨q,o,g,f⟩:=qV d;exact⟨q,o,Z0,f⟩
def bD:Frame:= {base 42 with kind:=.deferred}
def qD(args:Z9):Frame.enter Try.prog 42 args .deferred=bD.at {tmps:=args++Array.replicate (71-args.size) undef,defers:=[]} [.code seC]:=by
 rfl
def M2:YQ Sol.prog xh seC=xy:=Z2
def Oy:Sol.prog.funcs[Try.prog.funcs.size]?=xw:=by
 grind [Array.getElem?_eq_none,Sol.prog,WB]
def x3{c n0:Nat}{h:Hp}{x:Zh}{K:Z6}{w:Z3}(hh:h.ok)(Z:xz (xj w)<=n0)(hc:c<n0)(hK:∀b,K b->∃cs e fr,w.heap[b]?=xk (.cells cs e fr))(N:∀b o,w.heap[b]?=xk o->K b->J2 n0 o)
  (hx:∀j,j<5->FixV n0 (x j)) (hr:∀j,j<5->Rd w K (.sl ((Zv h j).map vu)) (x j))
  (a0:∀p,p<4->P (obP h p)<=1000000/\∀o∈obP h p,0<=o.at_/\0<=o.size/\o.at_+1+o.size<=P (Zv h p)):
  Play Try.prog xh c K (Ue Try.prog c) ((Wb h x 4 0).map .send) (λ_=>False) (born Try.prog {target:=.fn (.func 42) #[],args:=#[ZZ h x,.chan (xk c)]}) w:=by
 have a4:∀b,K b->b<xz (xj w):=λb l=>ZbT;have C:∀w1:Z3,stepG Try.prog xh (born Try.prog {target:=.fn (.func 42) #[],args:=#[ZZ h x,.chan (xk c)]}) w1=.go (G (Frame.enter Try.prog 42 #[ZZ h x,.chan (xk c)] .deferred) [bornF]) w1 #[]:=λw1=>by
  rfl
 refine .step (λw1 H=>⟨_,_,_,_,C w1,ZcR _,ZcR _,rfl,rfl,λ_ _ _=>rfl,λe T=>by simp at T⟩) λw1 g' w' a2 H e=> ?_;have e:=(C w1).symm.trans e;injection e with J L e3;subst J L;have B:(WQ (λ_=>False) w1 w1:Z6)=λ_=>False:=funext λb=>propext ⟨λl=>by obtain l|l:=l;exact l;omega,λl=>l.elim⟩;rw[B];refine Play.rely ?_ H;let X:Cx:=To Try.prog Sol.prog n0 K (λ_=>False);have Q:X.P=Try.prog:=Sol.sub.P n0 K (λ_=>False);have n:∀v∈ #[ZZ h x,.chan (xk c)],FixV n0 v:=λv hv=>by
  have:v=ZZ h x\/v=.chan (xk c):=by simpa using hv
  obtain rfl|rfl:=this;intro ρ k;unfold ZZ;rw[Wm];simp[XK,VR,hx 0 Z0 ρ k,hx 1 Z0 ρ k,hx 2 Z0 ρ k,hx 3 Z0 ρ k,hx 4 Z0 ρ k];intro ρ k;simp[Zt,k c hc]
 have z:∀ρ,Zw ρ bornF=bornF:=λρ=>by
  simp[Zw,bornF,XW,SD,goexitEntry,TS];exact⟨by show Array.map (Zt ρ) #[]=#[];simp,rfl,rfl⟩
 have hw:=Cb X (Sol.sub.ok n0 K (λ_=>False)) (c:=c) (es:=(Wb h x 4 0).map .send) (fr:=Frame.enter Try.prog 42 #[ZZ h x,.chan (xk c)] .deferred) (cs:=[bornF]) (ds:=[]) (main:=xh) (wc:=w)
  (λe T=>by
   obtain⟨v,hv,rfl⟩:=Zd1.1 T;obtain⟨q,o,hq,rfl⟩:=qV hv;exact⟨E9 (hx q Z0) o,hc⟩)
  (λρ=>by
   rw[qD];refine⟨⟨λi Y=> ?_,λd A=>by simp[Frame.at]at A,.inr rfl,.inl ⟨_,seC,Sol.func42,Try.func42,M1,M2⟩⟩,λf U=> ?_,rfl⟩;have:i=.code seC:=by simpa[Frame.at]using Y
   subst this;exact M2;have:f=bornF:=by simpa using U
   subst this;exact⟨λi Y=>(by cases Y),λd A=>(by cases A),.inl rfl,.inr (.inl ⟨Oy,Zf3 (ZcR _)⟩)⟩)
  (λf U=>by
   have:f=Frame.enter Try.prog 42 #[ZZ h x,.chan (xk c)] .deferred\/f=bornF:=by simpa using U
   obtain rfl|rfl:=this;rw[qD];intro ρ k;have J:(#[ZZ h x,.chan (xk c)]++Array.replicate (71- (#[ZZ h x,.chan (xk c)]:Array Value).size) undef).map (Zt ρ)=#[ZZ h x,.chan (xk c)]++Array.replicate (71- (#[ZZ h x,.chan (xk c)]:Array Value).size) undef:=by
    rw[ZeF,Sj n ρ k];simp[TS]
   simp_all[Zw,Frame.at,Yw,XW,bD,base];exactλρ _=>z ρ)
  (λb o ho y=>by
   obtain y|y:=y;exact y.elim;exact N b o ho y)
  (Post:=λwl=>Cm c bD [bornF])
  (λt=>by
   rw[qD]
   exact Z6b bD [bornF] (X.mask w t) h hh x c K (λb l=>by grind [Cx.mask,To,Nat.lt_of_lt_of_le])
    (λj hj=>Ir (X:=X) (λb h=>h) (λb c e fr B hc=>B) Z (hr j hj) (zl _)) a0)
 have hw:Play Try.prog xh c K _ ((Wb h x 4 0).map .send) (λ_=>False) (G (Frame.enter Try.prog 42 #[ZZ h x,.chan (xk c)] .deferred) ([bornF]++[])) w:=Q▸hw;refine hw.mono λO g w' ⟨ρ,t,a3,a1,a5,fc,cc,B,hid,⟨S,a,W,M,A⟩,I⟩=> ?_;subst B S W;have D:fc=Zw ρ (bD.at a [.inRegion clOps [1]]):=I.top;have F:cc=[bornF].map (Zw ρ)++[]:=I.under;have J:fc=bD.at {tmps:=a.tmps.map (Zt ρ),defers:=[]} [.inRegion clOps [1]]:=by
  rw[D];simp[Zw,Frame.at,A,XW,Yw,bD,base]
 have L:cc=[bornF]:=by rw[F];simp[z]
 rw[J,L];have u:(a.tmps.map (Zt ρ))[70]?=xk (.chan (xk c)):=by
  rw[Zdl,M];simp[Zt,hid c hc]
 refine⟨rfl,?_,_,4,λs r tm R=>Z00 rfl (by simp[bD]) u R,Z6c rfl rfl⟩;rfl
end
inductive NoZ:V->Prop where
 |int (k:Zl) (n:Int):NoZ (.int k n)
 |bool (b:Bool):NoZ (.bool b)
 |sl (l:Zp):(∀y∈l,y.cells≠[])->(∀c∈flat l,NoZ c)->NoZ (.sl l)
 |agg (l:Zp):(∀c∈l,NoZ c)->NoZ (.agg l)
 |tup (l:Zp):(∀c∈l,NoZ c)->NoZ (.tup l)
def NoZ.m{x:V}(h:NoZ x):NoM x:=by
 induction h with
 |int k n=>exact .int k n
 |bool b=>exact .bool b
 |sl l _ _ a=>exact .sl l a
 |agg l _ a=>exact .agg l a
 |tup l _ a=>exact .tup l a
def Z56{w:Z3}{D:Z6}{x:V}{v:Z7}(h:Rd w D x v)(d:NoZ x):Rd w (λb=>D b/\b<U (R w)) x v:=by
 induction h with
 |int k n=>exact .int k n
 |bool b=>exact .bool b
 |nil a cap A=>exact .nil a cap A
 |sl l b o cap k vs g p z r t C j=>
  cases d with
  |sl _ B d=>
   obtain _|⟨y,l⟩:=l;exact .nil _ cap p;have F:0<k:=by
    rw[<-(r y Z1).1];exact Zg2.2 (B y Z1)
   have q:=qv (t 0 ZbU);exact .sl _ b o cap k vs g p ⟨z,q⟩ r t λi c f=>j i c f (d c (Jt f))
 |agg u vs g p _ j=>
  cases d with
  |agg _ d=>exact .agg u vs g p λi c f=>j i c f (d c (ZcT f))
 |tup l vs g _ j=>
  cases d with
  |tup _ d=>exact .tup l vs g λi c f=>j i c f (d c (ZcT f))
 |_=>cases d
def Z58{w:Z3}{D:Z6}{x:V}{v:Z7}(h:Rd w D x v)(d:NoZ x):Rd w (λb=>D b/\∃q e r,w.heap[b]?=xk (.cells q e r)) x v:=by
 induction h with
 |int k n=>exact .int k n
 |bool b=>exact .bool b
 |nil a cap B=>exact .nil a cap B
 |sl l b o cap k vs g p z t u F j=>
  cases d with
  |sl _ C d=>
   obtain _|⟨y,l⟩:=l;exact .nil _ cap p;have G:0<k:=by
    rw[<-(t y Z1).1];exact Zg2.2 (C y Z1)
   obtain⟨_,c,e,r,A,_⟩:=Je (u 0 ZbU);exact .sl _ b o cap k vs g p ⟨z,c,e,r,A⟩ t u λi c f=>j i c f (d c (Jt f))
 |agg q vs g p _ j=>
  cases d with
  |agg _ d=>exact .agg q vs g p λi c f=>j i c f (d c (ZcT f))
 |tup l vs g _ j=>
  cases d with
  |tup _ d=>exact .tup l vs g λi c f=>j i c f (d c (ZcT f))
 |_=>cases d
def Gk(l:Zf):NoZ (.sl (l.map vu)):=.sl _ (λy f=>by obtain⟨z,_,rfl⟩:=Zd1.1 f;simp) λc a=>by
 rw[VK λx d=>Zcz]at a;obtain⟨y,_,rfl⟩:=Zd1.1 a;exact .int _ _
def Gj(l:Zf):NoZ (.sl (l.map vi)):=.sl _ (λy f=>by obtain⟨z,_,rfl⟩:=Zd1.1 f;simp) λc a=>by
 rw[VK λx d=>Zcz]at a;obtain⟨y,_,rfl⟩:=Zd1.1 a;exact .int _ _
def Gi(g:Gr):NoZ (Yd g):=.agg _ λc a=>by
 have:c=.sl (g.nodes.map Yf)\/c=.sl (g.roots.map vi):=by simpa using a
 obtain rfl|rfl:=this;refine .sl _ (λy d=>by obtain⟨z,_,rfl⟩:=Zd1.1 d;simp) λc a=> ?_;obtain⟨y,d,a⟩:=ZeH.1 a;obtain⟨n,_,rfl⟩:=Zd1.1 d;have:c=.sl (n.ptrs.map vi)\/c=.sl (n.data.map vu):=by simpa using a
 obtain rfl|rfl:=this;exact Gj _;exact Gk _;exact Gj _
def Gh(g:Gr):NoZ (WO g):=by
 unfold WO;split;all_goals
  refine .tup _ λc a=> ?_;simp only[Zd6,ZdS,Zf8]at a;obtain rfl|rfl:=a;exact Gi _;exact .int _ _
def Sv(h:Hp):NoM (ZL h):=.agg _ λc a=>by
 simp only[Zd6,ZdS,Zf8]at a;obtain rfl|rfl|rfl|rfl|rfl|rfl|rfl|rfl|rfl|rfl:=a;all_goals first|exact .int _ _|exact .bool _|exact zl _
noncomputable def ops4:Array Oper:=K0 (Yk ofC [1,1,1,0])
def Z3R:(ops4.all λo=>XL Sol.prog xh o.op)=xy:=Z2
def Z5y:YQ Sol.prog xh (Yk ofC [1,1,1,1])=xy:=Z2
def Z3G:Sol.prog.funcs[15]?=xk (Iv Try.f15):=by
 have:=Try.func15;simp only[Sol.prog,WB,ZfI,this,Zd4];rfl
def FQ{X:Cx}{w:Z3}{t:Nat->Question->Nat}{b:Nat}{cs:Z9}{T:Z8}(h:w.heap[b]?=xk (.cells cs T (0,0)))(a:X.O b)(d:b<X.n0):(X.mask w t).heap[b]?=xk (.cells cs T (0,0)):=by
 rw[jQ,if_pos d,h];unfold Cx.maskO;dsimp only;rw[if_pos a,if_pos ⟨trivial,λc e g f=>ZbT⟩]
def Z5u{B g k:Nat}{a:Act}{A C:Z8}{K:Z6}{h:Hp}{x:Zh}{l:Z3}
  (z:a.tmps.size=82) (O:a.defers=[]) (R:a.tmps[1]?=xk (.pointer (xk ⟨g,0,xw⟩))) (S:a.tmps[2]?=xk (.pointer (xk ⟨k,0,xw⟩))) (T:a.tmps[3]?=xk (.int .i64 0))
  (n:l.heap[g]?=xk (.cells #[.int .u64 h.base,.int .i64 h.cap,.int .i64 h.to,.bool h.cycle,.int .i64 h.scan,x 0,x 1,x 2,x 3,x 4] A (0,0))) (o:l.heap[k]?=xk (.cells #[.slice xw 0 0,.slice xw 0 0] C (0,0)))
  (L:B<=g) (M:B<=k) (J:g≠k) (k1:¬K g) (Z:¬K k) (D:∀b,K b->b<xz (xj l)) (r:∀j,j<5->Rd l K (.sl ((Zv h j).map vu)) (x j)):
  RelS K [4,23] a.tmps cV B K l 82 [.no,.m [vu h.base,vi h.cap,vi h.to,.bool h.cycle,vi h.scan,.sl (h.low.map vu),.sl (h.high.map vu),.sl (h.old.map vu),.sl (h.far.map vu),.sl (h.roots.map vu)],.m [.sl [],.sl []],.v (vi 0)] a l Ki:=by
 have l1:=(ZcS.1 n).1;have l2:=(ZcS.1 o).1;have W:cV.ix 1=1:=ZbW;have X:cV.ix 2=2:=ZbW;have Y:cV.ix 3=3:=ZbW;refine⟨⟨{F:=K,bl:=λt i=>if t=1/\i=0 then xk g else if t=2/\i=0 then xk k else xw,K:=K},⟨⟨Z0,D,λb f=>.inl f,λb f=>f,λt i b f=> ?_,λt i u j b f N=> ?_,D,λt i b f=> ?_,λb f=>.inl f⟩,λt _ Q=> ?_,λt P=> ?_⟩,rfl⟩,λp U=> ?_,.refl _ _,z,O⟩;grind;grind;grind;rw[Yr]at Q⊢;by_cases G:t=1;subst G;refine⟨_,R,g,_,A,rfl,rfl,n,rfl,λi y d=> ?_⟩;have q:i<10:=(ZcN.1 d).1
 match i,q with
 |0,_=>cases d;exact⟨_,ZcG,rfl,.int _ _⟩
 |1,_=>cases d;exact⟨_,ZcG,rfl,.int _ _⟩
 |2,_=>cases d;exact⟨_,ZcG,rfl,.int _ _⟩
 |3,_=>cases d;exact⟨_,ZcG,rfl,.bool _⟩
 |4,_=>cases d;exact⟨_,ZcG,rfl,.int _ _⟩
 |5,_=>cases d;exact⟨_,ZcG,rfl,r 0 Z0⟩
 |6,_=>cases d;exact⟨_,ZcG,rfl,r 1 Z0⟩
 |7,_=>cases d;exact⟨_,ZcG,rfl,r 2 Z0⟩
 |8,_=>cases d;exact⟨_,ZcG,rfl,r 3 Z0⟩
 |9,_=>cases d;exact⟨_,ZcG,rfl,r 4 Z0⟩
 |i+10,h=>omega
 by_cases H:t=2;subst H;refine⟨_,S,k,_,C,rfl,rfl,o,rfl,λi y d=> ?_⟩;have w:i<2:=(ZcN.1 d).1
 match i,w with
 |0,_=>cases d;exact⟨_,ZcG,rfl,.nil _ _ (ZdZ _)⟩
 |1,_=>cases d;exact⟨_,ZcG,rfl,.nil _ _ (ZdZ _)⟩
 |i+2,h=>omega
 by_cases I:t=3;subst I;exact⟨_,T,_,ZcG,.int _ _⟩;simp_all[Ki,SS.at,Zf1,TK.isNo];refine absurd ?_ P;rw[Yr];split<;>exact Vo _;grind [Ki,SS.at]
def Ny(cs:Z5)(r:V)(D:Z6)(g:Zj)(w:Z3):Prop:=
 ∃a,g=G a cs/\a.fn=15/\a.mode=.returning/\a.defers=[]/\a.kind=.normal/\∀d,∃v,(results Try.f15 a.tmps).run Try.prog (w.at d)=.ok v (w.at d)/\Rd (w.at d) (λb=>D b/\b<U (R w)) r v
def Z2L{c n0 B C D:Nat}{a:Act}{T1 T2:Z8}{K:Z6}{h:Hp}{x:Zh}{w:Z3}{cs:Z5}{fs:List (Fo×Value)}{fin:Vw}(hh:h.ok)
  (d9:a.tmps.size=82) (hd:a.defers=[]) (t1:a.tmps[1]?=xk (.pointer (xk ⟨C,0,xw⟩))) (t2:a.tmps[2]?=xk (.pointer (xk ⟨D,0,xw⟩))) (t3:a.tmps[3]?=xk (.int .i64 0)) (t4:a.tmps[4]?=xk (.chan (xk c)))
  (N:w.heap[C]?=xk (.cells #[.int .u64 h.base,.int .i64 h.cap,.int .i64 h.to,.bool h.cycle,.int .i64 h.scan,x 0,x 1,x 2,x 3,x 4] T1 (0,0))) (R:w.heap[D]?=xk (.cells #[.slice xw 0 0,.slice xw 0 0] T2 (0,0)))
  (e5:B<=xz (xj w)) (c1:B<=C) (c6:B<=D) (b9:C≠D) (k1:¬K C) (k2:¬K D) (b0:xz (xj w)<=n0) (hc:c<n0)
  (hK:∀b,K b->∃cs e fr,w.heap[b]?=xk (.cells cs e fr)) (a0:∀(b:Nat) (cs:Z9) (e:Z8) (fr:Nat×Nat),w.heap[b]?=xk (Obj.cells cs e fr)->J2 n0 (Obj.cells cs e fr)) (d6:∀v∈a.tmps,FixV n0 v) (hx:∀j,j<5->FixV n0 (x j))
  (hr:∀j,j<5->Rd w K (.sl ((Zv h j).map vu)) (x j)) (a3:∀y∈fs,Rd w K (Xb y.1) y.2/\NoM (Xb y.1)) (d5:fs.map (·.2)=Wb h x 4 0) (hn:P fs<=4000000) (a9:(fs.map (·.1)).foldl Vw.put ⟨[],[],[]⟩=fin) (hs:fin.sm h.roots):
  Play Try.prog xy c K (λ_=>Ny cs (WO (fin.gr h.roots)) (λb=>K b\/B<=b)) ((Wb h x 4 0).map .recv++[.closed zF]) (λb=>b=C\/b=D) (G ((base 15).at a [.inRegion ops4 [],.code (Yk ofC [1,1,1,1])]) cs) w:=by
 have e6:∀b,K b->b<xz (xj w):=λb H=>ZbT;have l1:=(ZcS.1 N).1;have l2:=(ZcS.1 R).1;let X:Cx:=To Try.prog Sol.prog n0 K (λb=>b=C\/b=D);have M:∀ρ,(X.at ρ).P=Try.prog:=λρ=>Sol.sub.same.symm;have e8:∀t,xz (xj (X.mask w t))=n0:=λt=>by simp[Cx.mask,X,To]
 have d0:(Wb h x 4 0).map Ev.recv=fs.map λy=>.recv y.2:=by rw[<-d5,Zfc];rfl
 have a6:∀b,(b=C\/b=D)->¬K b:=λb H=>ZbT
 have hw:=Cb X (Sol.sub.ok n0 K (λb=>b=C\/b=D)) (c:=c) (es:=(Wb h x 4 0).map .recv++[.closed zF]) (fr:=(base 15).at a [.inRegion ops4 [],.code (Yk ofC [1,1,1,1])]) (cs:=[]) (ds:=cs) (main:=xy) (wc:=w)
  (λe I=>by
   obtain I|I:=Zdd.1 I;obtain⟨v,hv,rfl⟩:=Zd1.1 I;obtain⟨q,o,hq,rfl⟩:=qV hv;exact⟨E9 (hx q Z0) o,hc⟩;have:e=.closed zF:=by simpa using I
   subst this;exact⟨λρ _=>by simp_all[zF,Wm,Zt],hc⟩)
  (λρ=>by
   refine⟨⟨λi p=> ?_,λd a2=> ?_,.inl rfl,.inr (.inr ⟨_,_,Z3G,Try.func15,rfl⟩)⟩,λf hf=>by simp at hf,rfl⟩;have:i=.inRegion ops4 []\/i=.code (Yk ofC [1,1,1,1]):=by simpa[Frame.at]using p
   obtain rfl|rfl:=this;exact Z3R;exact Z5y;rw[show((base 15).at a [.inRegion ops4 [],.code (Yk ofC [1,1,1,1])]).defers=a.defers from rfl,hd]at a2;simp at a2)
  (λf hf=>by
   have:f=(base 15).at a [.inRegion ops4 [],.code (Yk ofC [1,1,1,1])]:=by simpa using hf
   subst this;intro ρ hρ;simp only[Zw,Frame.at,Sj d6 ρ hρ,hd];rfl)
  (λb o J hO=>by
   obtain hO|hO:=hO;obtain rfl|rfl:=hO;rw[N]at J;cases J;exact a0 _ _ _ _ N;rw[R]at J;cases J;exact a0 _ _ _ _ R;obtain⟨cs,e,fr,I⟩:=hK b hO;rw[J]at I;cases I;exact a0 _ _ _ _ J)
  (Post:=λwl=>Cn (base 15) (λA b=>K b\/(B<=b/\b<xz (xj A))) (WO (fin.gr h.roots)))
  (λt=>by
   rw[d0];have b3:∀ {y:V} {v:Z7},Rd w K y v->NoM y->Rd (X.mask w t) K y v:=λ{y v} h1 h2=>by
    clear a3;induction h1 with
    |int k n=>exact .int k n
    |bool b=>exact .bool b
    |str s=>exact .str s
    |nil a cap h=>exact .nil a cap h
    |sl l b o cap k vs W q2 H hf a1 _ U=>
     cases h2 with
     |sl _ S=>exact .sl l b o cap k vs W q2 H hf (λi p=>z8 (λJ=>a6 b J H) (λc e fr _=>H) b0 (a1 i p)) λi c p=>U i c p (S c (Jt p))
    |agg cs vs W q2 _ U=>
     cases h2 with
     |agg _ S=>exact .agg cs vs W q2 λi c p=>U i c p (S c (ZcT p))
    |tup l vs W _ U=>
     cases h2 with
     |tup _ S=>exact .tup l vs W λi c p=>U i c p (S c (ZcT p))
    |ptr cs b o vs H W a1 _ U=>
     cases h2 with
     |ptr _ S=>exact .ptr cs b o vs H W (λi p=>z8 (λJ=>a6 b J H) (λc e fr _=>H) b0 (a1 i p)) λi c p=>U i c p (S c (ZcT p))
    |fn f=>exact .fn f
    |clo f cs vs W _ U=>
     cases h2 with
     |clo _ _ S=>exact .clo f cs vs W λi c p=>U i c p (S c (ZcT p))
    |nul0=>exact .nul0
    |nul1=>exact .nul1
    |nomp=>cases h2
    |mp=>cases h2
   refine LS.regEnd (Z3H (G:=K) (B:=B) (Z5u d9 hd t1 t2 t3 (FQ N (.inl rfl) (by show C<n0;omega)) (FQ R (.inr rfl) (by show D<n0;omega)) c1 c6 b9 k1 k2 (λb H=>ZbT) λj hj=>b3 (hr j hj) (zl _)) t4 rfl (λy hy=>b3 (a3 y hy).1 (a3 y hy).2) hn a9 hs))
 have hw:Play Try.prog xy c K _ ((Wb h x 4 0).map .recv++[.closed zF]) (λb=>b=C\/b=D) (G ((base 15).at a [.inRegion ops4 [],.code (Yk ofC [1,1,1,1])]) ([]++cs)) w:=(M id)▸hw;refine hw.mono λO g A ⟨ρ,t,e4,e2,Y,fc,cc,hg,hid,⟨c9,L,b7,d7,a2,v,hv,e0⟩,T⟩=> ?_;subst hg c9 d7;have u:fc=Zw ρ {(base 15).at L b7 with mode:=.returning}:=T.top;have b4:cc=cs:=T.under;subst b4;refine⟨fc,rfl,by rw[u];rfl,by rw[u];rfl,by rw[u];show L.defers.map _=_;grind,by rw[u];rfl,λd=> ?_⟩;have b5:(X.at ρ).WR Y (A.at d):=CH T.wr d;have a4:=FI Try.f15 (L.tmps.map (Zt ρ));have a5:Y7 ((results Try.f15 (L.tmps.map (Zt ρ))).run Try.prog (A.at d))=A.at d:=a4.world _
 have F:=(jn (X:=X.at ρ) (V:=[]) Try.f15 L.tmps).run Y (A.at d) #[] b5 (λr hr=>by simp at hr)
  (λj hj=>by
   rw[M ρ]at hj;have e:(Y7 ((results Try.f15 (L.tmps.map (Zt (X.at ρ).ρ))).run Try.prog (A.at d))).drawn=(A.at d).drawn:=ZdT World.drawn a5;omega)
  (λj hj=>by
   rw[M ρ]at hj;have e:xz (xj (Y7 ((results Try.f15 (L.tmps.map (Zt (X.at ρ).ρ))).run Try.prog (A.at d))))=xz (xj (A.at d)):=ZdT (λw=>xz (xj w)) a5;omega)
 have c0:(results Try.f15 L.tmps).run (X.at ρ).Q Y=.ok v Y:=hv;rw[c0,M ρ]at F;obtain⟨b,b8,e3,I,c7,e7⟩:=F;have Z:(results Try.f15 (L.tmps.map (Zt ρ))).run Try.prog (A.at d)=.ok b b8:=by
  have:=ZdT Prod.fst I;rw[ZeK]at this;exact this
 have e1:b8=A.at d:=by
  have:=a5;rw[Z]at this;exact this
 subst e1;have a7:b=Zt ρ v:=c7;refine⟨b,by rw[u];exact Z,?_⟩;rw[a7];refine(Z56 (Iq b5 e0 (Gh _).m) (Gh _)).mono λb' a8=> ?_;obtain⟨⟨z,hz,rfl⟩,d8⟩:=a8;refine⟨?_,d8⟩;by_cases b6:z<n0;have e:(X.at ρ).ρ z=z:=hid z b6;grind;obtain hz|hz:=hz;grind;right;have:=T.new z (Nat.le_of_not_lt b6) hz.2;omega
def Ym(h:Hp)(p:Nat)(o:Ob):Fo:=⟨o,(ZY (Zu h) ((p:Int)+1) o.at_).1,((Zv h p).drop (o.at_+1).toNat).take o.size.toNat⟩
def Xc(h:Hp):Nat->Nat->List Fo
 |0,_=>[]
 |n+1,p=>(obP h p).map (Ym h p)++Xc h n (p+1)
def UV(h:Hp)(x:Zh):Nat->Nat->List (Fo×Value)
 |0,_=>[]
 |n+1,p=>(obP h p).map (λo=>(Ym h p o,U0 h x p o))++UV h x n (p+1)
def qU(h:Hp)(x:Zh):∀(n p:Nat),(UV h x n p).map (·.1)=Xc h n p
 |0,p=>rfl
 |n+1,p=>by simp_all[UV,Xc,Zeb,Zfc,qU]
def En(h:Hp)(x:Zh):∀(n p:Nat),(UV h x n p).map (·.2)=Wb h x n p
 |0,p=>rfl
 |n+1,p=>by simp_all[UV,Wb,Zeb,Zfc,En]
def Em{h:Hp}{x:Zh}{y:Fo×Value}:∀ {n p:Nat},y∈UV h x n p->∃q o,q<p+n/\o∈obP h q/\y=(Ym h q o,U0 h x q o)
 |0,p,a=>by simp[UV]at a
 |n+1,p,a=>by
  simp only[UV,Zdd,Zd1]at a;obtain⟨o,f,rfl⟩|a:=a;exact⟨p,o,Z0,f,rfl⟩;obtain⟨q,o,g,d⟩:=Em a;exact⟨q,o,Z0,d⟩
def Yi(h:Hp):Vw:=(Xc h 4 0).foldl Vw.put ⟨[],[],[]⟩
def Qz(h:Hp):V:=if XE h=xy then WO ((Yi h).gr h.roots)else .tup [Yd TF,vi 1]
structure OfOk (h:Hp):Prop where
 ob:∀p,p<4->P (obP h p)<=1000000/\∀o∈obP h p,0<=o.at_/\0<=o.size/\o.at_+1+o.size<=P (Zv h p)
 n:P (Xc h 4 0)<=4000000
 sm:(Yi h).sm h.roots
def Z59{w:Z3}{K:Z6}{l:Zf}{v:Z7}(h:Rd w K (.sl (l.map vu)) v){d n:Nat}(p:0<P l)(J:d+n<=P l):Rd w K (.sl (((l.drop d).take n).map vu)) (SI v d n):=by
 generalize j:l.map vu=L at h;have q:P L=P l:=by rw[<-j,Zdz]
 cases h with
 |nil a cap I=>simp_all
 |sl _ b o cap k vs D F r t H u=>
  have z:k=1:=by
   have B:vu (l[0]'p)∈L:=by rw[<-j];exact Zf0 (Zd3 p)
   have:=(t _ B).1;simpa[vu,V.cells]using this.symm
  subst z;unfold SI;dsimp only;have A:P (((l.drop d).take n).map vu)=n:=ZbV;by_cases C:n=0;subst C;simp only[ZgR,Zex];exact .nil _ _ Z0;rw[if_neg Z0]
  have:=Rd.sl (w:=w) (G:=K) (((l.drop d).take n).map vu) b (o+d) (cap-d) 1 (λi=>vs (d+i)) Z0 Z0 r (λx g=>ZbT)
   (λi f=>ZbT)
   (λi c f=>by
    rw[VK λx g=>by obtain⟨y,_,rfl⟩:=Zd1.1 g;rfl,Zdb,Zdq]at f;split at f;rw[Zdo]at f;exact u (d+i) c (by rw[<-j,VK λx g=>by obtain⟨y,_,rfl⟩:=Zd1.1 g;rfl,Zdb];exact f);cases f)
  simp_all
def Z3j(f:Fo):NoM (Xb f):=.agg _ λc a=>by
 simp only[Zd6,ZdS,Zf8]at a;obtain rfl|rfl|rfl|rfl|rfl|rfl|rfl:=a;all_goals first|exact .int _ _|exact .bool _|exact zl _
def Z0D{w:Z3}{K:Z6}{h:Hp}{x:Zh}(d:OfOk h)(g:∀j,j<5->Rd w K (.sl ((Zv h j).map vu)) (x j)):∀y∈UV h x 4 0,Rd w K (Xb y.1) y.2/\NoM (Xb y.1):=by
 intro y k;obtain⟨q,o,r,f,rfl⟩:=Em k;refine⟨?_,Z3j _⟩;obtain⟨l,n,p⟩:=(d.ob q Z0).2 o f;refine .agg _ _ rfl Z1 λi c a=> ?_
 match i,a with
 |0,a=>cases a;exact .int _ _
 |1,a=>cases a;exact .int _ _
 |2,a=>cases a;exact .int _ _
 |3,a=>cases a;exact .bool _
 |4,a=>cases a;exact .int _ _
 |5,a=>cases a;exact .int _ _
 |6,a=>cases a;exact Z59 (g q Z0) Z0 Z0
noncomputable def cB:Ctx:= {P:=Yo Try.prog,ix:=(vf (Yo Try.prog)).ix,own:=λ_=>xh,fresh,sig:=BA,tr:=[3],n:=82}
def Dl{P:Z4}:∀ {c:Code},UP P c=xy->Tl (Lg.fit (Yo P)) c:=by
 intro c;induction c with
 |region id j d=>exactλh o g=>(ZeI.1 h) o g
 |seq x y a f=>intro h;simp only[UP,ZcP]at h;exact⟨a h.1,f h.2⟩
 |cond c x y a f=>intro h;simp only[UP,ZcP]at h;exact⟨a h.1,f h.2⟩
 |block id x a=>exact a
 |loop x a=>exact a
 |scope x a=>exact a
 |_=>intro h;first|trivial|cases h
def Eh:(Yo Try.prog).follows .mixedOrders=xy:=Z2
def Gq{code:Code}{S:SS}{st:Stm}{fl:Flow}{B:Nat}{G Kf:Z6}{s:St}{a:Act}{w w0:Z3}{T0:Z9}{N:St->Prop}{X:Nat->St->Prop}{Rt:St->Prop}(f:UP Try.prog code=xy)(hc:comp (vf (Yo Try.prog)) code S=xk (st,fl))(j:RelS Kf [4,23] T0 cB B G w0 82 s a w S)(k:Yj (Yo Try.prog) st s N X Rt):
  UH Try.prog code (Post Kf [4,23] T0 cB B G w0 82 fl N X Rt) a w:=
 letI:Lg (vf (Yo Try.prog)).P:=besI Try.prog
 qz (fc:=vf (Yo Try.prog)) Eh (λp g q h d=>B0 (Ze8 _ g) (Ze8 _ h) d) rfl rfl rfl (ZcR _) code (Dl f) hc j k
def Z3C:Try.f15.body=xk ofC:=Z2
def Z3D:ofC=.seq (Yk ofC [0]) (.seq (Yk ofC [1,0]) (.seq (Yk ofC [1,1,0]) (.seq (Yk ofC [1,1,1,0]) (Yk ofC [1,1,1,1])))):=Z2
noncomputable def ops3:Array Oper:=K0 (Yk ofC [1,1,0])
def Z4W:Yk ofC [1,1,0]=.region 3 ops3 xh:=Z2
def Z4X:Yk ofC [1,1,1,0]=.region 4 ops4 xh:=Z2
def Z3M:∃o,ops3[0]?=xk o/\o.guard=xw/\o.dst=xk 18/\o.op=.makeChan 81 (.const (.int .i64 0)):=⟨_,rfl,rfl,rfl,rfl⟩
def Z3N:∃o,ops3[1]?=xk o/\o.guard=xw/\o.dst=xk 4/\o.op=.assign (.tmp 18):=⟨_,rfl,rfl,rfl,rfl⟩
def Z3O:∃o,ops4[0]?=xk o/\o.guard=xw/\o.dst=xk 19/\o.op=.load 37 (.tmp 1):=⟨_,rfl,rfl,rfl,rfl⟩
def Z3P:∃o,ops4[1]?=xk o/\o.guard=xw/\o.dst=xk 20/\o.op=.move (.tmp 4):=⟨_,rfl,rfl,rfl,rfl⟩
def Z3Q:∃o a,ops4[2]?=xk o/\o.guard=xw/\o.dst=xw/\o.op=.go ⟨.value (.func 42), #[.tmp 19,.tmp 20],a⟩:=⟨_,_,rfl,rfl,rfl,rfl⟩
def GD:ops3.size=2/\ops4.size=3:=⟨rfl,rfl⟩
def x0:∃d inf,Try.prog.underlying 81=xk (.chan d 87)/\Try.prog.info? 87=xk inf:=⟨_,_,rfl,rfl⟩
def O7{B:Nat}{w w':Z3}(h:Below B w w')(d:Nat):Below B w (w'.at d):=⟨h.os,h.tape,h.output,h.size,h.block⟩
def Z0N{b:Ze}{k:Zi}{cs:Z5}{a:Act}{g:Z7}{c:Nat}(l:b.kind≠.early)(d:a.tmps[19]?=xk g)(f:a.tmps[20]?=xk (.chan (xk c)))(w:Z3):
  stepG Try.prog xy (G (b.at a (.inRegion ops4 [2]::k)) cs) w=.spawn (G (b.at a (.inRegion ops4 []::k)) cs) (born Try.prog {target:=.fn (.func 42) #[],args:=#[g,.chan (xk c)]}) w #[]:=by
 obtain⟨o,j,n,p,q,r⟩:=Z3Q;have t:=Act.eval_tmp a 19 _ d;have u:=Act.eval_tmp a 20 _ f;have h:execOp a.eval o=(pure (.spawn {target:=.fn (.func 42) #[],args:=#[g,.chan (xk c)]}):Sem Next):=by
  unfold execOp;simp only[r];simp[resolve,Deferred.ofValue,Act.eval,d,f]
 have:=stepG_spawn (P:=Try.prog) (main:=xy) (b:=b) (a:=a) (k:=k) (cs:=cs) (w:=w) (i:=2) (rest:=[]) n (by simp[Region.wanted,p]) l (by rw[h];rfl) rfl;rw[q]at this;rw[this];unfold listed;rw[h];rfl
def Z3F{h:Hp}{B:Nat}{G:Z6}{s:St}{a:Act}{w w0:Z3}{T0:Z9}(Q:RelS G [4,23] T0 cB B G w0 82 s a w In)(q1:get s 1=.m [vu h.base,vi h.cap,vi h.to,.bool h.cycle,vi h.scan,.sl (h.low.map vu),.sl (h.high.map vu),.sl (h.old.map vu),.sl (h.far.map vu),.sl (h.roots.map vu)])(q3:get s 3=.v (vi 0)):
  ∃(F:Z6) (k l:Nat) (r t:Z8) (x:Zh),(∀b,F b->G b\/B<=b)/\¬F k/\¬F l/\B<=k/\B<=l/\k≠l/\B<=xz (xj w)/\a.tmps[1]?=xk (.pointer (xk ⟨k,0,xw⟩))/\a.tmps[2]?=xk (.pointer (xk ⟨l,0,xw⟩))/\a.tmps[3]?=xk (.int .i64 0)/\
   w.heap[k]?=xk (.cells #[.int .u64 h.base,.int .i64 h.cap,.int .i64 h.to,.bool h.cycle,.int .i64 h.scan,x 0,x 1,x 2,x 3,x 4] r (0,0))/\w.heap[l]?=xk (.cells #[.slice xw 0 0,.slice xw 0 0] t (0,0))/\
   (∀j,j<5->Rd w F (.sl ((Zv h j).map vu)) (x j)):=by
 obtain⟨⟨u,k1,k2⟩,k3,k4,k5,k6⟩:=Q;have T:cB.ix 1=1:=ZbW;have U:cB.ix 3=3:=ZbW;obtain⟨u1,t1,k,d,r,N,rfl,f3,I⟩:=k1.at_ 1 (by rw[Yr];exact Vo _) ZcG;obtain⟨u2,t2,l,f,t,g1,rfl,g3,J⟩:=k1.at_ 2 (by rw[Yr];exact Vo _) ZcG;obtain⟨u3,t3,A⟩:=k1.at_ 3 (by rw[Yr];exact Vo _) ZcG;obtain⟨y3,o,C⟩:∃y,eval s (.s (cB.ix 3))=xk y/\Rd w (u.ext []) y u3:=A;rw[U]at o;simp only[eval,q3,ZcL]at o;subst o;have K:=TO C;subst K;have R:d.size=10:=I.1;have S:f.size=2:=J.1;have g:∀(i:Nat) (y:V),[vu h.base,vi h.cap,vi h.to,.bool h.cycle,vi h.scan,.sl (h.low.map vu),.sl (h.high.map vu),.sl (h.old.map vu),.sl (h.far.map vu),.sl (h.roots.map vu)][i]?=xk y->Rd w u.F y (d.getD i undef):=λi y n=>by
  have p:i<10:=(ZcN.1 n).1
  have:=I.2 i (.fz,.m (cB.ix 1) i) (by
   match i,p with
   |0,_=>rfl
   |1,_=>rfl
   |2,_=>rfl
   |3,_=>rfl
   |4,_=>rfl
   |5,_=>rfl
   |6,_=>rfl
   |7,_=>rfl
   |8,_=>rfl
   |9,_=>rfl
   |i+10,h=>omega)
  obtain⟨z,H,z2,z3⟩:=this;rw[T]at H;simp only[eval,q1,n,ZcV]at H;obtain⟨rfl,_⟩:=TJ H;exact z3
 have P:∀i,i<2->f.getD i undef=.slice xw 0 0:=λi n=>by
  have:=J.2 i (.nil,.m (cB.ix 2) i) (by
   grind)
  exact this.1
 have L:d=#[.int .u64 h.base,.int .i64 h.cap,.int .i64 h.to,.bool h.cycle,.int .i64 h.scan,d.getD 5 undef,d.getD 6 undef,d.getD 7 undef,d.getD 8 undef,d.getD 9 undef]:=by
  refine Zgi Z0 λi q D=> ?_;have n:i<10:=by simpa using D
  have e:d[i]=d.getD i undef:=by simp[Array.getD,q]
  rw[e]
  match i,n with
  |0,_=>exact TO (g 0 _ rfl)
  |1,_=>exact TO (g 1 _ rfl)
  |2,_=>exact TO (g 2 _ rfl)
  |3,_=>exact Ip (g 3 _ rfl)
  |4,_=>exact TO (g 4 _ rfl)
  |5,_=>rfl
  |6,_=>rfl
  |7,_=>rfl
  |8,_=>rfl
  |9,_=>rfl
  |i+10,h=>omega
 have M:f=#[.slice xw 0 0,.slice xw 0 0]:=by
  refine Zgi Z0 λi q D=> ?_;have n:i<2:=by simpa using D
  have e:f[i]=f.getD i undef:=by simp[Array.getD,q]
  rw[e,P i n]
  match i,n with
  |0,_=>rfl
  |1,_=>rfl
  |i+2,h=>omega
 obtain⟨W,m2,X⟩:=k1.ok.b_lt 1 0 k N;obtain⟨Y,n2,Z⟩:=k1.ok.b_lt 2 0 l g1;refine⟨u.F,k,l,r,t,λj=>d.getD (5+j) undef,k1.ok.f_or,X,Z,W,Y,λe=> ?_,k1.ok.base,t1,t2,t3,ZbT,ZbT,λj O=> ?_⟩;grind
 match j,O with
 |0,_=>exact g 5 _ rfl
 |1,_=>exact g 6 _ rfl
 |2,_=>exact g 7 _ rfl
 |3,_=>exact g 8 _ rfl
 |4,_=>exact g 9 _ rfl
 |j+5,h=>omega
def Cz{h:Hp}(hh:h.ok)(hk:XE h=xy->OfOk h):VC (Yo Try.prog) 15 xh [ZL h] (Qz h):=by
 refine⟨Z2,λw G vs hG g7 g3 q C hK=> ?_⟩;have S:VC (Yo Try.prog) 25 xh [ZL h] (.bool (XE h)):=Fw Sol.sub (Cq hh) (λy hy=>by rw[ZdP.1 hy];exact Sv h) (.bool _);have d5:vs.size=1:=g7;have g9:Rd w G (ZL h) (vs.getD 0 undef):=g3 0 _ rfl;have U:Frame.enter Try.prog 15 vs .normal=(base 15).at {tmps:=vs++Array.replicate (82-vs.size) undef,defers:=[]} [.code ofC]:=by
  rw[enter_at vs Try.func15 Z3C,Try.ntmps15]
 show Walk Try.prog C (Frame.enter Try.prog 15 vs .normal) q w;rw[U,Z3D];clear U;have i0:cB.ix 0=0:=ZbW;generalize Y:({tmps:=vs++Array.replicate (82-vs.size) undef,defers:=[]}:Act)=a0;have t0:a0.tmps[0]?=xk (vs.getD 0 undef):=by
  rw[<-Y];simp only;rw[ZeE Z0];simp[ZcQ,d5]
 have f9:RelS G [4,23] a0.tmps cB (xz (xj w)) G w 82 [.v (ZL h)] a0 w y5:=by
  refine⟨⟨{F:=G,bl:=λ_ _=>xw,K:=G},⟨⟨ZcR _,hG,λb a=>.inl a,λb a=>a,λt i b a=>(by cases a),λt i u j b a=>(by cases a),hG,λt i b a=>(by cases a),λb a=>.inl a⟩,λt _ hk=> ?_,λt hh=> ?_⟩,rfl⟩,λp B=> ?_,.refl _ _,by rw[<-Y];simp[d5],by rw[<-Y]⟩;rw[Yr]at hk⊢;by_cases e:t=0;subst e;exact⟨_,t0,ZL h,by rw[i0];rfl,g9.mono λb a=>.inl a⟩;simp[y5,SS.at,Zf1 e,TK.isNo]at hk;refine absurd ?_ hh;rw[Yr];split<;>exact Vo _;simp only[y5,SS.at]at B;split at B<;>cases B
 refine .two (Gq Z2 r0c f9 (N:=λW=>get W 1=.m [vu h.base,vi h.cap,vi h.to,.bool h.cycle,vi h.scan,.sl (h.low.map vu),.sl (h.high.map vu),.sl (h.old.map vu),.sl (h.far.map vu),.sl (h.roots.map vu)]/\get W 2=.m [.sl [],.sl []]/\get W 3=.v (vi 0)) (X:=λ_ _=>False) (Rt:=λ_=>False) (by simp[r0]) (base 15) _ q C (by simp[base]) λe a1 w1 B=> ?_);cases e with
 |exit id=>obtain⟨_,_,_,h,_⟩:=B;exact h.elim
 |ret=>obtain⟨_,_,_,h,_⟩:=B;exact h.elim
 |normal=>
  obtain⟨s1,S1,f4,⟨q1,q2,q3⟩,c9⟩:=B;cases f4;have b4:Below (xz (xj w)) w w1:=c9.2.2.1.below;refine .two (Gq Z2 rXc c9.base (N:=λW=>XE h=xy/\get W 1=get s1 1/\get W 3=get s1 3) (X:=λ_ _=>False) (Rt:=λW=>XE h=xh/\XX W [(2,.ag 2),(3,.v)]=xk (.tup [Yd TF,vi 1])) ?_ (base 15) _ q C (by simp[base]) λe a2 w2 B=> ?_);simp[rX,q1];refine Zy S Z1 ?_;cases i2:XE h;simp[YT,XX,Vv,UB,TF,Yd];simp[YT,q1];cases e with
  |exit id=>obtain⟨_,_,_,h,_⟩:=B;exact h.elim
  |ret=>
   obtain⟨s2,S2,I,⟨e1,e2⟩,l⟩:=B;have I:S2=B9:=by simpa using I
   subst I;have Z:Below (xz (xj w)) w w2:=b4.trans l.2.2.1.below;intro h8;refine hK _ w2 rfl ⟨rfl,l.2.2.2.2,rfl,_,Try.func15,λd=> ?_⟩;obtain⟨⟨h2,k1,k2⟩,k3,k4,k5,k6⟩:=l.sim d
   obtain⟨v,hv,a7⟩:=Kq (c:=cB) (f:=Try.f15) (D:=λb=>(xh=xh/\G b)\/(xz (xj w)<=b/\b< xz (xj (w2.at d)))) k1 k3 (λb a=>by
    obtain O|O:=k1.ok.f_or b a;exact .inl ⟨rfl,O⟩;exact .inr ⟨O,k1.ok.f_lt b a⟩) (λr hr=>⟨ZcW.1 (Z2:(Try.f15.results.toList.all (Sx (Yo Try.prog) B9))=xy) r hr,λi b a=>.inr ⟨(k1.ok.b_lt _ _ b a).1,(k1.ok.b_lt _ _ b a).2.1⟩⟩) (x:=.tup [Yd TF,vi 1]) (by rw[<-e2];exact ZdT (XX s2) Z2)
   refine⟨v,hv,v,rfl,O7 Z d,?_⟩;unfold Qz;rw[if_neg (by rw[e1];simp)];exact a7
  |normal=>
   obtain⟨s2,S2,I,⟨e1,e2,e3⟩,l⟩:=B;cases I;have Z:Below (xz (xj w)) w w2:=b4.trans l.2.2.1.below;have R:=hk e1;obtain⟨F,M,b2,T1,T2,x,hF,h0,h3,f2,f3,f1,h9,t1,t2,t3,d7,d8,g5⟩:=Z3F (h:=h) l (e2.trans q1) (e3.trans q3);have d6:a2.tmps.size=82:=l.2.2.2.1;have f6:a2.defers=[]:=l.2.2.2.2;have l1:=(ZcS.1 d7).1;have l2:=(ZcS.1 d8).1;obtain⟨o,o1,o2,o3,o4⟩:=Z3M;obtain⟨o',p1,p2,p3,p4⟩:=Z3N;obtain⟨dir,inf,g8,c0⟩:=x0;refine .two ?_;rw[Z4W];refine .region ?_;rw[GD.1,show List.range 2=[0,1]from rfl];refine Walk.chan (i:=0) o1 (by simp[Region.wanted,o2]) (by simp[base]) o4 g8 c0 ?_;rw[o3];generalize hc:xz (xj w2)=c;obtain⟨w3,J⟩:∃w3,w3=w2.alloc (.chan 0 #[] xh 0 0 xh):=⟨_,rfl⟩;rw[<-J];have b0:((a2.put (xk 18) (.chan (xk c))).eval (.tmp 18))=.chan (xk c):=Act.eval_tmp _ 18 _ (SW Z0);refine Walk.val (i:=1) (v:=.chan (xk c)) p1 (by simp[Region.wanted,p2]) (by simp[base]) (by rw[p4];rfl) (λw' _=>by unfold execOp;simp only[p4,b0];rfl) (.regEnd ?_);rw[p3];have z3:xz (xj w3)=c+1:=by rw[J,<-hc];simp
   have b5:w3.heap[c]?=xk (.chan 0 #[] xh 0 0 xh):=by rw[J,<-hc];exact Zdf ..
   have Q:∀b,b<c->w3.heap[b]?=w2.heap[b]? :=λb a=>by rw[J];exact ZcU _ _ _ Z0
   have A:Below (xz (xj w)) w w3:=by rw[J];exact Z.alloc Z0 _
   have m1:w3.heap[M]?=_:=(Q M Z0).trans d7;have m2:w3.heap[b2]?=_:=(Q b2 Z0).trans d8;obtain⟨o0,e0,e4,e5,a8⟩:=Z3O;obtain⟨o9,e6,e7,e8,a9⟩:=Z3P;refine .two ?_;rw[Z4X];refine .region ?_;rw[GD.2,show List.range 3=[0,1,2]from rfl];generalize z:(a2.put (xk 18) (.chan (xk c))).put (xk 4) (.chan (xk c))=a3;have g1:a3.tmps[1]?=xk (.pointer (xk ⟨M,0,xw⟩)):=by rw[<-z,Wp Z0,Wp Z0];exact t1
   have g4:a3.tmps[4]?=xk (.chan (xk c)):=by rw[<-z];exact SW (by rw[S9];omega)
   have gs:a3.tmps.size=82:=by rw[<-z,S9,S9];exact d6
   have e9:a3.eval (.tmp 1)=.pointer (xk ⟨M,0,xw⟩):=Act.eval_tmp _ 1 _ g1;refine Walk.val (i:=0) (v:=ZZ h x) e0 (by simp[Region.wanted,e4]) (by simp[base]) (by rw[a8];rfl) (λw' he=> ?_) ?_
   have hl:=yp (P:=Try.prog) (w:=w') (T:=37) Z2 Z2 (b:=M) (o:=0) [.int .u64 h.base,.int .i64 h.cap,.int .i64 h.to,.bool h.cycle,.int .i64 h.scan,x 0,x 1,x 2,x 3,x 4] Z2 (λi u hi=>by
    rw[Zdy,Zd5 w' M i _ T1 (0,0) (by rw[he];exact m1)];simpa using hi)
   unfold execOp;simp only[a8,e9];rw[Zdp,hl];rfl;rw[e5];have f0:(a3.put (xk 19) (ZZ h x)).eval (.tmp 4)=.chan (xk c):=Act.eval_tmp _ 4 _ (by rw[Wp Z0];exact g4);refine Walk.val (i:=1) (v:=.chan (xk c)) e6 (by simp[Region.wanted,e7]) (by simp[base]) (by rw[a9];rfl) (λw' _=>by unfold execOp;simp only[a9,f0];rfl) ?_;rw[e8];generalize k:(a3.put (xk 19) (ZZ h x)).put (xk 20) (.chan (xk c))=L;have u1:L.tmps[1]?=xk (.pointer (xk ⟨M,0,xw⟩)):=by rw[<-k,Wp Z0,Wp Z0];exact g1
   have u4:L.tmps[4]?=xk (.chan (xk c)):=by rw[<-k,Wp Z0,Wp Z0];exact g4
   have us:L.tmps.size=82:=by rw[<-k,S9,S9];exact gs
   have u2:L.tmps[2]?=xk (.pointer (xk ⟨b2,0,xw⟩)):=by rw[<-k,Wp Z0,Wp Z0,<-z,Wp Z0,Wp Z0];exact t2
   have u3:L.tmps[3]?=xk (.int .i64 0):=by rw[<-k,Wp Z0,Wp Z0,<-z,Wp Z0,Wp Z0];exact t3
   have h6:L.tmps[19]?=xk (ZZ h x):=by rw[<-k,Wp Z0];exact SW Z0
   have h7:L.tmps[20]?=xk (.chan (xk c)):=by rw[<-k];exact SW (by rw[S9];omega)
   have ud:L.defers=[]:=by rw[<-k,<-z];exact f6
   let K:Nat->Prop:=λb=>F b/\∃q e H,w3.heap[b]?=xk (.cells q e H);have a4:∀j,j<5->Rd w3 K (.sl ((Zv h j).map vu)) (x j):=λj hj=>by
    have O:=Z58 (g5 j hj) (Gk _);refine O.keep (λb a=>Q b ?_) λb a=>⟨a.1,?_⟩;obtain⟨_,q,e,H,a⟩:=a;have:=(ZcS.1 a).1;omega;obtain⟨_,q,e,H,a⟩:=a;exact⟨q,e,H,by rw[Q b (by have:=(ZcS.1 a).1;omega)];exact a⟩
   obtain⟨n0,c6,b9,b8⟩:=Ea w3 (L.tmps++ #[x 0,x 1,x 2,x 3,x 4]);have hx:∀j,j<5->FixV n0 (x j):=λj hj=>by
    refine b9 _ (Zej.2 (.inr ?_))
    match j,hj with
    |0,_=>simp
    |1,_=>simp
    |2,_=>simp
    |3,_=>simp
    |4,_=>simp
    |j+5,h=>omega
   have b6:c<n0:=Z0;have h4:¬K M:=λh=>h0 h.1;have h5:¬K b2:=λh=>h3 h.1;have b3:∀b,K b->b<xz (xj w3):=λb ⟨_,_,_,_,a⟩=>(ZcS.1 a).1;have d9:¬K c:=λ⟨_,_,_,_,a⟩=>by rw[b5]at a;cases a
   refine Walk.meet (KA:=K) (KB:=K) (OA0:=λb=>b=M\/b=b2) (c:=c) (λw=>Z0N (by simp[base]) h6 h7 w)
    (Z2L (fs:=UV h x 4 0) (fin:=Yi h) hh us ud u1 u2 u3 u4 m1 m2 Z0 f2 f3 f1 h4 h5 c6 b6 (λb a=>a.2) (λb q e H a=>b8 b q e H a) (λv hv=>b9 v (Zej.2 (.inl hv))) hx a4 (Z0D R a4) (En h x 4 0) (by
     have:=R.n;rw[<-qU h x 4 0,Zdz]at this;exact this) (by rw[qU];rfl) R.sm)
    (x3 hh c6 b6 (λb a=>a.2) (λb o ho a=>by
     obtain⟨_,q,e,H,he⟩:=a;rw[ho]at he;cases he;exact b8 b q e H ho) hx a4 R.ob) b5 (λb a=>by obtain rfl|rfl:=a<;>omega) b3 b3 (λb a=>by obtain rfl|rfl:=a<;>assumption) (λa=>by obtain a|a:=a<;>omega) d9 d9 ?_
   rintro OA g w' ⟨H,rfl,b7,hm,hd,f8,d0⟩ g6 a6 c7 i1 f7;refine⟨H,q,rfl,hK H w' b7 ⟨hm,hd,f8,_,by rw[b7];exact Try.func15,λd=> ?_⟩⟩;obtain⟨v,hv,a7⟩:=d0 d;refine⟨v,hv,v,rfl,⟨(ZdT Prod.fst c7).trans A.os,a6.trans A.tape,(ZdT Prod.snd c7).trans A.output,Zdm A.size g6,λb a=>(f7 b (by have:=A.size;omega) (λf5=>by obtain rfl|rfl:=f5<;>omega) Z0).trans (A.block b a)⟩,?_⟩;unfold Qz;rw[if_pos e1];refine a7.mono λb a=> ?_;obtain⟨a,c1⟩:=a;obtain a|a:=a;obtain O|O:=hF b a.1;exact .inl ⟨rfl,O⟩;exact .inr ⟨O,c1⟩;exact .inr ⟨a,c1⟩
  |_=>exact B.elim
 |_=>exact B.elim
#print axioms Cz
end Vm
end
section
namespace Vm
open Go Go.Proofs
def VN(l:Zo):List (Int×Int):=(l.filter λo=>o.gone).map λo=>(o.size,o.ptrs)
def MW{ws:Zf}{shs:List (Int×Int)}{old:Bool}:∀(l:Zo) (f a k:Nat) (g:Zo),Tiles ws old a l->xq ws<f+a->0<f->shs.drop k=VN l->Xi ws shs old f a k g=(g++l,0)
 | [],f,a,k,g,D,K,I,B=>by
   obtain⟨f,rfl⟩:∃C,f=C+1:=⟨f-1,Z0⟩;have:xq ws<=a:=D;have r:xq shs<=k:=List.drop_eq_nil_iff.1 B;rw[Xi,ZdY this];simp only;rw[if_neg Z0,Zei]
 |o::l,f,a,k,g,D,K,I,B=>by
  obtain⟨f,rfl⟩:∃C,f=C+1:=⟨f-1,Z0⟩;obtain⟨t,r,J⟩:=D;obtain⟨w,F,j⟩:=r.word;have M:=YG.1 r.shape;have u:=r.fits;have q:=r.slots;rw[t]at F u q;simp only[Zda]at F q;have z:∀d:Nat,shs.drop d=VN l->Xi ws shs old f (a+1+o.size.toNat) d (g++[o])=(g++o::l,0):=λd p=>by
   rw[MW l f _ d _ J Z0 Z0 p];simp
  have y:∃d,XT shs old a k w=xk (o,d)/\shs.drop d=VN l:=by
   unfold XT;cases n:o.gone;rw[n]at j;simp only[Zd0,Zdu]at j;rw[if_neg (λh=>j.1 h.1 h.2),j.2.1];refine⟨k,?_,?_⟩;simp only[Zdv];obtain⟨N,P,op,O,Q⟩:=o;simp only at n t j⊢;rw[n,t,j.2.2];rw[B];simp[VN,n];rw[n]at j;simp only[Zdv]at j;rw[if_pos ⟨j.1,j.2.1⟩];have A:shs.drop k=(o.size,o.ptrs)::VN l:=by rw[B];simp[VN,n]
   have x:k<xq shs:=by
    have:=ZdT List.length A;simp at this;omega
   rw[ZdG x]at A;have G:=(List.cons.inj A).1;have H:=(List.cons.inj A).2;rw[ZcM x,G];simp only[r.shape,Zdv];refine⟨k+1,?_,H⟩;obtain⟨N,P,op,O,Q⟩:=o;simp only at n t j⊢;rw[n,t,j.2.2]
  obtain⟨d,L,p⟩:=y;rw[Xi,F];simp only;rw[L];simp only;rw[if_neg Z0,if_neg (by rw[q];simp)];exact z d p
def yS{ws:Zf}{shs:List (Int×Int)}{old:Bool}{l:Zo}(d:Tiles ws old 0 l)(a:shs=VN l):ZN ws shs old=(l,0):=by
 unfold ZN;rw[MW l (P ws+1) 0 0 [] d Z0 Z0 (by simpa using a),ZdJ]
def RX(h:Hp)(low l:Zo):Prop:=∀o∈l,o.gone=xy->∃q,Yu h 1 low o.target=xk q/\q.size=o.size/\q.ptrs=o.ptrs
def yB{h:Hp}{ws:Zf}{low:Zo}:∀(l:Zo) (f i:Nat) (a:List (Int×Int)),Tiles ws xy i l->P ws<f+i->0<f->RX h low l->WM h ws low f i a=xk (a++VN l)
 | [],f,i,a,u,D,B,r=>by
   obtain⟨f,rfl⟩:∃n,f=n+1:=⟨f-1,Z0⟩;have:P ws<=i:=u;rw[WM,ZdY this];simp[VN]
 |o::l,f,i,a,u,D,B,r=>by
  obtain⟨f,rfl⟩:∃n,f=n+1:=⟨f-1,Z0⟩;obtain⟨C,p,y⟩:=u;obtain⟨w,x,g⟩:=p.word;have F:=YG.1 p.shape;have j:=p.fits;rw[C]at x j;simp only[Zda]at x;have k:RX h low l:=λq t=>r q (Zdn _ t);rw[WM,x];simp only;cases d:o.gone;rw[d]at g;simp only[Zd0,Zdu,true_implies]at g;rw[if_neg g.1,g.2.1];simp only[Zdv];rw[yB l f _ a y Z0 Z0 k];simp[VN,d];rw[d]at g;simp only[Zdv,true_and]at g;rw[if_pos g.1];obtain⟨q,t,z,A⟩:=r o (.head _) d;rw[<-g.2,t];simp only;rw[z,A,yB l f _ _ y Z0 Z0 k];simp[VN,d]
def HT{h:Hp}{p:Pts}(d:Tiles h.low xh 0 p.low)(h2:Tiles h.high xh 0 p.high)(f:Tiles h.old xy 0 p.old)(g:Tiles h.far xy 0 p.far)(q:RX h p.low p.old)(r:RX h p.low p.far):Xh h=xk p:=by
 have k:∀ {n:Zf} {a:Nat} {l:Zo},Tiles n xh a l->VN l=[]:=λ{n a l} x=>by
  unfold VN;rw[List.map_eq_nil_iff,Zgx];intro o u t;obtain⟨w,_,j⟩:=(x.stands o u).1.word;rw[if_pos t]at j;cases j.1
 unfold Xh;rw[yS d (k d).symm,yS h2 (k h2).symm];unfold Vd;simp only[ne_eq,Zgo,or_self,Zdu];rw[yB p.old _ 0 [] f Z0 Z0 q,yB p.far _ 0 [] g Z0 Z0 r];simp only[ZdJ,Zdg];rw[yS f rfl,yS g rfl];simp
def IJ{h:Hp}{p:Pts}(a:T7 h=xy)(d:Xh h=xk p)(f:TT h p=xy):XE h=xy:=by
 unfold XE;rw[a,d];simpa using f
def Da{h:Hp}{k:Int}{l:Zo}{o:Ob}(a:o∈l)(f:∀q∈l,YS h k q.at_=YS h k o.at_->q=o):Yu h k l (YS h k o.at_)=xk o:=by
 unfold Yu;induction l with
 |nil=>simp at a
 |cons x l j=>
  rw[Zg0];by_cases d:YS h k x.at_=YS h k o.at_;rw[f x (.head _) d];simp;have:(YS h k x.at_==YS h k o.at_)=xh:=Zc7;rw[this];obtain rfl|a:=Zd6.1 a;exact absurd rfl d;exact j a λq g=>f q (Zdn _ g)
def qk{h:Hp}{k:Int}{l:Zo}{a:Int}:(Yu h k l a).isSome=xy↔ ∃o∈l,YS h k o.at_=a:=by
 unfold Yu;rw[List.find?_isSome];simp
section
structure Tld (h:Hp) (p:Pts):Prop where
 lay:ZG (Zu h)=xy
 tiles:∀k:Int,1<=k/\k<=4->Tiles (Zx h k) (decide (2<k)) 0 (p.at k)
def Xu(h:Hp)(p:Pts)(w one a:Int):Prop:=w=0\/∃k o,(k=one\/k=a)/\o∈p.at k/\w=Y2 (Zu h) k o.at_
def VV(h:Hp)(p:Pts)(k:Int)(i:Nat)(w:Int):Prop:=if 2<k then Xu h p w 3 4 else if k=1/\h.scan<=i then Xu h p w 1 2\/Xu h p w 3 4 else Xu h p w 1 2
section
variable {h:Hp}{p:Pts}
def Tld.ob(t:Tld h p){k:Int}(g:1<=k/\k<=4){o:Ob}(j:o∈p.at k):∃a n m:Nat,o.at_=a/\o.size=n/\o.ptrs=m/\a+(n+1)<=P (Zx h k)/\n<=255/\m<=n:=by
 have d:=((t.tiles k g).stands o j).1;have f:=YG.1 d.shape;obtain⟨a,l⟩:=Zd7 d.nat;obtain⟨n,r⟩:=Zd7 f.1;obtain⟨m,q⟩:=Zd7 f.2.2.1;have:=d.fits;grind
def Tld.start(t:Tld h p){k:Int}(d:1<=k/\k<=4){o:Ob}(f:o∈p.at k):YS h k o.at_=fstL (Zu h) k+o.at_:=by
 obtain⟨a,n,m,g,_,_,j,_⟩:=t.ob d f;unfold YS;rw[S8 t.lay d (by grind [UD])]
def Tld.same_at(t:Tld h p){k:Int}(d:1<=k/\k<=4){o q:Ob}(f:o∈p.at k)(g:q∈p.at k)(e:q.at_=o.at_):q=o:=by
 rcases(t.tiles k d).apart q g o f with a|a|a;exact a;have:=YG.1 ((t.tiles k d).stands q g).1.shape;omega;have:=YG.1 ((t.tiles k d).stands o f).1.shape;omega
def Tld.find(t:Tld h p){k:Int}(a:1<=k/\k<=4){o:Ob}(d:o∈p.at k):Yu h k (p.at k) (fstL (Zu h) k+o.at_)=xk o:=by
 rw[<-t.start a d];refine Da d λq f e=>t.same_at a d f ?_;rw[t.start a d,t.start a f]at e;omega
theorem Tld.inj(t:Tld h p){k j:Int}(d:1<=k/\k<=4)(f:1<=j/\j<=4){o q:Ob}(g:o∈p.at k)(l:q∈p.at j)(e:Y2 (Zu h) k o.at_=Y2 (Zu h) j q.at_):k=j/\o=q:=by
 obtain⟨a,n,m,x,_,_,z,_⟩:=t.ob d g;obtain⟨b,B,A,y,_,_,w,_⟩:=t.ob f l;obtain⟨r,u⟩:=Z5k t.lay d f (by grind [UD]) (by grind [UD]) e;subst r;exact⟨rfl,t.same_at d l g u⟩
theorem Tld.adr(t:Tld h p){k:Int}(d:1<=k/\k<=4){o:Ob}(f:o∈p.at k):adr (Y2 (Zu h) k o.at_)=(fstL (Zu h) k+o.at_,0):=by
 obtain⟨a,n,m,g,_⟩:=t.ob d f;exact UM t.lay Z0
def Tld.ne0(t:Tld h p){k:Int}(d:1<=k/\k<=4){o:Ob}(f:o∈p.at k):Y2 (Zu h) k o.at_≠0:=by
 obtain⟨a,n,m,g,_⟩:=t.ob d f;exact Km t.lay Z0
def Tld.at_iff(t:Tld h p){k:Int}(d:1<=k/\k<=4){w:Int}(f:(Vm.adr w).2=0):(Yu h k (p.at k) (Vm.adr w).1).isSome=xy↔ ∃o∈p.at k,w=Y2 (Zu h) k o.at_:=by
 rw[qk];constructor;rintro⟨o,a,e⟩;rw[t.start d a]at e;exact⟨o,a,N4 f e.symm⟩;rintro⟨o,a,rfl⟩;exact⟨o,a,by rw[t.adr d a,t.start d a]⟩
def Tld.goes_iff(t:Tld h p){i j:Int}(g:1<=i/\i<=4)(l:1<=j/\j<=4){w:Int}:Xo h p w i j=xy↔Xu h p w i j:=by
 unfold Xo Xu;by_cases d:w=0;simp[d];by_cases a:(Vm.adr w).2=0;simp only[d,a,Zg6,ZgX,Zfe,Zgp,Zd2,false_or,t.at_iff g a,t.at_iff l a];simp;simp only[d,a,ZgX,Bool.false_and,Bool.or_self,Zd0,false_or,false_iff];rintro⟨k,o,n,q,rfl⟩;have f:1<=k/\k<=4:=by obtain rfl|rfl:=n<;>assumption
 exact a (by rw[t.adr f q])
def Mi:∀ {l:Zf} {a:Int} {i:Nat},XG l xy a i=xy->∀w∈l,w=0
 | [],_,_,_,w,d=>ZcC
 |y::l,a,i,f,w,d=>by
  simp only[XG,ZcP]at f;obtain rfl|d:=Zd6.1 d;have g:=f.1;simp at g;exact g.1;exact Mi f.2 w d
def Tld.slot(t:Tld h p){k:Int}(d:1<=k/\k<=4){o:Ob}(f:o∈p.at k){j:Nat}(x:(j:Int)<o.size):∃w,(Zx h k)[o.at_.toNat+1+j]?=xk w/\(o.gone=xy->w=0):=by
 obtain⟨a,n,m,l,u,z,y,_⟩:=t.ob d f;have r:a+1+j< P (Zx h k):=Z0;refine⟨(Zx h k)[a+1+j],ZbU,λq=> ?_⟩;have g:=((t.tiles k d).stands o f).1.slots;rw[q]at g;refine Mi g _ ?_;rw[l,u,Zda,Zda];refine ZcT (i:=j) ?_;simp_all
end
structure Body (h:Hp) (p:Pts):Prop extends Tld h p where
 gone:∀k:Int,3<=k/\k<=4->∀o∈p.at k,o.gone=xy->∃q∈p.low,o.target=fstL (Zu h) 1+q.at_/\q.size=o.size/\q.ptrs=o.ptrs
 ptr:∀k:Int,1<=k/\k<=4->∀o∈p.at k,o.gone=xh->∀j:Nat,(j:Int)<o.ptrs->∀w,(Zx h k)[o.at_.toNat+1+j]?=xk w->VV h p k (o.at_.toNat+1+j) w
 room:(P h.low:Int)+P h.high+W1 p<=h.cap
structure Rt (h:Hp) (p:Pts):Prop extends Body h p where
 nroots:P h.roots<=16
 scan0:0<=h.scan
 scanL:h.scan<=P h.low
 cyc:h.cycle=xy->h.scan<P h.low
 rest:h.cycle=xh->h.scan=P h.low/\h.old=[]/\h.far=[]
 once:h.cycle=xy->∀o∈p.low,UF p (fstL (Zu h) 1+o.at_)=1
 roots:∀w∈h.roots,Xu h p w 1 2
section
variable {h:Hp}{p:Pts}
def CB(t:Tld h p){k:Int}{i:Nat}{w:Int}(a:(Zx h k)[i]?=xk w):VQ h p k i=xy↔VV h p k i w:=by
 unfold VQ VV;simp only[a,Zdg];split;exact t.goes_iff Z0 Z0;split;rw[Zd2,t.goes_iff Z0 Z0,t.goes_iff Z0 Z0];exact t.goes_iff Z0 Z0
theorem NN(k:Int)(i:Nat):VV h p k i 0:=by
 unfold VV;split;exact .inl rfl;split;exact .inl (.inl rfl);exact .inl rfl
def Ie(t:Tld h p){k:Int}(g:1<=k/\k<=4):Wk h p k=xy↔ ∀o∈p.at k,o.gone=xh->∀j:Nat,(j:Int)<o.ptrs->∀w,(Zx h k)[o.at_.toNat+1+j]?=xk w->VV h p k (o.at_.toNat+1+j) w:=by
 unfold Wk zq;simp only[ZcW,ZeS];constructor;intro l o d _ j q w f;exact(CB t f).1 (l o d j Z0);intro l o d j q;obtain⟨a,n,m,r,y,x,u,_⟩:=t.ob g d;obtain⟨w,f,z⟩:=t.slot g d (j:=j) Z0;refine(CB t f).2 ?_;grind [NN]
def RightH.tld(r:RightH h p):Tld h p:=⟨r.lay,λk a=>r.tiles a⟩
def RightH.rt(r:RightH h p):Rt h p:=by
 have t:=r.tld;have j:=r.num;have a:=r.ok;unfold T7 at j;unfold TT at a;simp only[ZcP,Zd8]at j a;obtain⟨⟨⟨⟨G,A⟩,B⟩,C⟩,H⟩:=j;obtain⟨⟨⟨⟨⟨⟨l,D⟩,I⟩,J⟩,K⟩,L⟩,F⟩:=a;have f:∀k:Int,1<=k/\k<=4->Wk h p k=xy:=λk d=>by
  have:k=1\/k=2\/k=3\/k=4:=Z0;grind
 refine⟨⟨t,λk d o a y=> ?_,λk d=>(Ie t d).1 (f k d),F⟩,A,B,C,λg=> ?_,λg=> ?_,λg o a=> ?_,λw z=> ?_⟩;obtain⟨q,n,e,u,x⟩:=r.gone_low d a y;exact⟨q,n,by rw[<-e,t.start (k:=1) Z0 n],u,x⟩;simp_all;simp_all;rw[g]at l;simp only[Zfs,Zfe,ZcW]at l;have:=l o a;unfold SK at this;rw[t.start (k:=1) Z0 a]at this;simp_all;exact(t.goes_iff Z0 Z0).1 (ZcW.1 D w z)
def Rt.parts(r:Rt h p):Xh h=xk p:=by
 have g:∀k:Int,3<=k/\k<=4->RX h p.low (p.at k):=λk j o l f=>by
  obtain⟨q,n,e,a,d⟩:=r.gone k j o l f;exact⟨q,by rw[e];exact r.toTld.find (k:=1) Z0 n,a,d⟩
 exact HT (r.tiles 1 Z0) (r.tiles 2 Z0) (r.tiles 3 Z0) (r.tiles 4 Z0) (g 3 Z0) (g 4 Z0)
theorem Rt.right(r:Rt h p):XE h=xy:=by
 have t:=r.toTld;refine IJ ?_ r.parts ?_;unfold T7;simp only[ZcP,Zd8];refine⟨⟨⟨⟨r.lay,r.nroots⟩,r.scan0⟩,r.scanL⟩,?_⟩;cases a:h.cycle;obtain⟨l,n,q⟩:=r.rest a;simp_all;simp[r.cyc a];unfold TT;simp only[ZcP,Zd8];have d:=λk f=>(Ie t f).2 (r.ptr k f);refine⟨⟨⟨⟨⟨⟨?_,?_⟩,d 1 Z0⟩,d 2 Z0⟩,d 3 Z0⟩,d 4 Z0⟩,r.room⟩;cases a:h.cycle;rfl;simp only[Zfs,Zfe,ZcW];intro o g;unfold SK;rw[t.start (k:=1) Z0 g,Zd8];exact r.once a o g;rw[ZcW];exactλw j=>(t.goes_iff Z0 Z0).2 (r.roots w j)
def II:XE h=xy↔ ∃p,Rt h p:=
 ⟨λa=>by obtain⟨p,r⟩:=Z5A a;exact⟨p,r.rt⟩,λ⟨p,r⟩=>r.right⟩
def Rt.objs(r:Rt h p){k:Int}(a:1<=k/\k<=4):Vq h k=(p.at k,0):=by
 unfold Vq;rw[if_pos ⟨r.right,a⟩,r.parts];rfl
def Rt.wait(r:Rt h p):QV h=W1 p:=by
 unfold QV;rw[if_pos r.right,r.parts];rfl
end
end
section
def KJ(l:Zo):Nat:=(l.map λo=>1+o.size.toNat).sum
def Tiles.sum{ws:Zf}{old:Bool}:∀ {a:Nat} {l:Zo},Tiles ws old a l->a<=P ws->a+KJ l=P ws
 |a,[],h,d=>by have:P ws<=a:=h;simp[KJ];omega
 |a,o::l,h,d=>by
  have g:=YG.1 h.2.1.shape;have f:=h.2.1.fits;rw[h.1]at f;have:=Tiles.sum h.2.2 Z0;simp[KJ]at this⊢;omega
def Tiles.last{ws:Zf}{old:Bool}{l:Zo}(h:Tiles ws old (P ws) l):l=[]:=by
 obtain _|⟨o,l⟩:=l;rfl;have d:=YG.1 h.2.1.shape;have a:=h.2.1.fits;rw[h.1]at a;omega
def Z6Z{L:Zo}{f:Ob->Nat}(h:∀o∈L,f o=0):(L.map f).sum=0:=by
 induction L with
 |nil=>rfl
 |cons x L a=>simp_all
section
variable {h:Hp}{p:Pts}
def Tld.low_at(t:Tld h p){o:Ob}(d:o∈p.low):0<=o.at_/\o.at_<P h.low:=by
 obtain⟨a,n,m,f,_,_,g,_⟩:=t.ob (k:=1) Z0 d;grind [QG]
def Tiles.pairwise{ws:Zf}{old:Bool}:∀ {a:Nat} {l:Zo},Tiles ws old a l->l.Pairwise λx y=>x.at_<y.at_
 |_,[],_=>.nil
 |a,o::l,h=>by
  have f:=YG.1 h.2.1.shape;refine .cons (λy d=> ?_) (Tiles.pairwise h.2.2);have:=(Tiles.stands h.2.2 y d).2;rw[h.1];omega
def Tiles.nil{old:Bool}{l:Zo}(h:Tiles [] old 0 l):l=[]:=Tiles.last (ws:=[]) h
end
end
section
section
variable {h:Hp}{p:Pts}
def TN(h:Hp){q:Nat}(a:q<4):Zx h ((q:Int)+1)=Zv h q:=by
 have:q=0\/q=1\/q=2\/q=3:=Z0;obtain rfl|rfl|rfl|rfl:=this<;>rfl
def Rt.obQ(r:Rt h p){q:Nat}(a:q<4):obP h q=p.at ((q:Int)+1):=by
 unfold Vm.obP;rw[r.objs Z0]
def Tr{f:Fo}:∀ {n q:Nat},f∈Xc h n q->∃k o,q<=k/\k<q+n/\o∈obP h k/\f=Ym h k o
 |0,q,a=>by simp[Xc]at a
 |n+1,q,a=>by
  simp only[Xc,Zdd,Zd1]at a;obtain⟨o,g,rfl⟩|a:=a;exact⟨q,o,Z0,Z0,g,rfl⟩;obtain⟨k,o,j,l,d⟩:=Tr a;exact⟨k,o,Z0,Z0,d⟩
def za{k:Nat}{o:Ob}(a:o∈obP h k):∀ {n q:Nat},q<=k->k<q+n->Ym h k o∈Xc h n q
 |0,q,d,f=>Z0
 |n+1,q,d,f=>by
  simp only[Xc,Zdd,Zd1];by_cases e:k=q;subst e;exact .inl ⟨o,a,rfl⟩;exact .inr (za a Z0 Z0)
def Z4T(s:Vw)(f:Fo):(s.put f).ns=s.ns++if f.ob.gone then []else [f]:=by
 unfold Vw.put;split<;>simp
def Ef:∀(l:List Fo) (s:Vw),(l.foldl Vw.put s).ns=s.ns++l.filter λf=> !f.ob.gone
 | [],s=>Z1
 |f::l,s=>by
  rw[Zfb,Ef l,Z4T];cases a:f.ob.gone<;>simp[a]
def C7(h:Hp):(Yi h).ns=(Xc h 4 0).filter λf=> !f.ob.gone:=by
 unfold Yi;rw[Ef];rfl
def JW(r:Rt h p){q:Nat}(a:q<4):P (obP h q)<=P (Zv h q):=by
 have t:=r.tiles ((q:Int)+1) Z0;have:=t.sum (ZdZ _);rw[TN h a,<-r.obQ a]at this;have d:P (obP h q)<=KJ (obP h q):=by
  generalize obP h q=l;induction l with
  |nil=>simp
  |cons o l f=>simp only[KJ,Zdc,List.sum_cons,Zec]at f⊢;omega
 omega
def Rt.len4(r:Rt h p){q:Nat}(l:q<4):P (Zv h q)<=4096:=by
 obtain⟨a,d,_,_,_,⟨_,_,f,g⟩,⟨_,_,j,k⟩⟩:=VS.1 r.lay;simp only[Zu]at*;have:q=0\/q=1\/q=2\/q=3:=Z0;obtain rfl|rfl|rfl|rfl:=this;show P h.low<=4096;omega;show P h.high<=4096;omega;show P h.old<=4096;omega;show P h.far<=4096;omega
def Rt.ob4(r:Rt h p){q:Nat}(f:q<4){o:Ob}(d:o∈obP h q):∃a n m:Nat,o.at_=a/\o.size=n/\o.ptrs=m/\a+(n+1)<=P (Zv h q)/\n<=255/\m<=n:=by
 rw[r.obQ f]at d;have:=r.toTld.ob Z0 d;rwa[TN h f]at this
def lsW(a:h.ok){q:Nat}(d:q<4):∀w∈Zv h q,ZA w:=by
 have:q=0\/q=1\/q=2\/q=3:=Z0;obtain rfl|rfl|rfl|rfl:=this;exact a.lowW;exact a.highW;exact a.oldW;exact a.farW
def qT(r:Rt h p){q:Nat}(f:q<4){o:Ob}(d:o∈obP h q):(Ym h q o).sl.length=o.size.toNat:=by
 obtain⟨a,n,m,g,j,k,l,_⟩:=r.ob4 f d;simp only[Ym,Ze3,ZeG];omega
def Rt.ofOk(r:Rt h p)(x:h.ok):OfOk h:=by
 have F:P (Xc h 4 0)<=16384:=by
  have A:=JW r (q:=0) Z0;have j:=JW r (q:=1) Z0;have l:=JW r (q:=2) Z0;have t:=JW r (q:=3) Z0;have G:=r.len4 (q:=0) Z0;have k1:=r.len4 (q:=1) Z0;have H:=r.len4 (q:=2) Z0;have I:=r.len4 (q:=3) Z0;simp only[Xc,ZdD,Zdz,ZeV,Zdy,Nat.reduceAdd];omega
 refine⟨λq g=>⟨by have:=JW r g;have:=r.len4 g;omega,λo d=> ?_⟩,Z0,⟨?_,λf u=> ?_,by have:=r.nroots;omega,x.rootsW⟩⟩;obtain⟨a,n,m,j,l,t,y,_⟩:=r.ob4 g d;omega;rw[C7];have:=ZgJ (λf:Fo=> !f.ob.gone) (Xc h 4 0);omega;rw[C7]at u;obtain⟨k,o,_,D,d,rfl⟩:=Tr (Zfv.1 u).1;obtain⟨a,n,m,j,l,t,y,B,C⟩:=r.ob4 Z0 d;have e:=qT r Z0 d;refine⟨by show 0<=o.ptrs;omega,by show o.ptrs<=_;rw[e];omega,by rw[e];omega,λw z=>lsW x (q:=k) Z0 w ?_⟩;exact Zeg (ZdE z)
def ofOk(a:h.ok)(d:XE h=xy):OfOk h:=by
 obtain⟨p,r⟩:=II.1 d;exact r.ofOk a
end
def NJ{h:Hp}(a:h.ok):VC (Yo Try.prog) 15 xh [ZL h] (Qz h):=Cz a (ofOk a)
end
section
structure VwI (d:List Fo) (s:Vw):Prop where
 ns:s.ns=d.filter λf=> !f.ob.gone
 n1:∀a j,ZX s.nm a=xk j->∃i:Nat,j=i/\∃f,s.ns[i]?=xk f/\f.ad=a
 n2:∀f∈s.ns,(ZX s.nm f.ad).isSome=xy
 t1:∀a t,ZX s.tm a=xk t->∃f∈d,f.ob.gone=xy/\f.ad=a/\f.ob.target=t
 t2:∀f∈d,f.ob.gone=xy->(ZX s.tm f.ad).isSome=xy
def LT{α l k j}{x:α}(h:k=j\/(ZX l j).isSome=xy):(ZX (XD l k x) j).isSome=xy:=by
 rw[Qi];split;rfl;rename_i a;obtain h|h:=h;exact absurd h a;exact h
theorem VwI.put{d s f}(i:VwI d s):VwI (d++[f]) (s.put f):=by
 cases n:f.ob.gone;have e:s.put f= {s with ns:=s.ns++[f],nm:=XD s.nm f.ad (P s.ns)}:=by simp[Vw.put,n]
 rw[e];refine⟨by simp[i.ns,n],λa j q=> ?_,λx k=> ?_,λa t o=> ?_,λx k l=> ?_⟩;simp only[Qi]at q;split at q;rename_i w;exact⟨P s.ns,by simpa using q.symm,f,Z1,w⟩;have⟨m,z,g,y,A⟩:=i.n1 a j q;exact⟨m,z,g,by simp only[Zdk (ZcN.1 y).1,y],A⟩;obtain k|k:=Zdd.1 k;exact LT (.inr (i.n2 x k));rw[ZdP.1 k];exact LT (.inl rfl);have⟨g,r,u⟩:=i.t1 a t o;exact⟨g,by simp[r],u⟩;obtain k|k:=Zdd.1 k;exact i.t2 x k l;rw[ZdP.1 k,n]at l;exact absurd l Z1;have e:s.put f= {s with tm:=XD s.tm f.ad f.ob.target}:=by simp[Vw.put,n]
 rw[e];refine⟨by simp[i.ns,n],i.n1,i.n2,λa t o=> ?_,λx k l=> ?_⟩;simp only[Qi]at o;split at o;rename_i w;exact⟨f,Z1,n,w,by simpa using o⟩;have⟨g,r,u⟩:=i.t1 a t o;exact⟨g,by simp[r],u⟩;obtain k|k:=Zdd.1 k;exact LT (.inr (i.t2 x k l));rw[ZdP.1 k];exact LT (.inl rfl)
def VwI.fold:∀ {l d} {s:Vw},VwI d s->VwI (d++l) (l.foldl Vw.put s)
 | [],d,s,i=>by simpa using i
 |f::l,d,s,i=>by
  have:=VwI.fold (l:=l) (i.put (f:=f));rwa[ZdB]at this
def S3 h:VwI (Xc h 4 0) (Yi h):=by
 have:VwI [] ⟨[],[],[]⟩:=⟨rfl,by simp[ZX],Z1,by simp[ZX],Z1⟩;exact this.fold (l:=Xc h 4 0)
section
variable {h:Hp}{p:Pts}
def Sl(r:Rt h p){q}(d:q<4){o}(f:o∈obP h q):(Ym h q o).ad=fstL (Zu h) (q+1)+o.at_:=by
 have⟨a,n,m,g,j,k,l,_⟩:=r.ob4 d f;show(ZY (Zu h) (q+1) o.at_).1=_;rw[S8 r.lay Z0 (by rw[UD Z0,TN h d];omega)]
def Jv(r:Rt h p){f g}(u:f∈Xc h 4 0)(w:g∈Xc h 4 0)(e:f.ad=g.ad):f=g:=by
 obtain⟨k,o,_,z,l,rfl⟩:=Tr u;obtain⟨j,q,_,y,n,rfl⟩:=Tr w;rw[Sl r Z0 l,Sl r Z0 n]at e;have a:=l;have d:=n;rw[r.obQ Z0]at a d;have⟨x,t⟩:=r.toTld.inj Z0 Z0 a d (by unfold Y2;omega);have:k=j:=Z0;subst this;rw[t]
def U5{f}:f∈(Yi h).ns↔f∈Xc h 4 0/\f.ob.gone=xh:=by
 rw[(S3 h).ns];simp
def Rt.to_nm(r:Rt h p){f}(d:f∈Xc h 4 0)(n:f.ob.gone=xh):∃i:Nat,ZX (Yi h).nm f.ad=xk (i:Int)/\(Yi h).ns[i]?=xk f:=by
 have⟨j,k⟩:=ZdQ.1 ((S3 h).n2 f (U5.2 ⟨d,n⟩));obtain⟨i,rfl,g,a,l⟩:=(S3 h).n1 _ _ k;have:=Jv r (U5.1 (ZcT a)).1 d l;subst this;exact⟨i,k,a⟩
def Rt.to_live(r:Rt h p){f}(a:f∈Xc h 4 0)(d:f.ob.gone=xh){w}(q:w≠0)(n:(adr w).1=f.ad):∃i:Nat,(Yi h).toA w=i/\(Yi h).ns[i]?=xk f:=by
 have⟨i,k,l⟩:=r.to_nm a d;refine⟨i,?_,l⟩;have:ZX (Yi h).tm f.ad=xw:=by
  cases o:ZX (Yi h).tm f.ad with
  |none=>rfl
  |some t=>
   have⟨g,k1,j,u,_⟩:=(S3 h).t1 _ _ o;rw[Jv r k1 a u,d]at j;exact absurd j Z1
 unfold Vw.toA;rw[if_neg q,n,this,Zgv,k,Zdg]
def Rt.to_gone(r:Rt h p){f g}(a:f∈Xc h 4 0)(o:f.ob.gone=xy)(gf:g∈Xc h 4 0)(j:g.ob.gone=xh)(q:f.ob.target=g.ad){w}(u:w≠0)(n:(adr w).1=f.ad):∃i:Nat,(Yi h).toA w=i/\(Yi h).ns[i]?=xk g:=by
 have⟨i,k,l⟩:=r.to_nm gf j;refine⟨i,?_,l⟩;have⟨t,e⟩:=ZdQ.1 ((S3 h).t2 f a o);have⟨x,k1,z,y,d⟩:=(S3 h).t1 _ _ e;rw[Jv r k1 a y,q]at d;unfold Vw.toA;rw[if_neg u,n,e,Zdg,<-d,k,Zdg]
def Rt.live12(r:Rt h p){q}(g:q<2){o}(a:o∈obP h q):o.gone=xh:=by
 rw[r.obQ Z0]at a;have⟨w,_,d⟩:=((r.tiles (q+1) Z0).stands o a).1.word;cases f:o.gone;rfl;rw[f,if_pos rfl]at d;have:=d.1;simp at this;omega
def Rt.gos(r:Rt h p){w i j}(t:1<=i/\i<=4)(u:1<=j/\j<=4)(n:Xu h p w i j)(g:w≠0):∃(q:Nat) (o:Ob),q<4/\((q+1=i)\/(q+1=j))/\o∈obP h q/\w=2*(Ym h q o).ad+1/\(adr w).1=(Ym h q o).ad:=by
 obtain rfl|⟨k,o,l,f,rfl⟩:=n;exact absurd rfl g;obtain⟨q,rfl,d⟩:∃q:Nat,k=q+1/\q<4:=⟨(k-1).toNat,Z0,Z0⟩;have a:o∈obP h q:=by rw[r.obQ d];exact f
 refine⟨q,o,d,l,a,?_,?_⟩;rw[Sl r d a];rfl;rw[r.toTld.adr Z0 f,Sl r d a]
def Rt.to_any(r:Rt h p){w i j}(B:1<=i/\i<=4)(C:1<=j/\j<=4)(H:Xu h p w i j)(k:w≠0):∃(n:Nat),(Yi h).toA w=n/\n< (Yi h).ns.length:=by
 have⟨q,o,F,J,x,_,y⟩:=r.gos B C H k;have z:Ym h q o∈Xc h 4 0:=za x Z0 Z0;cases d:o.gone;have⟨n,l,u⟩:=r.to_live z d k y;exact⟨n,l,(ZcN.1 u).1⟩;have I:2<=q:=by
  by_cases D:q<2;rw[r.live12 D x]at d;exact absurd d Z1;omega
 have f:=x;rw[r.obQ F]at f;have⟨t,G,A,_⟩:=r.gone (q+1) Z0 o f d;have a:t∈obP h 0:=by rw[r.obQ Z0];exact G
 have⟨n,l,u⟩:=r.to_gone z d (g:=Ym h 0 t) (za a Z0 Z0) (r.live12 Z0 a) (by rw[Sl r Z0 a];exact A) k y;exact⟨n,l,(ZcN.1 u).1⟩
def Rt.to_in(r:Rt h p){w i j}(f:1<=i/\i<=4)(g:1<=j/\j<=4)(k:Xu h p w i j):Up (Yi h).ns.length ((Yi h).toA w)=xy:=by
 by_cases a:w=0;subst a;simp[Vw.toA,Up];omega;have⟨n,d,l⟩:=r.to_any f g k a;rw[d];simp[Up];omega
def Id{k i w}(d:VV h p k i w):∃a b,(1<=a/\a<=4)/\(1<=b/\b<=4)/\Xu h p w a b:=by
 unfold VV at d;split at d;exact⟨3,4,Z0,Z0,d⟩;split at d;obtain d|d:=d;exact⟨1,2,Z0,Z0,d⟩;exact⟨3,4,Z0,Z0,d⟩;exact⟨1,2,Z0,Z0,d⟩
def Rt.view_right(r:Rt h p){d}(H:xq d<=16)(I:∀w∈d,Xu h p w 1 2):Vm.right ((Yi h).gr d)=xy:=by
 simp only[Vm.right,ZcP,ZcW,Zd8,Vw.gr,Zdz,Zd1];refine⟨⟨H,?_⟩,?_⟩;rintro _ ⟨f,C,rfl⟩;have⟨u,D⟩:=U5.1 C;obtain⟨q,o,_,P,x,rfl⟩:=Tr u;have⟨a,n,m,J,K,L,M,N,O⟩:=r.ob4 Z0 x;have e:=qT r Z0 x;simp only[Ss,Ut,ZcP,ZcW,Zd8,Zdz,Ze3,ZeG,Zd1];refine⟨Z0,?_⟩;rintro _ ⟨w,z,rfl⟩;have⟨j,g⟩:=Zde z;have l:=(ZcN.1 g).1;rw[Ze3]at l;have y:(Ym h q o).ob.ptrs=o.ptrs:=rfl;rw[y]at g l;rw[ZdO Z0]at g;have t:=x;rw[r.obQ Z0]at t;have A:(Zx h (q+1))[o.at_.toNat+1+j]?=xk w:=by
  rw[TN h Z0];simp only[Ym]at g;rw[ZdO Z0,Zdo]at g;rw[<-g];congr 1;omega
 have⟨i,k,F,G,B⟩:=Id (r.ptr (q+1) Z0 o t D j Z0 w A);exact r.to_in F G B;rintro _ ⟨w,z,rfl⟩;exact r.to_in Z0 Z0 (I w z)
end
end
end Vm
end
section
namespace Vm
open Go
open Go.Proofs
def p4:Fn:=⟨16,[0,1,2,3,4,5,6,7,55,8,60,86,9,89,114,10],
pQ [pR [(1,pS 0 7),pV 2 pF],pC [pK 16 13 []] [pV 3 (.s 16)],pC [pK 17 16 [.mm 1 0 7]] [(4,pS 17 10)],pC [pK 18 20 [.mm 4 0 10]] [pV 5 (.s 18)],pC [pK 19 15 [.mm 4 0 10]] [(6,pM (.sz (.ext (.s 19) 0) 2) 2),pV 7 (.ext (.s 19) 1)],pQ [.reg ⟨[.lt 20 [] (.bin .neq (.s 7) (pI 0)),.call 21 [(20,xh)] (.id 21) xh xh [.mm 6 0 2],.lt 22 [] (.ite (.s 20) pT (.bin .neq (.s 5) (.s 21))),.lt 23 [] (.ite (.s 22) pT (.bin .lss (.s 5) (pI 0))),.call 24 [(23,xh)] (.id 22) xh xh [.mm 4 0 10],.lt 25 [] (.ite (.s 23) pT (.bin .gtr (.s 5) (.bin .add (.bin .add (.len (.m 4 5)) (.len (.m 4 6))) (.s 24))))],[([(20,xh)],.bin .neq (.s 5) (.s 21)),([(22,xh)],.bin .lss (.s 5) (pI 0)),([(23,xh)],.bin .gtr (.s 5) (.bin .add (.bin .add (.len (.m 4 5)) (.len (.m 4 6))) (.s 24))),([(25,xh)],.bin .neq (.len (.m 6 1)) (.len (.m 4 9)))],[pV 8 (.ite (.s 25) pT (.bin .neq (.len (.m 6 1)) (.len (.m 4 9))))]⟩] (.cond (.s 8) (pQ [pR [pV 2 pF]] .ret) .skip),pQ [pR [pV 9 (pI 0)]] (.block 0 (.loop [0,1,2,3,4,5,6,7,8,9] (pQ [pQ [pR [pV 10 (.bin .lss (.s 9) (.len (.m 4 9)))]] (.cond (.s 10) .skip (.exit 0)),.block 1 (pQ [pQ [.reg ⟨[.lt 26 [] (.eqv xy (.bin .eql (.fld (.idx (.m 4 9) (.s 9) 1) 0) (pU 0)) (.bin .eql (.fld (.idx (.m 6 1) (.s 9) 1) 0) (pI (-1))))],[([(26,xh)],.bin .geq (.fld (.idx (.m 6 1) (.s 9) 1) 0) (.len (.m 6 0)))],[pV 11 (.ite (.s 26) pT (.bin .geq (.fld (.idx (.m 6 1) (.s 9) 1) 0) (.len (.m 6 0))))]⟩] (.cond (.s 11) (pQ [pR [pV 2 pF]] .ret) .skip),pR [pV 12 (pI 0)]] (.block 2 (.loop [0,1,2,3,4,5,6,7,8,9,10,11,12] (pQ [pQ [pR [pV 13 (.bin .lss (.s 12) (.s 9))]] (.cond (.s 13) .skip (.exit 2)),.block 3 (pQ [pR [pV 14 (.eqv xy (.bin .eql (.fld (.idx (.m 4 9) (.s 9) 1) 0) (.fld (.idx (.m 4 9) (.s 12) 1) 0)) (.bin .eql (.fld (.idx (.m 6 1) (.s 9) 1) 0) (.fld (.idx (.m 6 1) (.s 12) 1) 0)))]] (.cond (.s 14) (pQ [pR [pV 2 pF]] .ret) .skip))] (pR [pV 12 (.bin .add (.s 12) (pI 1))])))))] (pR [pV 9 (.bin .add (.s 9) (pI 1))])))),pR [(15,pM (.mm 4 0 10) 10)],pR [(15,.m [.m 15 0,.m 15 1,.m 15 2,.m 15 3,.m 15 4,.m 15 5,.m 15 6,.m 15 7,.m 15 8,.mk (.int .u64 0) (.len (.m 4 9))])],.reg ⟨[.lt 27 [] (.s 3),.call 28 [(27,xy)] (.id 20) xh xy [.mm 15 0 10]],[([(27,xy)],.bin .eql (.s 28) (pI 0))],[pV 2 (.ite (.s 27) (.bin .eql (.s 28) (pI 0)) pF)]⟩] .ret,[(2,.v)]⟩
def c4:ZK (Yo Try.prog) fresh sig [.fz] [] Try.f4=xk p4:=Z2
end Vm
end
section
namespace Vm
open Go Go.Proofs
theorem R5{P:Z4}{f:Zm}{fn:Func}{c:Code}(j:P.funcs[f]?=xk fn)(h2:fn.body=xk c)(k:UP P c=xy):FitF (Yo P) f:=⟨λg d h a=>by
 have e:(Yo P).funcs[f]?=P.funcs[f]? :=rfl;rw[e,j]at h;cases h;rw[h2]at a;cases a;exact Dl k⟩
def Z3l(l:Zf):NoM (.sl (l.map vi)):=.sl _ λc a=>by
 have:flat (l.map vi)=l.map vi:=VK λx d=>Zcz;rw[this]at a;obtain⟨y,_,rfl⟩:=Zd1.1 a;exact .int _ _
def A9(g:Gr):NoM (Yd g):=(Gi g).m
def zj{x:V}(h:NoM x):∀y∈[x],NoM y:=λy a=>by rw[ZdP.1 a];exact h
def zk{x z:V}(h:NoM x)(k:NoM z):∀y∈[x,z],NoM y:=λy a=>by
 simp only[Zd6,ZdS,Zf8]at a;obtain rfl|rfl:=a;exact h;exact k
def up{f:Zm}{args:Zp}{r:V}(g:VC Sol.prog f xh args r)(a:∀x∈args,NoM x)(d:NoM r):VC (Yo Try.prog) f xh args r:=Fw Sol.sub g a d
def NP{a b:Gr}(d:a.sm):VC (Yo Try.prog) 18 xh [Yd a,Yd b] (.bool (decide (a=b))):=up (NQ d) (zk (A9 a) (A9 b)) (.bool _)
def vg(h:Hp):Gr:=(Yi h).gr h.roots
def ofG(h:Hp):Gr×Int:=if XE h=xy/\right (vg h)=xy then(XO (vg h),0)else(TF,1)
def Z3E(h:Hp):Qz h=.tup [Yd (ofG h).1,vi (ofG h).2]:=by
 unfold Qz ofG WO vg;by_cases a:XE h=xy;rw[if_pos a];by_cases d:right ((Yi h).gr h.roots)=xy;rw[if_pos d,if_pos ⟨a,d⟩];rw[if_neg d,if_neg λx=>d x.2];rw[if_neg a,if_neg λx=>a x.1]
def Cy{h:Hp}(a:h.ok):VC (Yo Try.prog) 15 xh [ZL h] (.tup [Yd (ofG h).1,vi (ofG h).2]):=by
 rw[<-Z3E];exact NJ a
instance fitLive:FitF (Yo Try.prog) 20:=R5 (P:=Try.prog) Try.func20 rfl Z2
instance fitAwake:FitF (Yo Try.prog) 13:=R5 (P:=Try.prog) Try.func13 rfl Z2
end Vm
end
section

end
section
namespace Vm
open Go Go.Proofs
section
def AC{h:Hp}{k j:Int}(n:1<=k/\k<=4)(g:1<=j/\j<=4)(l:Zf):Zx (Xf h k l) j=if j=k then l else Zx h j:=by
 have a:k=1\/k=2\/k=3\/k=4:=Z0;have f:j=1\/j=2\/j=3\/j=4:=Z0;obtain rfl|rfl|rfl|rfl:=a<;>obtain rfl|rfl|rfl|rfl:=f<;>rfl
def ZM(b:Bt)(i:Nat):Nd:=(b.g.nodes[i]?).getD default
def ZD(b:Bt)(i:Nat):Pl:=(b.here[i]?).getD ⟨0,0⟩
def Y1(b:Bt)(i:Nat):Pl:=(b.old[i]?).getD ⟨0,0⟩
def Jx(n:Nd):Int:=(U6 ((P n.ptrs:Int)+P n.data) (P n.ptrs)).1
def XH(b:Bt)(p:Pl)(n:Nd)(tw:Int):List Int:=Jx n::(XF b p p.at_.toNat n.ptrs tw++n.data)
def Vl(b:Bt)(p:Pl)(n:Nd):List Int:=YB b.h p::List.replicate (ZI n-1) 0
def YN(b:Bt)(x:Rw)(k:Int)(i:Nat):List Int:=
 if(ZD b i).part=k then XH b (ZD b i) (ZM b i) (IntKind.i64.wrap (x.slack+i))
 else if(Y1 b i).part=k then(if(ZD b i).part=0 then XH b (Y1 b i) (ZM b i) 0 else Vl b (ZD b i) (ZM b i))
 else []
def YV(b:Bt)(x:Rw)(k:Int)(i:Nat):List Int:=(List.range i).flatMap (YN b x k)
theorem VG(b:Bt)(x:Rw)(k:Int)(i:Nat):YV b x k (i+1)=YV b x k i++YN b x k i:=by
 simp_all[YV,ZeW,ZeB]
theorem U3(b:Bt)(p:Pl)(n:Nd)(tw:Int):P (XH b p n tw)=ZI n:=by
 grind [XH,XF,ZI]
theorem Rc(b:Bt)(p:Pl)(n:Nd):P (Vl b p n)=ZI n:=by
 grind [Vl,ZI]
structure Placed (b:Bt) (x:Rw):Prop where
 ok:BOk b
 here:∀i,i<P b.g.nodes->(ZD b i=⟨0,0⟩/\∃k:Int,(k=3\/k=4)/\(Y1 b i).part=k)\/(((ZD b i).part=1\/(ZD b i).part=2)/\(ZD b i).at_=(P (YV b x (ZD b i).part i):Nat))
 old:∀i,i<P b.g.nodes->Y1 b i=⟨0,0⟩\/(((Y1 b i).part=3\/(Y1 b i).part=4)/\(Y1 b i).at_=(P (YV b x (Y1 b i).part i):Nat)/\(ZD b i).part≠2)
 zero:∀k:Int,1<=k/\k<=4->Zx b.h k=List.replicate (P (YV b x k (P b.g.nodes))) 0
section
variable {b d:Bt}{x:Rw}
def Bc(a:Like b d)(p:Pl):YB d.h p=YB b.h p:=by
 unfold YB;rw[a.lay]
theorem Z6z(a:Like b d)(p:Pl)(to tw:Int):WZ d p to tw=WZ b p to tw:=by
 unfold WZ;rw[a.here,a.old,a.scan,Bc a,Bc a]
def Fl(a:Like b d)(p:Pl)(n:Nd)(tw:Int):XH d p n tw=XH b p n tw:=by
 grind [XH,XF,Z6z]
def jC{p:Pl}{a m:Nat}{n:Nd}{tw:Int}{F:Zf}(k:Zx d.h p.part=F++List.replicate m 0)(g:P F=a)(f:p.at_.toNat=a)(j:ZI n<=m):Tz d p a n tw=F++XH d p n tw++List.replicate (m-ZI n) 0:=by
 simp_all[Tz,List.replicate,ZI,ZfO,Zeq,XH,Jx]
def Z6g{F:Zf}{a m s:Nat}{w:Int}(f:P F=a)(j:1<=s)(h:s<=m):(F++List.replicate m (0:Int)).set a w=F++(w::List.replicate (s-1) 0)++List.replicate (m-s) 0:=by
 rw[<-f,ZgL _ _ (ZcR _),Zey];obtain⟨m,rfl⟩:∃g,m=g+1:=⟨m-1,Z0⟩;rw[List.replicate_succ,List.set_cons_zero,ZdB];congr 1;simp;omega
def Jd(b:Bt)(x:Rw)(k:Int){i j:Nat}(h:i<=j):∃r,YV b x k j=YV b x k i++r:=by
 induction j with
 |zero=>simp_all
 |succ j f=>
  by_cases a:i=j+1;simp_all;grind [YN,VG,List.append_assoc]
def q8(b:Bt)(x:Rw)(i:Nat)(d:Bt):Prop:=∀k:Int,1<=k/\k<=4->Zx d.h k=YV b x k i++List.replicate (P (YV b x k (P b.g.nodes))- P (YV b x k i)) 0
def Bh(b:Bt)(x:Rw)(k:Int){i:Nat}(a:i<P b.g.nodes):P (YV b x k i)+P (YN b x k i)<=P (YV b x k (P b.g.nodes)):=by
 obtain⟨r,f⟩:=Jd b x k (Z0:i+1<=P b.g.nodes);grind [VG]
def Z0m(C:Placed b x){i:Nat}(G:i<xq b.g.nodes)(z:Like b d)(w:q8 b x i d):q8 b x (i+1) (Qb x d i):=by
 have R:(d.g.nodes[i]?).getD default=ZM b i:=by rw[z.g];rfl
 have T:(d.here[i]?).getD ⟨0,0⟩=ZD b i:=by rw[z.here];rfl
 have S:(d.old[i]?).getD ⟨0,0⟩=Y1 b i:=by rw[z.old];rfl
 unfold Qb;simp only[R,T,S];have W:=C.here i G;have O:=C.old i G;have r:=λk=>Bh b x k G;have j:∀k,YN b x k i=if(ZD b i).part=k then XH b (ZD b i) (ZM b i) (IntKind.i64.wrap (x.slack+i))else if(Y1 b i).part=k then(if(ZD b i).part=0 then XH b (Y1 b i) (ZM b i) 0 else Vl b (ZD b i) (ZM b i))else []:=λk=>rfl
 have P:=U3 b (ZD b i) (ZM b i) (IntKind.i64.wrap (x.slack+i));have Z:=U3 b (Y1 b i) (ZM b i) 0;have l3:=Rc b (ZD b i) (ZM b i);have M:=Fl z (ZD b i) (ZM b i) (IntKind.i64.wrap (x.slack+i));have Q:=Fl z (Y1 b i) (ZM b i) 0;generalize ZD b i=p at*;generalize Y1 b i=o at*;generalize ZM b i=n at*;have L:1<=ZI n:=by unfold ZI;omega
 obtain⟨rfl,ko,a,N⟩|⟨hp,U⟩:=W
 ·
  have I:(o.part=3\/o.part=4)/\o.at_=(xq (YV b x o.part i):Nat):=by
   obtain rfl|⟨h1,h2,_⟩:=O;grind;omega
  have D:VY x d i n ⟨0,0⟩=d:=by unfold VY;rw[if_neg Z1]
  have F:VZ d n ⟨0,0⟩ o=XR d o n 0:=by unfold VZ;rw[if_pos ⟨Z0,rfl⟩]
  have A:∀q,VI q ⟨0,0⟩ o=q:=λq=>by simp_all[VI,if_neg]
  rw[D,F,A];intro k t;have l:YN b x o.part i=XH b o n 0:=by rw[j,if_neg ZbT,if_pos rfl,if_pos rfl]
  have y:=r o.part;rw[l,Z]at y;unfold XR;simp only;rw[AC Z0 t];by_cases a:k=o.part;rw[if_pos a,a,jC (w o.part Z0) Z0 rfl Z0,VG,l,Q];grind;rw[if_neg a,VG,j k,if_neg ZbT,if_neg (λh=>a h.symm),Zei];exact w k t
 have J:¬p.part=0:=Z0;have D:VY x d i n p=XR d p n (IntKind.i64.wrap (x.slack+i)):=by unfold VY;rw[if_pos Z0]
 have F:∀q,VZ q n p o=q:=λq=>by simp_all[VZ,if_neg]
 rw[D,F];have B:YN b x p.part i=XH b p n (IntKind.i64.wrap (x.slack+i)):=by rw[j,if_pos rfl]
 have K:=r p.part;rw[B,P]at K;have u:∀k:Int,1<=k/\k<=4->Zx (XR d p n (IntKind.i64.wrap (x.slack+i))).h k=if k=p.part then YV b x p.part (i+1)++List.replicate (xq (YV b x p.part (xq b.g.nodes))- xq (YV b x p.part (i+1))) 0 else Zx d.h k:=by
  intro k t;unfold XR;simp only;rw[AC Z0 t];by_cases f:k=p.part;rw[if_pos f,if_pos f,jC (w p.part Z0) Z0 rfl Z0,VG,B,M];grind;simp_all
 have H:YB (XR d p n (IntKind.i64.wrap (x.slack+i))).h p=YB b.h p:=by
  unfold YB;have:Zu (XR d p n (IntKind.i64.wrap (x.slack+i))).h=Zu b.h:=by
   rw[<-z.lay];unfold XR;simp only;refine Cc ?_;rw[jC (w p.part Z0) Z0 rfl Z0,w p.part Z0,M];simp[P];omega
  rw[this]
 generalize XR d p n (IntKind.i64.wrap (x.slack+i))=q at*;obtain rfl|⟨X,I,Y⟩:=O;have A:VI q p ⟨0,0⟩=q:=by simp_all[VI,if_neg]
 rw[A];intro k t;rw[u k t];by_cases f:k=p.part;simp_all;rw[if_neg f,VG,j k,if_neg (λh=>f h.symm),if_neg ZbT,Zei];exact w k t;have A:VI q p o= {q with h:=Xf q.h o.part ((Zx q.h o.part).set o.at_.toNat (YB q.h p))}:=by unfold VI;rw[if_pos ⟨Z0,Z0⟩]
 rw[A];have l:YN b x o.part i=Vl b p n:=by rw[j,if_neg Z0,if_pos rfl,if_neg J]
 have y:=r o.part;rw[l,l3]at y;intro k t;simp only;rw[AC Z0 t,u o.part Z0,if_neg (Z0:¬o.part=p.part),w o.part Z0,H];by_cases a:k=o.part;rw[if_pos a,a,Z6g Z0 L Z0,VG,l];grind [Vl];rw[if_neg a,u k t];by_cases f:k=p.part;simp_all;rw[if_neg f,VG,j k,if_neg (λh=>f h.symm),if_neg (λh=>a h.symm),Zei];exact w k t
def DU(a:Placed b x):∀i,i<=P b.g.nodes->q8 b x i (VJ x b i)
 |0,_=>by
  intro k f;rw[VJ,a.zero k f];simp[YV]
 |i+1,h=>by
  rw[VJ];exact Z0m a Z0 (JK a.ok i Z0) (DU a i Z0)
def DT(a:Placed b x){k:Int}(f:1<=k/\k<=4):Zx (Yp x b) k=YV b x k (P b.g.nodes):=by
 have h:=DU a (P b.g.nodes) (ZcR _) k f;rw[Zey,List.replicate_zero,Zei]at h;rw[<-h];rfl
end
end
end Vm
end
