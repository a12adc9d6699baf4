import Derived.RangeFuncNested
import Derived.RangeFuncBound
import Derived.RangeFuncLeaves
import Derived.Recover
import Derived.OwnWalkIn
import Derived.TacticsInMore
import Derived.LoopNIn
import Derived.LoopIn
import Derived.Shelf.RegionOpen
import Derived.RecoverIn
import Derived.RangeFuncBox
import Derived.Maps.AppendAt
import Derived.Maps.OwnIn
import Derived.Laws.StructEq
import Derived.Test.YtjkmonbmpoegjaaSScanOnce5
set_option linter.unusedSimpArgs false
set_option linter.unusedVariables false
section
namespace Vm
open Go Go.Proofs
set_option maxRecDepth 100000
set_option maxHeartbeats 1000000
def putA{α:Type}(l:List (Int×α))(k:Int)(v:α):List (Int×α):=match l.findIdx? (·.1==k)with
 |some i=>l.set i (k,v)
 |none=>l++ [(k,v)]
def getA{α:Type}(l:List (Int×α))(k:Int):Option α:=(l.find? (·.1==k)).map (·.2)
def mpA{α:Type}(f:α→V)(l:List (Int×α)):V:= .mp 0 (l.map fun x=>vu x.1) (l.map fun x=>f x.2)
theorem RU{α:Type}{k:Int}: ∀ {l:List (Int×α)},Jo (vu k) (l.map fun x=>vu x.1)=some (l.findIdx? (·.1==k))
 | []=>rfl
 |y::l=>by
  simp only[List.map_cons,Jo,jj,if_true,List.findIdx?_cons]
  by_cases h:k=y.1
  ·simp[h]
  ·have h2:(k==y.1)=false:=by simpa using h
   have h3:(y.1==k)=false:=by simpa using Ne.symm h
   simp[h2,h3,RU]
theorem Xh{α:Type}{p:α→Bool}: ∀ {l:List α},l.find? p=(l.findIdx? p).bind fun i=>l[i]?
 | []=>rfl
 |x::l=>by
  rw[List.find?_cons,List.findIdx?_cons]
  cases h:p x
  ·simp only[Bool.false_eq_true,if_false]
   rw[Xh (l:=l)]
   cases l.findIdx? p<;>simp
  ·simp
theorem jC{α:Type}{f:α→V}{l:List (Int×α)}{k:Int}{z:V}{ok:Bool}:lkV (.i .u64) (mpA f l) (vu k) z ok=match getA l k with
  |some x=>some (if ok then .tup [f x,.bool true]else f x)
  |none=>some (if ok then .tup [z,.bool false]else z):=by
 unfold lkV mpA getA
 simp only[isK,decide_true,Bool.true_eq_false,if_false,RU,Xh]
 cases h:l.findIdx? (·.1==k)with
 |none=>rfl
 |some i=>
  have hlt:i<l.length:=(List.findIdx?_eq_some_iff_getElem.1 h).1
  simp[hlt]
theorem JA{α:Type}{f:α→V}{l:List (Int×α)}{k:Int}{x:α}:RM (.i .u64) (mpA f l) (vu k) (f x)=some (mpA f (putA l k x)):=by
 unfold RM mpA putA
 simp only[isK,decide_true,Bool.true_eq_false,if_false,RU]
 cases h:l.findIdx? (·.1==k)with
 |none=>simp
 |some i=>
  have hh:=List.findIdx?_eq_some_iff_getElem.1 h
  obtain⟨hlt,hk,_⟩:=hh
  have hk':(l[i]).1=k:=by simpa using hk
  simp only[Option.some.injEq,V.mp.injEq,true_and]
  constructor
  ·rw[List.map_set]
   apply List.ext_getElem?
   intro j
   rw[List.getElem?_set]
   split
   ·rename_i e
    subst e
    simp[hlt,hk']
   ·rfl
  ·rw[List.map_set]
@[simp] theorem Z5w{α:Type}(f:α→V)(l:List (Int×α)):oneV (mpA f l)=some (mpA f l):=rfl
@[simp] theorem Z4C{α:Type}(f:α→V)(l:List (Int×α)):(mpA f l).cells= [mpA f l]:=rfl
@[simp] theorem Z5F{α:Type}(f:α→V)(l:List (Int×α)):(mpA f l).one=true:=rfl
@[simp] theorem Z5k{α:Type}(f:α→V)(l:List (Int×α)):Q7 (mpA f l)=some (vi l.length):=by simp[mpA]
theorem Rn{α:Type}{l:List (Int×α)}{k j:Int}{x:α}:getA (putA l k x) j=if k=j then some x else getA l j:=by
 unfold getA putA
 cases h:l.findIdx? (·.1==k)with
 |none=>
  have hn: ∀y∈l,¬y.1=k:=by
   intro y hy e
   have:=List.findIdx?_eq_none_iff.1 h y hy
   simp[e]at this
  simp only[List.find?_append]
  by_cases e:k=j
  ·subst e
   have:l.find? (·.1==k)=none:=by
    rw[List.find?_eq_none]
    intro y hy
    simpa using hn y hy
   simp[this]
  ·have h3:(k==j)=false:=by simpa using e
   simp[e,h3]
 |some i=>
  obtain⟨hlt,hk,hmin⟩:=List.findIdx?_eq_some_iff_getElem.1 h
  have hk':(l[i]).1=k:=by simpa using hk
  simp only
  by_cases e:k=j
  ·subst e
   rw[if_pos rfl,Xh]
   have:(l.set i (k,x)).findIdx? (·.1==k)=some i:=by
    rw[List.findIdx?_eq_some_iff_getElem]
    refine⟨by simpa using hlt,by simp,?_⟩
    intro q hq
    rw[List.getElem_set_ne (by omega)]
    exact hmin q hq
   rw[this]
   simp[hlt]
  ·rw[if_neg e,Xh,Xh]
   have:(l.set i (k,x)).findIdx? (·.1==j)=l.findIdx? (·.1==j):=by
    apply Option.ext
    intro q
    rw[List.findIdx?_eq_some_iff_getElem,List.findIdx?_eq_some_iff_getElem]
    have hj:((k,x).1==j)=false:=by simpa using e
    have hj':((l[i]).1==j)=false:=by rw[hk'];simpa using e
    constructor
    ·rintro⟨h1,h2,h3⟩
     have h1':q<l.length:=by simpa using h1
     by_cases eq:q=i
     ·subst eq;simp at h2;exact(e h2).elim
     ·rw[List.getElem_set_ne (Ne.symm eq)]at h2
      refine⟨h1',h2,fun r hr=> ?_⟩
      by_cases er:r=i
      ·subst er;simp[hj']
      ·have:=h3 r hr
       rw[List.getElem_set_ne (Ne.symm er)]at this
       exact this
    ·rintro⟨h1,h2,h3⟩
     by_cases eq:q=i
     ·subst eq;rw[hj']at h2;cases h2
     ·refine⟨by simpa using h1,by rw[List.getElem_set_ne (Ne.symm eq)];exact h2,fun r hr=> ?_⟩
      by_cases er:r=i
      ·subst er;simp[hj]
      ·rw[List.getElem_set_ne (Ne.symm er)];exact h3 r hr
   rw[this]
   cases hq:l.findIdx? (·.1==j)with
   |none=>rfl
   |some q=>
    obtain⟨h1,h2,_⟩:=List.findIdx?_eq_some_iff_getElem.1 hq
    have:q≠i:=by
     intro eq;subst eq
     rw[hk']at h2
     exact e (by simpa using h2)
    simp[List.getElem?_set_ne (Ne.symm this)]
structure Ck where
 h:Hp
 o1:List Ob
 o2:List Ob
 o3:List Ob
 o4:List Ob
 pm:List (Int×Int)
 lm:List (Int×(Int×Int))
def Ck.obs(s:Ck)(k:Int):List Ob:=if k=1 then s.o1 else if k=2 then s.o2 else if k=3 then s.o3 else s.o4
def ckL(s:Ck):List V:= [vu s.h.base,vi s.h.cap,vi s.h.to,.bool s.h.cycle,vi s.h.scan,.sl (s.h.low.map vu),.sl (s.h.high.map vu),.sl (s.h.old.map vu),.sl (s.h.far.map vu),.sl (s.h.roots.map vu),
 vu s.h.base,vi s.h.cap,vi s.h.to,vi s.h.low.length,vi s.h.high.length,vi s.h.old.length,vi s.h.far.length,
 .sl (s.o1.map obV),.sl (s.o2.map obV),.sl (s.o3.map obV),.sl (s.o4.map obV),mpA vi s.pm,mpA shP s.lm]
def ckP(s:Ck):V:= .ptr (ckL s)
theorem Qz:IntKind.i64.wrap 0=0:=by decide
theorem S6:IntKind.i64.wrap 1=1:=by decide
theorem VG:IntKind.i64.wrap 2=2:=by decide
theorem Up:IntKind.i64.wrap 3=3:=by decide
theorem KG{s:Ck}{k:Int}(hk:1≤k∧k≤4):VC Try.prog 109 false [ckP s,vi k] (.sl ((Z8 s.h k).map vu)):=by
 refine Z7 Try.func109 follows (by kernel_rfl) c109 rfl ?_
 have:k=1∨k=2∨k=3∨k=4:=by omega
 rcases this with rfl|rfl|rfl|rfl<;>simp[p109,ckP,ckL,Z8,aiV,Qz,S6,VG,Up]
def Zs(s:Ck)(w first last:Int):Bool:=decide (w=0)||(decide ((adr w).2=0)&&match getA s.pm (adr w).1 with
 |some k=>decide (first≤k)&&decide (k≤last)
 |none=>false)
theorem Wy{s:Ck}{w first last:Int}(hw:U64 w):VC Try.prog 113 false [ckP s,vu w,vi first,vi last] (.bool (Zs s w first last)):=by
 refine Z7 Try.func113 follows (by kernel_rfl) c113 rfl ?_
 unfold Zs
 by_cases h0:w=0
 ·simp[p113,h0]
 simp[p113,h0,ckP,ckL]
 refine Z0 (Lp hw) (by simp) ?_
 by_cases h1:(adr w).2=0
 case neg=>simp[h1]
 simp[h1,jC]
 cases hg:getA s.pm (adr w).1 with
 |none=>simp
 |some k=>
  by_cases h2:first≤k
  ·by_cases h3:k≤last<;>simp[h2,h3]
  ·simp[h2]
def Yz(h:Hp)(k:Int):List (Int×Int)→List Ob→List (Int×Int)
 |m,[]=>m
 |m,o::l=>Yz h k (putA m (ZD (layH h) k o.at_).1 k) l
def ZU(h:Hp)(k:Int):List (Int×(Int×Int))→List Ob→List (Int×(Int×Int))
 |m,[]=>m
 |m,o::l=>ZU h k (if k=1 then putA m (ZD (layH h) k o.at_).1 (o.size,o.ptrs)else m) l
def Ck.put(s:Ck)(k:Int)(l:List Ob):Ck:=if k=1 then {s with o1:=l}else if k=2 then {s with o2:=l}else if k=3 then {s with o3:=l}else {s with o4:=l}
def Xc(s:Ck)(k:Int)(l:List Ob):Ck:= {s.put k l with pm:=Yz s.h k s.pm l,lm:=ZU s.h k s.lm l}
theorem Xp{h:Hp}{k:Int}: ∀ {l:List Ob} {i:Nat} {o:Ob} {m:List (Int×Int)},l[i]? =some o→Yz h k m (l.take (i+1))=putA (Yz h k m (l.take i)) (ZD (layH h) k o.at_).1 k
 | [],_,_,_,h=>by simp at h
 |x::l,0,o,m,h=>by simp at h;subst h;simp[Yz]
 |x::l,i+1,o,m,h=>by
  simp only[List.take_succ_cons,Yz]
  exact Xp (by simpa using h)
theorem Xv{h:Hp}{k:Int}: ∀ {l:List Ob} {i:Nat} {o:Ob} {m:List (Int×(Int×Int))},l[i]? =some o→ZU h k m (l.take (i+1))=if k=1 then putA (ZU h k m (l.take i)) (ZD (layH h) k o.at_).1 (o.size,o.ptrs)else ZU h k m (l.take i)
 | [],_,_,_,h=>by simp at h
 |x::l,0,o,m,h=>by simp at h;subst h;simp[ZU]
 |x::l,i+1,o,m,h=>by
  simp only[List.take_succ_cons,ZU]
  exact Xv (by simpa using h)
abbrev ckK:List CK:= [.fz,.fz,.fz,.fz,.fz,.fz,.fz,.fz,.fz,.fz,.fz,.fz,.fz,.fz,.fz,.fz,.fz,.fz,.fz,.fz,.fz,.own 80,.own 81]
@[simp] theorem Z53(s:Ck)(k:Int)(l:List Ob):(s.put k l).h=s.h:=by
 unfold Ck.put
 split
 ·rfl
 split
 ·rfl
 split<;>rfl
theorem RE{l:List (Int×Int)}{k x:Int}:RM (.i .u64) (mpA vi l) (vu k) (vi x)=some (mpA vi (putA l k x)):=JA
theorem Td{l:List (Int×(Int×Int))}{k a b:Int}:RM (.i .u64) (mpA shP l) (vu k) (.agg [vi a,vi b])=some (mpA shP (putA l k (a,b))):=JA (f:=shP) (x:=(a,b))
theorem Te{s:Ck}(hh:s.h.ok){k:Int}(hk:1≤k∧k≤4){l:List Ob}(hl:l.length≤1000000):VCM Try.prog 112 [.mem ckK,.fz,.fz] [.agg (ckL s),vi k,.sl (l.map obV)] (.tup [.tup [],.agg (ckL (Xc s k l))]):=by
 refine Qj Try.func112 follows (by kernel_rfl) c112 (by kernel_rfl) ?_
 have k4:k=1∨k=2∨k=3∨k=4:=by omega
 have hlim:l.length≤lim:=by unfold lim;omega
 have h0: ∀k,({s.put k l with pm:=s.pm,lm:=s.lm}:Ck)=s.put k l:=by
  intro k
  unfold Ck.put
  split
  ·rfl
  split
  ·rfl
  split<;>rfl
 have ka:=fun(k at_:Int)=>L5 hh.lay (part:=k) (at_:=at_)
 unfold layH lyV at ka
 rcases k4 with rfl|rfl|rfl|rfl
 ·simp[p112,ckL,aiV,Sk,Qz,S6,VG,Up,setCells]
  refine X7 3 l.length (fun i=> [(0,.m (ckL {s.put 1 l with pm:=Yz s.h 1 s.pm (l.take i),lm:=ZU s.h 1 s.lm (l.take i)})),(3,.v (vi i))]) (fun _=>True) (by simp[ckL,Ck.put,Yz,ZU]) (by simp) trivial ?_
  intro i hi _
  have hwi:=Z2 ((i:Int)+1) (by omega) (by omega)
  by_cases hlt:i<l.length
  ·have hx:l[i]? =some l[i]:=List.getElem?_eq_getElem hlt
   have e1:=Xp (h:=s.h) (k:=1) (m:=s.pm) hx
   have e2:=Xv (h:=s.h) (k:=1) (m:=s.lm) hx
   have ko:=ka 1 (l[i]).at_
   simp[hlt,hx,hwi,ckL,idxV]
   refine Z0 ko (by simp) ?_
   simp[RE,Td,e1,e2,hwi,hlt]
   first|done|rfl|exact⟨rfl,rfl⟩
  ·have:i=l.length:=by omega
   subst this
   simp[ckL,Xc,List.take_of_length_le]
 ·simp[p112,ckL,aiV,Sk,Qz,S6,VG,Up,setCells]
  refine X7 3 l.length (fun i=> [(0,.m (ckL {s.put 2 l with pm:=Yz s.h 2 s.pm (l.take i),lm:=ZU s.h 2 s.lm (l.take i)})),(3,.v (vi i))]) (fun _=>True) (by simp[ckL,Ck.put,Yz,ZU]) (by simp) trivial ?_
  intro i hi _
  have hwi:=Z2 ((i:Int)+1) (by omega) (by omega)
  by_cases hlt:i<l.length
  ·have hx:l[i]? =some l[i]:=List.getElem?_eq_getElem hlt
   have e1:=Xp (h:=s.h) (k:=2) (m:=s.pm) hx
   have e2:=Xv (h:=s.h) (k:=2) (m:=s.lm) hx
   have ko:=ka 2 (l[i]).at_
   simp[hlt,hx,hwi,ckL,idxV]
   refine Z0 ko (by simp) ?_
   simp[RE,Td,e1,e2,hwi,hlt]
   first|done|rfl|exact⟨rfl,rfl⟩
  ·have:i=l.length:=by omega
   subst this
   simp[ckL,Xc,List.take_of_length_le]
 ·simp[p112,ckL,aiV,Sk,Qz,S6,VG,Up,setCells]
  refine X7 3 l.length (fun i=> [(0,.m (ckL {s.put 3 l with pm:=Yz s.h 3 s.pm (l.take i),lm:=ZU s.h 3 s.lm (l.take i)})),(3,.v (vi i))]) (fun _=>True) (by simp[ckL,Ck.put,Yz,ZU]) (by simp) trivial ?_
  intro i hi _
  have hwi:=Z2 ((i:Int)+1) (by omega) (by omega)
  by_cases hlt:i<l.length
  ·have hx:l[i]? =some l[i]:=List.getElem?_eq_getElem hlt
   have e1:=Xp (h:=s.h) (k:=3) (m:=s.pm) hx
   have e2:=Xv (h:=s.h) (k:=3) (m:=s.lm) hx
   have ko:=ka 3 (l[i]).at_
   simp[hlt,hx,hwi,ckL,idxV]
   refine Z0 ko (by simp) ?_
   simp[RE,Td,e1,e2,hwi,hlt]
   first|done|rfl|exact⟨rfl,rfl⟩
  ·have:i=l.length:=by omega
   subst this
   simp[ckL,Xc,List.take_of_length_le]
 ·simp[p112,ckL,aiV,Sk,Qz,S6,VG,Up,setCells]
  refine X7 3 l.length (fun i=> [(0,.m (ckL {s.put 4 l with pm:=Yz s.h 4 s.pm (l.take i),lm:=ZU s.h 4 s.lm (l.take i)})),(3,.v (vi i))]) (fun _=>True) (by simp[ckL,Ck.put,Yz,ZU]) (by simp) trivial ?_
  intro i hi _
  have hwi:=Z2 ((i:Int)+1) (by omega) (by omega)
  by_cases hlt:i<l.length
  ·have hx:l[i]? =some l[i]:=List.getElem?_eq_getElem hlt
   have e1:=Xp (h:=s.h) (k:=4) (m:=s.pm) hx
   have e2:=Xv (h:=s.h) (k:=4) (m:=s.lm) hx
   have ko:=ka 4 (l[i]).at_
   simp[hlt,hx,hwi,ckL,idxV]
   refine Z0 ko (by simp) ?_
   simp[RE,Td,e1,e2,hwi,hlt]
   first|done|rfl|exact⟨rfl,rfl⟩
  ·have:i=l.length:=by omega
   subst this
   simp[ckL,Xc,List.take_of_length_le]
end Vm
namespace Vm
open Go Go.Proofs
set_option maxRecDepth 100000
set_option maxHeartbeats 1000000
def boxP(s:Ck):V:= .ptr [ckP s]
theorem KD{s:Ck}{a w:Int}(hw:U64 w):VC Try.prog 115 false [vi a,vu w,boxP s] (.bool (Zs s w 1 2)):=by
 refine Z7 Try.func115 follows (by kernel_rfl) c115 rfl ?_
 have k:=Wy (s:=s) (first:=1) (last:=2) hw
 unfold boxP ckP at*
 simp[p115,oneV,V.one]
 refine Z0 k (by simp) ?_
 simp
theorem K1{s:Ck}{a w:Int}(hw:U64 w):VC Try.prog 116 false [vi a,vu w,boxP s] (.bool (decide (s.h.scan≤a)||Zs s w 1 2)):=by
 refine Z7 Try.func116 follows (by kernel_rfl) c116 rfl ?_
 have k:=Wy (s:=s) (first:=1) (last:=2) hw
 unfold boxP ckP at*
 by_cases h:s.h.scan≤a
 ·simp[p116,oneV,V.one,ckL,h]
 ·simp[p116,oneV,V.one,ckL,h]
  refine Z0 k (by simp[ckL]) ?_
  simp[h]
theorem RF{s:Ck}{a w:Int}(hw:U64 w):VC Try.prog 117 false [vi a,vu w,boxP s] (.bool (decide (a<s.h.scan)||Zs s w 1 4)):=by
 refine Z7 Try.func117 follows (by kernel_rfl) c117 rfl ?_
 have k:=Wy (s:=s) (first:=1) (last:=4) hw
 unfold boxP ckP at*
 by_cases h:a<s.h.scan
 ·simp[p117,oneV,V.one,ckL,h]
 ·simp[p117,oneV,V.one,ckL,h]
  refine Z0 k (by simp[ckL]) ?_
  simp[h]
theorem KN{s:Ck}{a w:Int}(hw:U64 w):VC Try.prog 118 false [vi a,vu w,boxP s] (.bool (Zs s w 3 4)):=by
 refine Z7 Try.func118 follows (by kernel_rfl) c118 rfl ?_
 have k:=Wy (s:=s) (first:=3) (last:=4) hw
 unfold boxP ckP at*
 simp[p118,oneV,V.one]
 refine Z0 k (by simp) ?_
 simp
structure Ck.ok (s:Ck):Prop where
 h:s.h.ok
 ob: ∀k,∀o∈s.obs k,ObIn (Z8 s.h k).length o∧U64 o.target
 len: ∀k,(s.obs k).length≤1000000
def XE(ws:List Int)(k:Nat):Int:=(ws[k]?).getD 0
def obQ(s:Ck)(k:Int)(q:Int→Int→Bool)(o:Ob):Bool:=o.gone||(List.range o.ptrs.toNat).all fun j=>q ((o.at_.toNat+1+j:Nat):Int) (XE (Z8 s.h k) (o.at_.toNat+1+j))
def Wu(s:Ck)(k:Int)(q:Int→Int→Bool):Bool:=(s.obs k).all (obQ s k q)
theorem YW{s:Ck}(hs:s.ok){k:Int}(hk:1≤k∧k≤4){f:FuncId}{cs:List V}{q:Int→Int→Bool}(hq: ∀a w,U64 w→VC Try.prog f false ([vi a,vu w]++cs) (.bool (q a w))):
  VC Try.prog 114 false [ckP s,vi k,.clo f cs] (.bool (Wu s k q)):=by
 refine Z7 Try.func114 follows (by kernel_rfl) c114 rfl ?_
 simp[-List.all_eq_true,-List.all_eq_false,p114]
 refine Z0 (KG hk) (by simp) ?_
 have hpt:fldV (.agg [.sl (s.o1.map obV),.sl (s.o2.map obV),.sl (s.o3.map obV),.sl (s.o4.map obV)]) 0=some (.sl (s.o1.map obV)):=rfl
 have hlen:=hs.len k
 have hob:=hs.ob k
 have hw:=(Zw hs.h k).1
 have hpl:=(Zw hs.h k).2
 have hai:aiV (.agg [.sl (s.o1.map obV),.sl (s.o2.map obV),.sl (s.o3.map obV),.sl (s.o4.map obV)]) (.int .i64 (IntKind.i64.wrap (k-1))) 4 1 true=some (.agg [.sl ((s.obs k).map obV)]):=by
  have:k=1∨k=2∨k=3∨k=4:=by omega
  rcases this with rfl|rfl|rfl|rfl<;>simp[aiV,Ck.obs,Qz,S6,VG,Up]
 unfold Wu
 generalize hL:s.obs k=L at*
 generalize hW:Z8 s.h k=ws at*
 simp[-List.all_eq_true,-List.all_eq_false,ckP,ckL,hai]
 refine Wj 5 L.length (fun i=>(L.take i).all (obQ s k q)=true) (by simp) (by simp) (by simp) ?_
 intro i hi hall
 have hwi:=Z2 ((i:Int)+1) (by omega) (by omega)
 by_cases hlt:i<L.length
 ·have hx:L[i]? =some L[i]:=List.getElem?_eq_getElem hlt
  obtain⟨⟨⟨a,ha,hfit⟩,hsh⟩,_⟩:=hob _ (List.getElem_mem hlt)
  generalize L[i]=o at*
  obtain⟨s1,s2,s3,s4⟩:=Z4.1 hsh
  obtain⟨m,hm⟩:=Int.eq_ofNat_of_zero_le s3
  have hwa:=Z2 ((a:Int)+1) (by omega) (by omega)
  have hnext:obQ s k q o=true→(L.take (i+1)).all (obQ s k q)=true:=fun h=>by rw[KM hx,hall,h];rfl
  have hex:obQ s k q o=false→L.all (obQ s k q)=false:=fun hno=>yl hx hno
  cases hg:o.gone
  ·have hobp:obQ s k q o=(List.range m).all fun j=>q ((a+1+j:Nat):Int) (XE ws (a+1+j)):=by
    unfold obQ
    rw[hm,ha,hW,hg]
    rfl
   simp[-List.all_eq_true,-List.all_eq_false,hlt,hx,ZJ hx,idxV,hg,ha,hm]
   refine Wj 11 m (fun j=>((List.range j).all fun j=>q ((a+1+j:Nat):Int) (XE ws (a+1+j)))=true) (by simp) (by simp) (by simp) ?_
   intro j hj hal
   have hwj:=Z2 ((j:Int)+1) (by omega) (by omega)
   by_cases hjm:j<m
   ·obtain⟨w,hmw,hu⟩: ∃w,ws[a+1+j]? =some w∧U64 w:=⟨_,List.getElem?_eq_getElem (by omega),hw _ (List.getElem_mem _)⟩
    have hww:XE ws (a+1+j)=w:=by unfold XE;rw[hmw];rfl
    have hsucc:((List.range (j+1)).all fun j=>q ((a+1+j:Nat):Int) (XE ws (a+1+j)))=(((List.range j).all fun j=>q ((a+1+j:Nat):Int) (XE ws (a+1+j)))&&q ((a+1+j:Nat):Int) w):=by
     rw[List.range_succ,List.all_append];simp[hww]
    have hno:q ((a+1+j:Nat):Int) w=false→L.all (obQ s k q)=false:=fun hno=>hex (by
     rw[hobp]
     exact yl (List.getElem?_range hjm) (by rw[hww];exact hno))
    obtain⟨n,hn⟩: ∃n,a+1+j=n:=⟨_,rfl⟩
    have hn1:(a:Int)+1+(j:Int)=(n:Int):=by omega
    have hwn:=Z2 (n:Int) (by omega) (by omega)
    rw[hn]at hmw hsucc hno
    have kq:=hq (n:Int) w hu
    simp[-List.all_eq_true,-List.all_eq_false,hjm,hwa,hn1,hwn,hmw,ZJ hmw,idxV]
    refine Z0 kq (by simp) ?_
    cases hv:q (n:Int) w
    ·simp[-List.all_eq_true,-List.all_eq_false,hno hv]
    ·rw[hv]at hsucc
     rw[hal]at hsucc
     simp[-List.all_eq_true,-List.all_eq_false,hwj,hjm]
     simpa[-List.all_eq_true,-List.all_eq_false]using hsucc
   ·have:j=m:=by omega
    subst this
    simp[-List.all_eq_true,-List.all_eq_false,hwi,hlt,hnext (by rw[hobp];exact hal)]
  ·have hobp:obQ s k q o=true:=by unfold obQ;rw[hg];rfl
   simp[-List.all_eq_true,-List.all_eq_false,hlt,hx,ZJ hx,idxV,hg,ha,hm,hwi,hnext hobp]
 ·have:i=L.length:=by omega
  subst this
  rw[List.take_length]at hall
  simp[-List.all_eq_true,-List.all_eq_false,hall]
@[simp] theorem Z4r(l:List V):(V.ptr l).one=true:=rfl
@[simp] theorem Z46(l:List V):oneV (.ptr l)=some (.ptr l):=rfl
@[simp] theorem Z4t(f:FuncId)(l:List V):(V.clo f l).one=true:=rfl
@[simp] theorem Z3U(f:FuncId)(l:List V):oneV (.clo f l)=some (.clo f l):=rfl
@[simp] theorem Z3H(s:Ck):oneV (ckP s)=some (ckP s):=rfl
@[simp] theorem Z5b(s:Ck):(ckP s).one=true:=rfl
@[simp] theorem Z3p(s:Ck):TR (ckP s)=some (.agg (ckL s)):=rfl
@[simp] theorem Z4c(s:Ck):(ckL s)[4]? =some (vi s.h.scan):=rfl
@[simp] theorem Z2O(s:Ck):(ckL s)[3]? =some (.bool s.h.cycle):=rfl
@[simp] theorem Z2t(s:Ck):(ckL s)[9]? =some (.sl (s.h.roots.map vu)):=rfl
@[simp] theorem Z4R(s:Ck):(ckL s)[5]? =some (.sl (s.h.low.map vu)):=rfl
@[simp] theorem Z3K(s:Ck):(ckL s)[6]? =some (.sl (s.h.high.map vu)):=rfl
@[simp] theorem Z5d(s:Ck):(ckL s)[7]? =some (.sl (s.h.old.map vu)):=rfl
@[simp] theorem Z4O(s:Ck):(ckL s)[8]? =some (.sl (s.h.far.map vu)):=rfl
@[simp] theorem Z4B(s:Ck):(ckL s)[1]? =some (vi s.h.cap):=rfl
def Xz(s:Ck):Bool:=s.h.roots.all (fun w=>Zs s w 1 2)&&(Wu s 2 (fun _ w=>Zs s w 1 2)&&Wu s 1 (fun a w=>decide (s.h.scan≤a)||Zs s w 1 2))
theorem zB{s:Ck}(hs:s.ok):VC Try.prog 99 false [ckP s] (.bool (Xz s)):=by
 refine Z7 Try.func99 follows (by kernel_rfl) c99 rfl ?_
 have k1:=YW hs (k:=2) (by omega) (f:=115) (cs:= [boxP s]) (q:=fun _ w=>Zs s w 1 2) (fun a w hw=>KD hw)
 have k2:=YW hs (k:=1) (by omega) (f:=116) (cs:= [boxP s]) (q:=fun a w=>decide (s.h.scan≤a)||Zs s w 1 2) (fun a w hw=>K1 hw)
 have k0:=fun w (hw:U64 w)=>Wy (s:=s) (first:=1) (last:=2) hw
 have hrl:=hs.h.roots
 have hrw:=hs.h.rootsW
 unfold Xz
 unfold boxP at k1 k2
 generalize Wu s 2 (fun _ w=>Zs s w 1 2)=b1 at*
 generalize Wu s 1 (fun a w=>decide (s.h.scan≤a)||Zs s w 1 2)=b2 at*
 simp[-List.all_eq_true,-List.all_eq_false,p99]
 refine Wj 3 s.h.roots.length (fun i=>(s.h.roots.take i).all (fun w=>Zs s w 1 2)=true) (by simp) (by simp) (by simp) ?_
 intro i hi hall
 have hwi:=Z2 ((i:Int)+1) (by omega) (by omega)
 by_cases hlt:i<s.h.roots.length
 ·have hx:s.h.roots[i]? =some s.h.roots[i]:=List.getElem?_eq_getElem hlt
  have hu:=hrw _ (List.getElem_mem hlt)
  generalize s.h.roots[i]=w at*
  have hex:Zs s w 1 2=false→s.h.roots.all (fun w=>Zs s w 1 2)=false:=fun hno=>yl hx hno
  have hnext:=KM (q:=fun w=>Zs s w 1 2) hx
  rw[hall]at hnext
  simp[-List.all_eq_true,-List.all_eq_false,hlt,hx,ZJ hx,idxV]
  refine Z0 (k0 w hu) (by simp) ?_
  cases hv:Zs s w 1 2
  ·simp[-List.all_eq_true,-List.all_eq_false,hex hv]
  ·rw[hv]at hnext
   simp[-List.all_eq_true,-List.all_eq_false,hwi,hlt,hnext]
 ·have:i=s.h.roots.length:=by omega
  subst this
  rw[List.take_length]at hall
  simp[-List.all_eq_true,-List.all_eq_false,hall]
  refine Z0 k1 (by simp[flV,V.flatc]) ?_
  cases b1
  ·simp
  ·simp
   refine Z0 k2 (by simp[flV,V.flatc]) ?_
   simp
def Yx(s:Ck):Bool:=Wu s 1 (fun a w=>decide (a<s.h.scan)||Zs s w 1 4)
theorem Qs{s:Ck}(hs:s.ok):VC Try.prog 100 false [ckP s] (.bool (Yx s)):=by
 refine Z7 Try.func100 follows (by kernel_rfl) c100 rfl ?_
 have k1:=YW hs (k:=1) (by omega) (f:=117) (cs:= [boxP s]) (q:=fun a w=>decide (a<s.h.scan)||Zs s w 1 4) (fun a w hw=>RF hw)
 unfold Yx
 unfold boxP at k1
 simp[p100]
 refine Z0 k1 (by simp[flV,V.flatc]) ?_
 simp
def Jb(s:Ck):Bool:=Wu s 3 (fun _ w=>Zs s w 3 4)&&Wu s 4 (fun _ w=>Zs s w 3 4)
theorem Z1k{s:Ck}(hs:s.ok):VC Try.prog 101 false [ckP s] (.bool (Jb s)):=by
 refine Z7 Try.func101 follows (by kernel_rfl) c101 rfl ?_
 have k1:=YW hs (k:=3) (by omega) (f:=118) (cs:= [boxP s]) (q:=fun _ w=>Zs s w 3 4) (fun a w hw=>KN hw)
 have k2:=YW hs (k:=4) (by omega) (f:=118) (cs:= [boxP s]) (q:=fun _ w=>Zs s w 3 4) (fun a w hw=>KN hw)
 unfold Jb
 unfold boxP at k1 k2
 generalize Wu s 3 (fun _ w=>Zs s w 3 4)=b1 at*
 generalize Wu s 4 (fun _ w=>Zs s w 3 4)=b2 at*
 simp[p101]
 refine Z0 k1 (by simp[flV,V.flatc]) ?_
 cases b1
 ·simp
 ·simp
  refine Z0 k2 (by simp[flV,V.flatc]) ?_
  simp
end Vm
namespace Vm
open Go Go.Proofs
set_option maxRecDepth 100000
set_option maxHeartbeats 1000000
def XA(s:Ck):Bool:=Za (layH s.h)&&(decide (s.h.roots.length≤16)&&(decide (0≤s.h.scan)&&decide (s.h.scan≤s.h.low.length)))
theorem zq{s:Ck}(hs:s.h.ok):VC Try.prog 95 false [ckP s] (.bool (XA s)):=by
 refine Z7 Try.func95 follows (by kernel_rfl) c95 rfl ?_
 have k:=Ww hs.lay
 unfold XA
 unfold layH lyV at k
 simp[p95]
 simp[ckL]
 refine Z0 k (by simp) ?_
 have e:Za {base:=s.h.base,cap:=s.h.cap,to:=s.h.to,low:=(s.h.low.length:Int),high:=(s.h.high.length:Int),old:=(s.h.old.length:Int),far:=(s.h.far.length:Int)}=Za (layH s.h):=rfl
 rw[e]
 cases Za (layH s.h)
 ·simp
 by_cases h1:s.h.roots.length≤16
 ·have h1':(s.h.roots.length:Int)≤16:=by omega
  by_cases h2:0≤s.h.scan<;>by_cases h3:s.h.scan≤s.h.low.length<;>simp[h1,h1',h2,h3]
 ·have h1': ¬(s.h.roots.length:Int)≤16:=by omega
  simp[h1,h1']
def Wg(s:Ck):Bool:=if s.h.cycle then decide (s.h.scan<s.h.low.length)else decide (s.h.old.length=0)&&(decide (s.h.far.length=0)&&decide (s.h.scan=s.h.low.length))
theorem zp{s:Ck}:VC Try.prog 96 false [ckP s] (.bool (Wg s)):=by
 refine Z7 Try.func96 follows (by kernel_rfl) c96 rfl ?_
 unfold Wg
 cases hc:s.h.cycle
 ·by_cases h1:s.h.old.length=0
  ·have h1':s.h.old= []:=List.length_eq_zero_iff.1 h1
   by_cases h2:s.h.far.length=0
   ·have h2':s.h.far= []:=List.length_eq_zero_iff.1 h2
    simp[p96,hc,h1',h2']
   ·have h2': ¬s.h.far= []:=fun e=>h2 (by simp[e])
    simp[p96,hc,h1',h2,h2']
  ·have h1': ¬s.h.old= []:=fun e=>h1 (by simp[e])
   simp[p96,hc,h1,h1']
 ·simp[p96,hc]
def Ry(s:Ck):Nat:=wtL s.o3+wtL s.o4
@[simp] theorem Z5G(s:Ck):((ckL s).drop 17).take 4= [.sl (s.o1.map obV),.sl (s.o2.map obV),.sl (s.o3.map obV),.sl (s.o4.map obV)]:=rfl
@[simp] theorem Z52(s:Ck):(ckL s).length=23:=rfl
theorem Ts{s:Ck}(hs:s.ok):VC Try.prog 44 false [ckP s] (vi (Ry s)):=by
 refine Z7 Try.func44 follows (by kernel_rfl) c44 rfl ?_
 have hsh: ∀k,∀o∈s.obs k,Zl o.size o.ptrs=true:=fun k o ho=>(hs.ob k o ho).1.2
 have hl3:s.o3.length≤1000000:=hs.len 3
 have hl4:s.o4.length≤1000000:=hs.len 4
 have hs3: ∀o∈s.o3,Zl o.size o.ptrs=true:=hsh 3
 have hs4: ∀o∈s.o4,Zl o.size o.ptrs=true:=hsh 4
 have hb3:=SI hs3
 have hb4:=SI hs4
 have a3:aiV (.agg [.sl (s.o1.map obV),.sl (s.o2.map obV),.sl (s.o3.map obV),.sl (s.o4.map obV)]) (.int .i64 2) 4 1 true=some (.agg [.sl (s.o3.map obV)]):=by simp[aiV]
 have a4:aiV (.agg [.sl (s.o1.map obV),.sl (s.o2.map obV),.sl (s.o3.map obV),.sl (s.o4.map obV)]) (.int .i64 3) 4 1 true=some (.agg [.sl (s.o4.map obV)]):=by simp[aiV]
 simp[p44]
 refine YI (fun(i:Nat)=> [(2,.v (vi ((if 0<i then wtL s.o3 else 0)+(if 1<i then wtL s.o4 else 0):Nat))),(3,.v (vi ((i+3:Nat):Int)))]) (fun i=>i≤2) (cnt 3 5) 0 (by simp) (by simp) ?_
 rintro i hi
 have hi':i=0∨i=1∨i=2:=by omega
 rcases hi' with rfl|rfl|rfl
 ·simp[VG,a3]
  refine X7 5 s.o3.length (fun j=> [(2,.v (vi (wtL (s.o3.take j)))),(5,.v (vi j))]) (fun _=>True) (by simp[wtL]) (fun i=>by simp) trivial ?_
  rintro j hj-
  have hwj:=Z2 ((j:Int)+1) (by omega) (by omega)
  by_cases h1:j<s.o3.length
  ·have hx:s.o3[j]? =some s.o3[j]:=List.getElem?_eq_getElem h1
   have hsx:=hs3 _ (List.getElem_mem h1)
   have hsc:=L7 hx
   generalize s.o3[j]=o at*
   have hle:wtL (s.o3.take j)≤256*s.o3.length:=by
    refine Nat.le_trans (SI fun o ho=>hs3 o (List.mem_of_mem_take ho)) ?_
    simp;omega
   obtain⟨g1,g2,g3,g4⟩:=Z4.1 hsx
   obtain⟨z,hz⟩:=Int.eq_ofNat_of_zero_le g1
   have w1:=Z2 (1+(z:Int)) (by omega) (by omega)
   have w2:=Z2 ((wtL (s.o3.take j):Int)+(1+z)) (by omega) (by omega)
   cases hg:o.gone
   ·have hwo:wtO o=1+z:=by simp[wtO,hg,hz]
    simp[idxV,h1,hx,ZJ hx,hg,hz,w1,w2,hwj,hsc,hwo]
   ·have hwo:wtO o=0:=by simp[wtO,hg]
    simp[idxV,h1,hx,ZJ hx,hg,hwj,hsc,hwo]
  ·have:j=s.o3.length:=by omega
   subst this
   rw[List.take_length]
   simp[idxV,Z2]
   exact⟨1,by omega,by simp,by simp[cnt]⟩
 ·simp[Up,a4]
  refine X7 5 s.o4.length (fun j=> [(2,.v (vi (wtL s.o3+wtL (s.o4.take j):Nat))),(5,.v (vi j))]) (fun _=>True) (by simp[wtL]) (fun i=>by simp) trivial ?_
  rintro j hj-
  have hwj:=Z2 ((j:Int)+1) (by omega) (by omega)
  by_cases h1:j<s.o4.length
  ·have hx:s.o4[j]? =some s.o4[j]:=List.getElem?_eq_getElem h1
   have hsx:=hs4 _ (List.getElem_mem h1)
   have hsc:=L7 hx
   generalize s.o4[j]=o at*
   have hle:wtL (s.o4.take j)≤256*s.o4.length:=by
    refine Nat.le_trans (SI fun o ho=>hs4 o (List.mem_of_mem_take ho)) ?_
    simp;omega
   obtain⟨g1,g2,g3,g4⟩:=Z4.1 hsx
   obtain⟨z,hz⟩:=Int.eq_ofNat_of_zero_le g1
   have w1:=Z2 (1+(z:Int)) (by omega) (by omega)
   have w2:=Z2 ((wtL s.o3:Int)+wtL (s.o4.take j)+(1+z)) (by omega) (by omega)
   cases hg:o.gone
   ·have hwo:wtO o=1+z:=by simp[wtO,hg,hz]
    simp[idxV,h1,hx,ZJ hx,hg,hz,w1,w2,hwj,hsc,hwo]
    omega
   ·have hwo:wtO o=0:=by simp[wtO,hg]
    simp[idxV,h1,hx,ZJ hx,hg,hwj,hsc,hwo]
  ·have:j=s.o4.length:=by omega
   subst this
   rw[List.take_length]
   simp[idxV,Z2]
   exact⟨2,by omega,by simp,by simp[cnt]⟩
 ·simp[Ry]
def UH(s:Ck):Bool:=decide ((s.h.low.length:Int)+s.h.high.length+Ry s≤s.h.cap)
theorem j7{s:Ck}(hs:s.ok):Ry s≤512*1000000:=by
 have hb3:=SI (l:=s.o3) fun o ho=>(hs.ob 3 o ho).1.2
 have hb4:=SI (l:=s.o4) fun o ho=>(hs.ob 4 o ho).1.2
 have hl3:s.o3.length≤1000000:=hs.len 3
 have hl4:s.o4.length≤1000000:=hs.len 4
 unfold Ry
 omega
theorem jO{s:Ck}(hs:s.ok):VC Try.prog 102 false [ckP s] (.bool (UH s)):=by
 refine Z7 Try.func102 follows (by kernel_rfl) c102 rfl ?_
 have h1:=j7 hs
 have h2:=hs.h.low
 have h3:=hs.h.high
 have w1:=Z2 ((s.h.low.length:Int)+s.h.high.length) (by omega) (by omega)
 have w2:=Z2 ((s.h.low.length:Int)+s.h.high.length+Ry s) (by omega) (by omega)
 simp[p102]
 refine Z0 (Ts hs) (by simp) ?_
 simp[w1,w2,UH]
end Vm
namespace Vm
open Go Go.Proofs
set_option maxRecDepth 100000
set_option maxHeartbeats 1000000
def Yb(lm:List (Int×(Int×Int)))(ws:List Int):Nat→Nat→List (Int×Int)→List (Int×Int)
 |0,_,acc=>acc
 |f+1,i,acc=>
  match ws[i]? with
  |none=>acc
  |some w=>if(adr w).2=0 then(match getA lm (adr w).1 with|none=>acc|some sh=>Yb lm ws f (i+1+sh.1.toNat) (acc++ [sh]))
   else if(unpk w).2.2=0 then Yb lm ws f (i+1+(unpk w).1.toNat) acc else acc
def YH(lm:List (Int×(Int×Int)))(ws:List Int):List (Int×Int):=Yb lm ws (ws.length+1) 0 []
theorem Lr{α:Type}{l:List (Int×α)}{k:Int}{x:α}(h:getA l k=some x):(k,x)∈l:=by
 unfold getA at h
 obtain⟨y,hy,rfl⟩:=Option.map_eq_some_iff.1 h
 have h1:=List.mem_of_find?_eq_some hy
 have h2:=List.find?_some hy
 have:y.1=k:=by simpa using h2
 rw[←this]
 exact h1
theorem za{s:Ck}(hlm: ∀x∈s.lm,Zl x.2.1 x.2.2=true){ws:List Int}(hl:ws.length≤1000000)(hw: ∀w∈ws,U64 w):
  VC Try.prog 111 false [ckP s,.sl (ws.map vu)] (.sl ((YH s.lm ws).map shP)):=by
 refine Z7 Try.func111 follows (by kernel_rfl) c111 rfl ?_
 have hlk: ∀k,lkV (.i .u64) (mpA shP s.lm) (vu k) (.agg [vi 0,vi 0]) true=match getA s.lm k with
  |some x=>some (.tup [shP x,.bool true])
  |none=>some (.tup [.agg [vi 0,vi 0],.bool false]):=fun k=>by rw[jC];cases getA s.lm k<;>simp
 have h22:(ckL s)[22]? =some (mpA shP s.lm):=rfl
 simp[p111]
 refine YI (fun(p:Nat×List (Int×Int))=> [(3,.v (.sl (p.2.map shP))),(4,.v (vi p.1))])
  (fun p=>p.1≤ws.length+256∧p.2.length≤p.1∧ ∃f,ws.length<f+p.1∧0<f∧YH s.lm ws=Yb s.lm ws f p.1 p.2) (cnt 4 ws.length) (0,[]) (by simp) ⟨by simp,by simp,ws.length+1,by simp,by omega,rfl⟩ ?_
 rintro⟨i,acc⟩ ⟨hi,hacc,f,hf,hf0,hR⟩
 simp only at hi hacc hf hR
 cases f with
 |zero=>omega
 |succ f=>
 by_cases hlt:i<ws.length
 ·have hx:ws[i]? =some ws[i]:=List.getElem?_eq_getElem hlt
  have hu:=hw _ (List.getElem_mem hlt)
  generalize ws[i]=w at*
  simp only[Yb,hx]at hR
  have hlim:acc.length+1≤lim:=by simp[lim];omega
  simp[hlt,hx,ZJ hx,idxV]
  refine Z0 (Lp hu) (by simp) ?_
  by_cases ha:(adr w).2=0
  ·rw[if_pos ha]at hR
   simp[ha,h22,hlk]
   cases hat:getA s.lm (adr w).1 with
   |none=>
    rw[hat]at hR
    simp only at hR
    rw[hR]
    simp
   |some sh=>
    rw[hat]at hR
    simp only at hR
    have hsh:0≤sh.1∧sh.1≤255∧0≤sh.2∧sh.2≤sh.1:=Z4.1 (hlm _ (Lr hat))
    obtain⟨z,hz⟩:=Int.eq_ofNat_of_zero_le hsh.1
    have hw1:=Z2 (1+(z:Int)) (by omega) (by omega)
    have hw2:=Z2 ((i:Int)+(1+z)) (by omega) (by omega)
    rw[hz,Int.toNat_natCast]at hR
    simp[hlim,hz,hw1,hw2]
    refine⟨i+1+z,acc++ [sh],⟨by omega,by simp;omega,f,by omega,?_,hR⟩,⟨by simp[shP,hz],by omega⟩,by simp[cnt];omega⟩
    omega
  ·rw[if_neg ha]at hR
   simp[ha,hx,ZJ hx,hlt,idxV]
   refine Z0 (yt hu) (by simp) ?_
   by_cases hun:(unpk w).2.2=0
   ·rw[if_pos hun]at hR
    have hsh:=Z4.1 (Rj hun)
    obtain⟨z,hz⟩:=Int.eq_ofNat_of_zero_le hsh.1
    have hw1:=Z2 (1+(z:Int)) (by omega) (by omega)
    have hw2:=Z2 ((i:Int)+(1+z)) (by omega) (by omega)
    rw[hz,Int.toNat_natCast]at hR
    simp[hun,hz,hw1,hw2]
    refine⟨i+1+z,acc,⟨by omega,by omega,f,by omega,?_,hR⟩,⟨rfl,by omega⟩,by simp[cnt];omega⟩
    omega
   ·rw[if_neg hun]at hR
    rw[hR]
    simp[hun]
 ·have hx:ws[i]? =none:=List.getElem?_eq_none (by omega)
  simp only[Yb,hx]at hR
  rw[hR]
  have: ¬((i:Int) <ws.length):=by omega
  simp[hlt,this]
end Vm
namespace Vm
open Go Go.Proofs
set_option maxRecDepth 100000
set_option maxHeartbeats 1000000
def copQ(pm:List (Int×Int)):List Ob→List (Int×Bool)→Option (List (Int×Bool))
 | [],m=>some m
 |o::l,m=>if o.gone=true then(if(getA pm o.target).getD 0=1∧(getA m o.target).getD false=false then copQ pm l (putA m o.target true)else none)else copQ pm l m
def XF(s:Ck):Bool:= !s.h.cycle||match(copQ s.pm s.o3 []).bind (copQ s.pm s.o4)with
 |none=>false
 |some m=>decide (m.length=s.o1.length)
theorem qu{l:List (Int×Bool)}{k:Int}{x:Bool}:RM (.i .u64) (mpA .bool l) (vu k) (.bool x)=some (mpA .bool (putA l k x)):=JA
theorem zo{l:List (Int×Bool)}{k:Int}:lkV (.i .u64) (mpA .bool l) (vu k) (.bool false) false=some (.bool ((getA l k).getD false)):=by
 rw[jC];cases getA l k<;>simp
theorem zn{l:List (Int×Int)}{k:Int}:lkV (.i .u64) (mpA vi l) (vu k) (vi 0) false=some (vi ((getA l k).getD 0)):=by
 rw[jC];cases getA l k<;>simp
theorem zV{α:Type}(f:α→V):mpA f []= .mp 0 [] []:=rfl
theorem LT{s:Ck}(hs:s.ok):VC Try.prog 98 false [ckP s] (.bool (XF s)):=by
 refine Z7 Try.func98 follows (by kernel_rfl) c98 rfl ?_
 have hl3:s.o3.length≤1000000:=hs.len 3
 have hl4:s.o4.length≤1000000:=hs.len 4
 have hu3: ∀o∈s.o3,U64 o.target:=fun o ho=>(hs.ob 3 o ho).2
 have hu4: ∀o∈s.o4,U64 o.target:=fun o ho=>(hs.ob 4 o ho).2
 have a3:aiV (.agg [.sl (s.o1.map obV),.sl (s.o2.map obV),.sl (s.o3.map obV),.sl (s.o4.map obV)]) (.int .i64 2) 4 1 true=some (.agg [.sl (s.o3.map obV)]):=by simp[aiV]
 have a4:aiV (.agg [.sl (s.o1.map obV),.sl (s.o2.map obV),.sl (s.o3.map obV),.sl (s.o4.map obV)]) (.int .i64 3) 4 1 true=some (.agg [.sl (s.o4.map obV)]):=by simp[aiV]
 have a1:aiV (.agg [.sl (s.o1.map obV),.sl (s.o2.map obV),.sl (s.o3.map obV),.sl (s.o4.map obV)]) (.int .i64 0) 4 1 true=some (.agg [.sl (s.o1.map obV)]):=by simp[aiV]
 have h21:(ckL s)[21]? =some (mpA vi s.pm):=rfl
 have hm0:=(zV V.bool).symm
 unfold XF
 cases hc:s.h.cycle
 ·simp[p98,hc]
 simp[p98,hc,hm0]
 refine YI (fun(p:Nat×List (Int×Bool))=> [(3,.v (mpA .bool p.2)),(4,.v (vi ((p.1+3:Nat):Int)))])
  (fun p=>(p.1=0∧p.2= [])∨(p.1=1∧copQ s.pm s.o3 []=some p.2)∨(p.1=2∧(copQ s.pm s.o3 []).bind (copQ s.pm s.o4)=some p.2)) (cnt 4 5) (0,[]) (by simp) (by simp) ?_
 rintro⟨i,m⟩ (⟨rfl,rfl⟩ | ⟨rfl,hm⟩ | ⟨rfl,hm⟩)
 ·simp[VG,a3]
  refine YI (fun(p:Nat×List (Int×Bool))=> [(3,.v (mpA .bool p.2)),(6,.v (vi p.1))]) (fun p=>p.1≤s.o3.length∧copQ s.pm s.o3 []=copQ s.pm (s.o3.drop p.1) p.2) (cnt 6 s.o3.length) (0,[]) (by simp) (by simp) ?_
  rintro⟨j,mj⟩ ⟨hj,he⟩
  simp only at hj he
  have hwj:=Z2 ((j:Int)+1) (by omega) (by omega)
  by_cases h1:j<s.o3.length
  ·have hx:s.o3[j]? =some s.o3[j]:=List.getElem?_eq_getElem h1
   have hd:=List.drop_eq_getElem_cons h1
   have hut:=hu3 _ (List.getElem_mem h1)
   generalize s.o3[j]=o at*
   rw[hd,copQ]at he
   cases hg:o.gone
   ·rw[hg]at he
    rw[if_neg (by simp)]at he
    simp[idxV,h1,hx,ZJ hx,hg,hwj]
    exact⟨j+1,mj,⟨by omega,he⟩,⟨rfl,by omega⟩,by simp[cnt];omega⟩
   ·rw[hg]at he
    rw[if_pos rfl]at he
    by_cases h2:(getA s.pm o.target).getD 0=1
    ·cases h3:(getA mj o.target).getD false
     ·rw[if_pos ⟨h2,h3⟩]at he
      simp[idxV,h1,hx,ZJ hx,hg,hwj,h21,zn,zo,flV,V.flatc,h2,h3,qu]
      exact⟨j+1,putA mj o.target true,⟨by omega,he⟩,⟨rfl,by omega⟩,by simp[cnt];omega⟩
     ·rw[if_neg (by simp[h3])]at he
      simp[idxV,h1,hx,ZJ hx,hg,hwj,h21,zn,zo,flV,V.flatc,h2,h3,he]
    ·rw[if_neg (by simp[h2])]at he
     simp[idxV,h1,hx,ZJ hx,hg,hwj,h21,zn,zo,flV,V.flatc,h2,he]
  ·have:j=s.o3.length:=by omega
   subst this
   rw[List.drop_length,copQ]at he
   simp[Z2]
   exact⟨1,mj,by simp[he],by simp,by simp[cnt]⟩
 ·simp[Up,a4]
  refine YI (fun(p:Nat×List (Int×Bool))=> [(3,.v (mpA .bool p.2)),(6,.v (vi p.1))]) (fun p=>p.1≤s.o4.length∧copQ s.pm s.o4 m=copQ s.pm (s.o4.drop p.1) p.2) (cnt 6 s.o4.length) (0,m) (by simp) (by simp) ?_
  rintro⟨j,mj⟩ ⟨hj,he⟩
  simp only at hj he
  have hwj:=Z2 ((j:Int)+1) (by omega) (by omega)
  by_cases h1:j<s.o4.length
  ·have hx:s.o4[j]? =some s.o4[j]:=List.getElem?_eq_getElem h1
   have hd:=List.drop_eq_getElem_cons h1
   have hut:=hu4 _ (List.getElem_mem h1)
   generalize s.o4[j]=o at*
   rw[hd,copQ]at he
   cases hg:o.gone
   ·rw[hg]at he
    rw[if_neg (by simp)]at he
    simp[idxV,h1,hx,ZJ hx,hg,hwj]
    exact⟨j+1,mj,⟨by omega,he⟩,⟨rfl,by omega⟩,by simp[cnt];omega⟩
   ·rw[hg]at he
    rw[if_pos rfl]at he
    by_cases h2:(getA s.pm o.target).getD 0=1
    ·cases h3:(getA mj o.target).getD false
     ·rw[if_pos ⟨h2,h3⟩]at he
      simp[idxV,h1,hx,ZJ hx,hg,hwj,h21,zn,zo,flV,V.flatc,h2,h3,qu]
      exact⟨j+1,putA mj o.target true,⟨by omega,he⟩,⟨rfl,by omega⟩,by simp[cnt];omega⟩
     ·rw[if_neg (by simp[h3])]at he
      simp[idxV,h1,hx,ZJ hx,hg,hwj,h21,zn,zo,flV,V.flatc,h2,h3,hm,he]
    ·rw[if_neg (by simp[h2])]at he
     simp[idxV,h1,hx,ZJ hx,hg,hwj,h21,zn,zo,flV,V.flatc,h2,hm,he]
  ·have:j=s.o4.length:=by omega
   subst this
   rw[List.drop_length,copQ]at he
   simp[Z2]
   exact⟨2,mj,by simp[hm,he],by simp,by simp[cnt]⟩
 ·simp[Qz,VG,a1]
  rw[hm]
  simp
  omega
end Vm
namespace Vm
open Go Go.Proofs
set_option maxRecDepth 100000
set_option maxHeartbeats 1000000
def TM:Prop:= ∀ws:List Int,ws.length≤1000000→(∀w∈ws,U64 w)→VC Try.prog 108 true [.sl (ws.map vu)] (.tup [.sl ((Zo ws [] false).1.map obV),vi (Zo ws [] false).2])
def Xl:Prop:= ∀(ws:List Int) (shs:List (Int×Int)),ws.length≤1000000→shs.length≤1000000→(∀w∈ws,U64 w)→(∀x∈shs,Zl x.1 x.2=true)→
 VC Try.prog 110 true [.sl (ws.map vu),.sl (shs.map shP)] (.tup [.sl ((Zo ws shs true).1.map obV),vi (Zo ws shs true).2])
def Zt(s:Ck)(k:Int):List Ob×Int:=if k≤2 then Zo (Z8 s.h k) [] false else Zo (Z8 s.h k) (YH s.lm (Z8 s.h k)) true
def Yd:List Int→Ck→Bool×Ck
 | [],s=>(true,s)
 |k::l,s=>if(Zt s k).2=0 then Yd l (Xc s k (Zt s k).1)else(false,s)
def ZR(s:Ck):Bool×Ck:=Yd [1,2,3,4] s
theorem Vy(s:Ck)(k:Int)(l:List Ob):(Xc s k l).h=s.h:=Z53 s k l
theorem Z03{α:Type}{l:List (Int×α)}{k:Int}{x:α}{y:Int×α}(h:y∈putA l k x):y=(k,x)∨y∈l:=by
 unfold putA at h
 split at h
 ·rcases List.mem_or_eq_of_mem_set h with h|h
  ·exact .inr h
  ·exact .inl h
 ·rcases List.mem_append.1 h with h|h
  ·exact .inr h
  ·simp at h;exact .inl h
theorem W5{h:Hp}{k:Int}: ∀ {l:List Ob} {m:List (Int×(Int×Int))},(∀o∈l,Zl o.size o.ptrs=true)→(∀x∈m,Zl x.2.1 x.2.2=true)→ ∀x∈ZU h k m l,Zl x.2.1 x.2.2=true
 | [],m,_,hm=>hm
 |o::l,m,ho,hm=>by
  rw[ZU]
  refine W5 (fun p hp=>ho p (List.mem_cons_of_mem _ hp)) ?_
  split
  ·intro x hx
   rcases Z03 hx with rfl|hx
   ·exact ho o (.head _)
   ·exact hm x hx
  ·exact hm
theorem Xw{s:Ck}(hh:s.h.ok){k:Int}:(∀o∈(Zt s k).1,ObIn (Z8 s.h k).length o∧U64 o.target)∧(Zt s k).1.length≤(Z8 s.h k).length:=by
 unfold Zt
 split
 ·exact⟨V8 (Zw hh k).1,XV⟩
 ·exact⟨V8 (Zw hh k).1,XV⟩
theorem Vp{lm:List (Int×(Int×Int))}{ws:List Int}: ∀ {f i:Nat} {acc:List (Int×Int)},acc.length≤i→acc.length≤ws.length→(Yb lm ws f i acc).length≤ws.length
 |0,i,acc,_,h=>h
 |f+1,i,acc,hi,h=>by
  rw[Yb]
  cases hx:ws[i]? with
  |none=>exact h
  |some w=>
   have hlt:i<ws.length:=(List.getElem?_eq_some_iff.1 hx).1
   simp only
   split
   ·split
    ·exact h
    ·exact Vp (by simp;omega) (by simp;omega)
   ·split
    ·exact Vp (by omega) h
    ·exact h
theorem S5{lm:List (Int×(Int×Int))}{ws:List Int}:(YH lm ws).length≤ws.length:=Vp (by simp) (by simp)
theorem V1{lm:List (Int×(Int×Int))}{ws:List Int}(hlm: ∀x∈lm,Zl x.2.1 x.2.2=true): ∀ {f i:Nat} {acc:List (Int×Int)},(∀x∈acc,Zl x.1 x.2=true)→ ∀x∈Yb lm ws f i acc,Zl x.1 x.2=true
 |0,i,acc,h=>h
 |f+1,i,acc,h=>by
  rw[Yb]
  cases hx:ws[i]? with
  |none=>exact h
  |some w=>
   simp only
   split
   ·split
    ·exact h
    ·rename_i sh hsh
     refine V1 hlm ?_
     intro x hx
     rcases List.mem_append.1 hx with hx|hx
     ·exact h x hx
     ·simp at hx;subst hx;exact hlm _ (Lr hsh)
   ·split
    ·exact V1 hlm h
    ·exact h
theorem jc:IntKind.i64.wrap 4=4:=by decide
theorem zF(hW:TM)(hWO:Xl){s:Ck}(hh:s.h.ok)(hlm: ∀x∈s.lm,Zl x.2.1 x.2.2=true):VCM Try.prog 97 [.mem ckK] [.agg (ckL s)] (.tup [.bool (ZR s).1,.agg (ckL (ZR s).2)]):=by
 refine Qj Try.func97 follows (by kernel_rfl) c97 (by kernel_rfl) ?_
 simp[p97]
 refine YI (fun(p:Nat×Ck)=> [(0,.m (ckL p.2)),(3,.v (vi p.1))]) (fun p=>p.1≤4∧p.2.h=s.h∧(∀x∈p.2.lm,Zl x.2.1 x.2.2=true)∧ZR s=Yd ([1,2,3,4].drop p.1) p.2) (cnt 3 4) (0,s) (by simp) ⟨by simp,rfl,hlm,rfl⟩ ?_
 rintro⟨i,q⟩ ⟨hi,hq,hql,hR⟩
 simp only at hi hq hql hR
 have hqh:q.h.ok:=hq▸hh
 have hi':i=0∨i=1∨i=2∨i=3∨i=4:=by omega
 have kw:=fun k hk=>KG (s:=q) (k:=k) hk
 have ks:=fun k=>za (s:=q) hql (Zw hqh k).2 (Zw hqh k).1
 rcases hi' with rfl|rfl|rfl|rfl|rfl
 ·replace kw:=kw 1 (by omega)
  have st:=Xw hqh (k:=1)
  have kn:=Te (s:=q) hqh (k:=1) (by omega) (l:=(Zt q 1).1) (Nat.le_trans st.2 (Zw hqh 1).2)
  have k1:=hW _ (Zw hqh 1).2 (Zw hqh 1).1
  have hsh:=W5 (h:=q.h) (k:=1) (l:=(Zt q 1).1) (m:=q.lm) (fun o ho=>(st.1 o ho).1.2) hql
  replace hR:ZR s=Yd (1:: [2,3,4]) q:=hR
  rw[Yd]at hR
  have hws:Zt q 1=Zo (Z8 q.h 1) [] false:=rfl
  rw[←hws]at k1
  generalize Zt q 1=z at*
  obtain⟨l,e⟩:=z
  simp only at k1 kn hR hsh st
  unfold ckP ckL at kw
  unfold ckL at kn
  simp[ckL,S6,VG,Up,jc]
  refine Z0 kw (by simp) ?_
  simp
  refine Z0 k1 (by simp) ?_
  simp
  by_cases he:e=0
  ·rw[if_pos he]at hR
   simp[he]
   refine Wz kn ?_
   simp[Z2]
   exact⟨1,Xc q 1 l,⟨by omega,by rw[Vy,hq],fun a b c h=>hsh (a,b,c) h,hR⟩,⟨by simp,rfl⟩,by simp[cnt]⟩
  ·rw[if_neg he]at hR
   simp[he,hR,ckL]
 ·replace kw:=kw 2 (by omega)
  have st:=Xw hqh (k:=2)
  have kn:=Te (s:=q) hqh (k:=2) (by omega) (l:=(Zt q 2).1) (Nat.le_trans st.2 (Zw hqh 2).2)
  have k1:=hW _ (Zw hqh 2).2 (Zw hqh 2).1
  have hsh:=W5 (h:=q.h) (k:=2) (l:=(Zt q 2).1) (m:=q.lm) (fun o ho=>(st.1 o ho).1.2) hql
  replace hR:ZR s=Yd (2:: [3,4]) q:=hR
  rw[Yd]at hR
  have hws:Zt q 2=Zo (Z8 q.h 2) [] false:=rfl
  rw[←hws]at k1
  generalize Zt q 2=z at*
  obtain⟨l,e⟩:=z
  simp only at k1 kn hR hsh st
  unfold ckP ckL at kw
  unfold ckL at kn
  simp[ckL,S6,VG,Up,jc]
  refine Z0 kw (by simp) ?_
  simp
  refine Z0 k1 (by simp) ?_
  simp
  by_cases he:e=0
  ·rw[if_pos he]at hR
   simp[he]
   refine Wz kn ?_
   simp[Z2]
   exact⟨2,Xc q 2 l,⟨by omega,by rw[Vy,hq],fun a b c h=>hsh (a,b,c) h,hR⟩,⟨by simp,rfl⟩,by simp[cnt]⟩
  ·rw[if_neg he]at hR
   simp[he,hR,ckL]
 ·replace kw:=kw 3 (by omega)
  have st:=Xw hqh (k:=3)
  have kn:=Te (s:=q) hqh (k:=3) (by omega) (l:=(Zt q 3).1) (Nat.le_trans st.2 (Zw hqh 3).2)
  have k1:=hWO _ (YH q.lm (Z8 q.h 3)) (Zw hqh 3).2 (Nat.le_trans S5 (Zw hqh 3).2) (Zw hqh 3).1 (V1 hql (by simp))
  replace ks:=ks 3
  have hsh:=W5 (h:=q.h) (k:=3) (l:=(Zt q 3).1) (m:=q.lm) (fun o ho=>(st.1 o ho).1.2) hql
  replace hR:ZR s=Yd (3:: [4]) q:=hR
  rw[Yd]at hR
  have hws:Zt q 3=Zo (Z8 q.h 3) (YH q.lm (Z8 q.h 3)) true:=rfl
  rw[←hws]at k1
  generalize Zt q 3=z at*
  obtain⟨l,e⟩:=z
  simp only at k1 kn hR hsh st
  unfold ckP ckL at kw ks
  unfold ckL at kn
  simp[ckL,S6,VG,Up,jc]
  refine Z0 kw (by simp) ?_
  simp
  refine Z0 kw (by simp) ?_
  simp
  refine Z0 ks (by simp) ?_
  simp
  refine Z0 k1 (by simp) ?_
  simp
  by_cases he:e=0
  ·rw[if_pos he]at hR
   simp[he]
   refine Wz kn ?_
   simp[Z2]
   exact⟨3,Xc q 3 l,⟨by omega,by rw[Vy,hq],fun a b c h=>hsh (a,b,c) h,hR⟩,⟨by simp,rfl⟩,by simp[cnt]⟩
  ·rw[if_neg he]at hR
   simp[he,hR,ckL]
 ·replace kw:=kw 4 (by omega)
  have st:=Xw hqh (k:=4)
  have kn:=Te (s:=q) hqh (k:=4) (by omega) (l:=(Zt q 4).1) (Nat.le_trans st.2 (Zw hqh 4).2)
  have k1:=hWO _ (YH q.lm (Z8 q.h 4)) (Zw hqh 4).2 (Nat.le_trans S5 (Zw hqh 4).2) (Zw hqh 4).1 (V1 hql (by simp))
  replace ks:=ks 4
  have hsh:=W5 (h:=q.h) (k:=4) (l:=(Zt q 4).1) (m:=q.lm) (fun o ho=>(st.1 o ho).1.2) hql
  replace hR:ZR s=Yd (4:: []) q:=hR
  rw[Yd]at hR
  have hws:Zt q 4=Zo (Z8 q.h 4) (YH q.lm (Z8 q.h 4)) true:=rfl
  rw[←hws]at k1
  generalize Zt q 4=z at*
  obtain⟨l,e⟩:=z
  simp only at k1 kn hR hsh st
  unfold ckP ckL at kw ks
  unfold ckL at kn
  simp[ckL,S6,VG,Up,jc]
  refine Z0 kw (by simp) ?_
  simp
  refine Z0 kw (by simp) ?_
  simp
  refine Z0 ks (by simp) ?_
  simp
  refine Z0 k1 (by simp) ?_
  simp
  by_cases he:e=0
  ·rw[if_pos he]at hR
   simp[he]
   refine Wz kn ?_
   simp[Z2]
   exact⟨4,Xc q 4 l,⟨by omega,by rw[Vy,hq],fun a b c h=>hsh (a,b,c) h,hR⟩,⟨by simp,rfl⟩,by simp[cnt]⟩
  ·rw[if_neg he]at hR
   simp[he,hR,ckL]
 ·replace hR:ZR s=(true,q):=hR
  simp[hR,ckL]
end Vm
namespace Vm
open Go Go.Proofs
set_option maxRecDepth 100000
set_option maxHeartbeats 1000000
theorem zi{P:Program}{f:FuncId}{ks:List CK}{cs:List V}{r:V}(hv:VC P f false [.ptr cs] r)(hfl:r.flatc=true)(hlen:cs.length=ks.length)(hone:cs.all V.one=true)(hdd:ks.all (fun k=> !(k== .dead))=true):
  VCM P f [.mem ks] [.agg cs] (.tup [r,.agg cs]):=by
 obtain⟨h1,h2⟩:=hv
 refine⟨h1,fun B w h vs hok hA=> ?_⟩
 obtain⟨hxl,hvl,hAi⟩:=hA
 obtain⟨tk,harg,hrel⟩:=hAi 0 (.mem ks) (.agg cs) rfl rfl
 simp only[argK]at harg
 rw[if_pos hlen]at harg
 simp only[Option.some.injEq]at harg
 subst harg
 obtain⟨b,us,T,hb0,hv0,hh,hcs⟩:=hrel
 have hcells: ∀(ks:List CK) (cs:List V),cs.length=ks.length→Y1 [] (((ks.zip cs).map fun y=>(y.1,E.c y.2)).map (·.2))=some cs:=by
  intro ks
  induction ks with
  |nil=>intro cs hl;have:cs= []:=List.length_eq_zero_iff.1 hl;subst this;rfl
  |cons k ks ih=>
   intro cs hl
   cases cs with
   |nil=>simp at hl
   |cons c cs=>
    simp only[List.zip_cons_cons,List.map_cons,Y1,eval]
    rw[ih cs (by simpa using hl)]
    rfl
 have hz:eval [] (.pt none (((ks.zip cs).map fun y=>(y.1,E.c y.2)).map (·.2)))=some (.ptr cs):=by
  simp only[eval,hcells ks cs hlen,Option.bind_some,ptV,hone,if_true]
 have hd:ZV ((ks.zip cs).map fun y=>(y.1,E.c y.2))=false:=by
  rw[ZV,List.any_eq_false]
  intro x hx
  obtain⟨y,hy,rfl⟩:=List.mem_map.1 hx
  have:=List.all_eq_true.1 hdd y.1 (List.of_mem_zip hy).1
  simpa using this
 have hrd:=S1 (G':=fun b=>h.F b∨ ∃t i,h.bl t i=some b) hb0 hh hcs hd hz (fun b hb=> .inl hb) fun i b hb=> .inr ⟨0,i,hb⟩
 refine Calls.mono (h2 w (fun b=>h.F b∨ ∃t i,h.bl t i=some b) vs (fun b hb=> ?_) (by simpa using hvl) fun i x hx=> ?_) fun e w' he=> ?_
 ·rcases hb with hb| ⟨t,i,hb⟩
  ·exact hok.f_lt b hb
  ·exact(hok.b_lt t i b hb).2.1
 ·cases i with
  |zero=>
   simp at hx
   subst hx
   rw[hv0]
   exact hrd
  |succ i=>simp at hx
 ·obtain⟨v,rfl,hbel,hrv⟩:=he
  have hsz:=hbel.size
  have hF:Same h.F w w':=fun b hb=>hbel.block b (hok.f_lt b hb)
  have hB: ∀t i b,h.bl t i=some b→w'.heap[b]? =w.heap[b]? :=fun t i b hb=>hbel.block b (hok.b_lt t i b hb).2.1
  have hlen1:us.size=cs.length:=by
   have:=hcs.1
   simp[hlen]at this
   omega
  refine⟨v,r,[.agg cs],h,rfl,hbel.mono hok.base,fun b hb=>hbel.block b (hok.k_lt b hb),⟨Nat.le_trans hok.base hsz,fun b hb=>Nat.lt_of_lt_of_le (hok.f_lt b hb) hsz,hok.f_or,hok.g_F,fun t i b hb=> ?_,hok.inj,fun b hb=>Nat.lt_of_lt_of_le (hok.k_lt b hb) hsz,hok.k_bl,hok.k_F⟩,rfl,hrv.flat hfl,⟨rfl,fun i k y hk hkz hy=> ?_⟩,rfl⟩
  ·obtain⟨q1,q2,q3⟩:=hok.b_lt t i b hb
   exact⟨q1,Nat.lt_of_lt_of_le q2 hsz,q3⟩
  ·cases i with
   |zero=>
    simp at hk hy
    subst hk;subst hy
    refine⟨.mem ((ks.zip cs).map fun y=>(y.1,.c y.2)),by rw[argK,if_pos hlen],b,us,T,hb0,hv0,?_,hcs.keep hF (fun _ hb=>hb) (fun _=>rfl) fun i b hb=>hB 0 _ b hb⟩
    rw[hB 0 0 b hb0]
    exact hh
   |succ i=>simp at hk
end Vm
namespace Vm
open Go Go.Proofs
set_option maxRecDepth 100000
set_option maxHeartbeats 1000000
def WF:List FuncId:= [95,96,97,98,99,100,101,102]
def fnA(f:FuncId):V:= .agg [.fn f]
theorem Z0l:VC Try.prog 76 false [] (.sl (WF.map fnA)):=by
 refine Z7 Try.func76 follows (by kernel_rfl) c76 rfl ?_
 simp[p76,WF,fnA]
def RR(f:FuncId)(s:Ck):Bool×Ck:=
 if f=95 then(XA s,s)else if f=96 then(Wg s,s)else if f=97 then ZR s
 else if f=98 then(XF s,s)else if f=99 then(Xz s,s)else if f=100 then(Yx s,s)else if f=101 then(Jb s,s)else(UH s,s)
structure Ck.okk (s:Ck):Prop where
 ok:s.ok
 lm: ∀x∈s.lm,Zl x.2.1 x.2.2=true
theorem Ck.obs_put(s:Ck)(k:Int)(l:List Ob)(hk:1≤k∧k≤4)(j:Int):(s.put k l).obs j=if j=k∨(k=4∧ ¬(j=1∨j=2∨j=3))then l else s.obs j:=by
 have:k=1∨k=2∨k=3∨k=4:=by omega
 rcases this with rfl|rfl|rfl|rfl<;>simp[Ck.put,Ck.obs]<;>(split<;>simp_all)<;>(try split<;>simp_all)<;>(try split<;>simp_all)
theorem zR{s:Ck}(hs:s.okk){k:Int}(hk:1≤k∧k≤4):(Xc s k (Zt s k).1).okk:=by
 have st:=Xw hs.ok.h (k:=k)
 have hpl:=(Zw hs.ok.h k).2
 have hobs: ∀j,(Xc s k (Zt s k).1).obs j=((s.put k (Zt s k).1).obs j):=fun j=>rfl
 refine⟨⟨by rw[Vy];exact hs.ok.h,fun j o ho=> ?_,fun j=> ?_⟩,W5 (fun o ho=>(st.1 o ho).1.2) hs.lm⟩
 ·rw[Vy]
  rw[hobs,Ck.obs_put _ _ _ hk]at ho
  split at ho
  ·rename_i h
   have:Z8 s.h j=Z8 s.h k:=by
    rcases h with rfl| ⟨rfl,h⟩
    ·rfl
    ·simp only[not_or]at h
     simp[Z8,h]
   rw[this]
   exact st.1 o ho
  ·exact hs.ok.ob j o ho
 ·rw[hobs,Ck.obs_put _ _ _ hk]
  split
  ·exact Nat.le_trans st.2 hpl
  ·exact hs.ok.len j
theorem TU: ∀ {l:List Int} {s:Ck},(∀k∈l,1≤k∧k≤4)→s.okk→(Yd l s).2.okk∧(Yd l s).2.h=s.h
 | [],s,_,hs=>⟨hs,rfl⟩
 |k::l,s,hl,hs=>by
  rw[Yd]
  split
  ·have:=TU (l:=l) (fun k hk=>hl k (List.mem_cons_of_mem _ hk)) (zR hs (hl k (List.mem_cons_self ..)))
   exact⟨this.1,this.2.trans (Vy ..)⟩
  ·exact⟨hs,rfl⟩
theorem K9{s:Ck}(hs:s.okk):(ZR s).2.okk∧(ZR s).2.h=s.h:=TU (by intro k hk;simp at hk;omega) hs
theorem Qu{s:Ck}(hs:s.okk){f:FuncId}:(RR f s).2.okk∧(RR f s).2.h=s.h:=by
 unfold RR
 repeat' split
 all_goals first|exact⟨hs,rfl⟩ |exact K9 hs
theorem Z09(hW:TM)(hWO:Xl){s:Ck}(hs:s.okk){f:FuncId}(hf:f∈WF):VCM Try.prog f [.mem ckK] [.agg (ckL s)] (.tup [.bool (RR f s).1,.agg (ckL (RR f s).2)]):=by
 have go: ∀ {f b},VC Try.prog f false [ckP s] (.bool b)→VCM Try.prog f [.mem ckK] [.agg (ckL s)] (.tup [.bool b,.agg (ckL s)]):=fun h=>zi h rfl rfl rfl rfl
 simp only[WF,List.mem_cons,List.not_mem_nil,or_false]at hf
 rcases hf with rfl|rfl|rfl|rfl|rfl|rfl|rfl|rfl
 ·exact go (zq hs.ok.h)
 ·exact go zp
 ·exact zF hW hWO hs.ok.h hs.lm
 ·exact go (LT hs.ok)
 ·exact go (zB hs.ok)
 ·exact go (Qs hs.ok)
 ·exact go (Z1k hs.ok)
 ·exact go (jO hs.ok)
def Ko:List FuncId→Ck→Option Ck
 | [],s=>some s
 |f::l,s=>if(RR f s).1=true then Ko l (RR f s).2 else none
def ZT(h:Hp):Ck:= {h:=h,o1:= [],o2:= [],o3:= [],o4:= [],pm:= [],lm:= []}
def Vl(h:Hp):Option Ck:=Ko WF (ZT h)
theorem SD{h:Hp}(hh:h.ok):(ZT h).okk:=by
 have h0: ∀k,(ZT h).obs k= []:=fun k=>by simp[ZT,Ck.obs]
 refine⟨⟨hh,fun k o ho=> ?_,fun k=> ?_⟩,fun x hx=>(by simp[ZT]at hx)⟩
 ·rw[h0]at ho;simp at ho
 ·rw[h0];simp
theorem Kt(hW:TM)(hWO:Xl){h:Hp}(hh:h.ok):VC Try.prog 42 false [hpV h] (.tup [match Vl h with|some s=>ckP s|none=> .nul 0,.bool (Vl h).isSome]):=by
 refine Z7 Try.func42 follows (by kernel_rfl) c42 rfl ?_
 have k1:=Js (h:=h)
 have k2:=Z0l
 have hlen:WF.length=8:=rfl
 unfold hpV at k1
 simp[p42]
 refine Z0 k1 (by simp) ?_
 simp[lyV,layH]
 refine Z0 k2 (by simp) ?_
 simp
 refine YI (fun(p:Nat×Ck)=> [(5,.m (ckL p.2)),(6,.v (vi p.1))]) (fun p=>p.1≤8∧p.2.okk∧Vl h=Ko (WF.drop p.1) p.2) (cnt 6 8) (0,ZT h) (by simp[ckL,ZT,zV]) ⟨by simp,SD hh,rfl⟩ ?_
 rintro⟨i,q⟩ ⟨hi,hq,hR⟩
 simp only at hi hq hR
 have hwi:=Z2 ((i:Int)+1) (by omega) (by omega)
 by_cases hlt:i<WF.length
 ·have hx:WF[i]? =some WF[i]:=List.getElem?_eq_getElem hlt
  have hd:=List.drop_eq_getElem_cons hlt
  have hm:=List.getElem_mem hlt
  generalize WF[i]=f at*
  rw[hd,Ko]at hR
  have kr:=Z09 hW hWO hq hm
  have hok:=(Qu hq (f:=f)).1
  rw[hlen]at hlt
  have hlt':(i:Int) <8:=by omega
  simp[idxV,hlt,hlt',hx,ZJ hx,hlen,fnA,ckL]
  unfold ckL at kr
  refine Wz kr ?_
  cases hb:(RR f q).1
  ·rw[if_neg (by simp[hb])]at hR
   simp[hR]
  ·rw[if_pos hb]at hR
   simp[hwi]
   exact⟨i+1,(RR f q).2,⟨by omega,hok,hR⟩,⟨by simp,by omega⟩,by simp[cnt];omega⟩
 ·have:i=8:=by omega
  subst this
  replace hR:Vl h=some q:=hR
  simp[hlen,hR,ckL,ckP]
theorem J6: ∀ {l:List FuncId} {s q:Ck},s.okk→Ko l s=some q→q.okk∧q.h=s.h
 | [],s,q,hs,h=>by simp only[Ko,Option.some.injEq]at h;subst h;exact⟨hs,rfl⟩
 |f::l,s,q,hs,h=>by
  rw[Ko]at h
  split at h
  ·have h1:=Qu hs (f:=f)
   have h2:=J6 h1.1 h
   exact⟨h2.1,h2.2.trans h1.2⟩
  ·cases h
theorem yd{h:Hp}(hh:h.ok){q:Ck}(hq:Vl h=some q):q.okk∧q.h=h:=J6 (SD hh) hq
theorem qS(hW:TM)(hWO:Xl){h:Hp}(hh:h.ok):VC Try.prog 33 false [hpV h] (.bool (Vl h).isSome):=by
 refine Z7 Try.func33 follows (by kernel_rfl) c33 rfl ?_
 simp[p33]
 refine Z0 (Kt hW hWO hh) (by simp) ?_
 simp
def yE(h:Hp)(k:Int):List Ob×Int:=match Vl h with
 |some s=>if 1≤k∧k≤4 then(s.obs k,0)else([],1)
 |none=>([],1)
theorem JY(hW:TM)(hWO:Xl){h:Hp}(hh:h.ok){k:Int}:VC Try.prog 22 false [hpV h,vi k] (.tup [.sl ((yE h k).1.map obV),vi (yE h k).2]):=by
 refine Z7 Try.func22 follows (by kernel_rfl) c22 rfl ?_
 simp[p22]
 refine Z0 (Kt hW hWO hh) (by simp) ?_
 unfold yE
 cases hl:Vl h with
 |none=>simp
 |some s=>
  by_cases h1:1≤k
  ·by_cases h2:k≤4
   ·have:k=1∨k=2∨k=3∨k=4:=by omega
    rcases this with rfl|rfl|rfl|rfl<;>simp[aiV,Qz,S6,VG,Up,Ck.obs]
   ·have h1': ¬k<1:=by omega
    have h2':4<k:=by omega
    simp[h1,h2,h1',h2']
  ·have h1':k<1:=by omega
   simp[h1,h1']
def KT(h:Hp):Nat:=match Vl h with
 |some s=>Ry s
 |none=>0
theorem Kb(hW:TM)(hWO:Xl){h:Hp}(hh:h.ok):VC Try.prog 26 false [hpV h] (vi (KT h)):=by
 refine Z7 Try.func26 follows (by kernel_rfl) c26 rfl ?_
 simp[p26]
 refine Z0 (Kt hW hWO hh) (by simp) ?_
 unfold KT
 cases hl:Vl h with
 |none=>simp
 |some s=>
  simp
  refine Z0 (Ts (yd hh hl).1.ok) (by simp) ?_
  simp
end Vm
end
section
namespace Vm
open Go Go.Proofs
set_option maxRecDepth 100000
structure Stands (ws:List Int) (old:Bool) (o:Ob):Prop where
 nat:0≤o.at_
 shape:Zl o.size o.ptrs=true
 fits:o.at_+1+o.size≤ws.length
 slots:ZM ((ws.drop (o.at_.toNat+1)).take o.size.toNat) o.gone o.ptrs 0=true
 word: ∃w,ws[o.at_.toNat]? =some w∧(if o.gone then old=true∧(adr w).2=0∧o.target=(adr w).1 else(old=true→ ¬(adr w).2=0)∧unpk w=(o.size,o.ptrs,0)∧o.target=0)
def Tiles(ws:List Int)(old:Bool):Nat→List Ob→Prop
 |a,[]=>ws.length≤a
 |a,o::l=>o.at_=a∧Stands ws old o∧Tiles ws old (a+1+o.size.toNat) l
theorem JF{ws:List Int}{shs:List (Int×Int)}{old:Bool}{a tk t:Nat}{w:Int}{o:Ob}(hw:ws[a]? =some w)(ho:objR shs old a tk w=some (o,t))(hl: ¬(ws.length:Int) <a+1+o.size)
  (hs: ¬ZM ((ws.drop (a+1)).take o.size.toNat) o.gone o.ptrs 0=false):o.at_=a∧Stands ws old o:=by
 have h2:=Vc ho
 refine⟨h2.2,?_,h2.1,?_,?_,w,?_,?_⟩
 ·rw[h2.2];omega
 ·rw[h2.2];omega
 ·rw[h2.2];simpa using hs
 ·rw[h2.2];simpa using hw
 ·unfold objR at ho
  split at ho
  ·rename_i hc
   split at ho
   ·cases ho
   ·split at ho
    ·cases ho;simpa using hc
    ·cases ho
  ·rename_i hc
   split at ho
   ·rename_i hu
    cases ho
    simp only[Bool.false_eq_true,if_false]
    refine⟨fun h1 h3=>hc ⟨h1,h3⟩,?_,trivial⟩
    rw[←hu]
   ·cases ho
theorem S7{ws:List Int}{shs:List (Int×Int)}{old:Bool}: ∀(f a tk:Nat) (acc l:List Ob),YM ws shs old f a tk acc=(l,0)→ ∃r,l=acc++r∧Tiles ws old a r
 |0,_,_,_,_,h=>by simp[YM]at h
 |f+1,a,tk,acc,l,h=>by
  unfold YM at h
  split at h
  ·rename_i hn
   split at h
   ·simp at h
   ·simp only[Prod.mk.injEq,and_true]at h
    subst h
    exact⟨[],by simp,List.getElem?_eq_none_iff.1 hn⟩
  ·rename_i w hw
   split at h
   ·simp at h
   ·rename_i o t ho
    split at h
    ·simp at h
    rename_i h1
    split at h
    ·simp at h
    rename_i h2
    obtain⟨r,rfl,hr⟩:=S7 f _ _ _ _ h
    have hs:=JF hw ho h1 h2
    exact⟨o::r,by simp,hs.1,hs.2,hr⟩
theorem Y8{ws:List Int}{shs:List (Int×Int)}{old:Bool}{l:List Ob}(h:Zo ws shs old=(l,0)):Tiles ws old 0 l:=by
 obtain⟨r,h1,h2⟩:=S7 _ _ _ _ _ h
 simp at h1
 subst h1
 exact h2
theorem Tiles.stands{ws:List Int}{old:Bool}: ∀ {a:Nat} {l:List Ob},Tiles ws old a l→ ∀o∈l,Stands ws old o∧(a:Int)≤o.at_
 |_,[],_,_,h=>by simp at h
 |a,o::l,h,x,hx=>by
  have hs:=Z4.1 h.2.1.shape
  rcases List.mem_cons.1 hx with rfl|hx
  ·exact⟨h.2.1,by rw[h.1];omega⟩
  ·have:=Tiles.stands h.2.2 x hx
   exact⟨this.1,by have:=this.2;omega⟩
theorem Tiles.apart{ws:List Int}{old:Bool}: ∀ {a:Nat} {l:List Ob},Tiles ws old a l→ ∀o∈l,∀q∈l,o=q∨o.at_+1+o.size≤q.at_∨q.at_+1+q.size≤o.at_
 |_,[],_,_,h,_,_=>by simp at h
 |a,x::l,h,o,ho,q,hq=>by
  have hs:=Z4.1 h.2.1.shape
  have e:=h.1
  rcases List.mem_cons.1 ho with rfl|ho
  ·rcases List.mem_cons.1 hq with rfl|hq
   ·exact .inl rfl
   ·have:=(Tiles.stands h.2.2 q hq).2
    exact .inr (.inl (by omega))
  ·rcases List.mem_cons.1 hq with hq|hq
   ·have:=(Tiles.stands h.2.2 o ho).2
    rw[hq]
    exact .inr (.inr (by omega))
   ·exact Tiles.apart h.2.2 o ho q hq
structure RightH (h:Hp) (p:Pts):Prop where
 parts:ZY h=some p
 num:numR h=true
 ok:U0 h p=true
 low:Tiles h.low false 0 p.low
 high:Tiles h.high false 0 p.high
 old:Tiles h.old true 0 p.old
 far:Tiles h.far true 0 p.far
theorem qi{h:Hp}(hr:Y7 h=true): ∃p,RightH h p:=by
 obtain⟨p,h1,h2,h3⟩:=Th hr
 refine⟨p,h1,h3,h2,?_,?_,?_,?_⟩
 all_goals
  clear h3
  unfold ZY at h1
  dsimp only at h1
  split at h1
  ·cases h1
  rename_i c1
  split at h1
  ·cases h1
  rename_i c2
  cases h1
  have c3:(Zo h.low [] false).2=0∧(Zo h.high [] false).2=0:=by
   refine⟨Decidable.byContradiction fun hc=>c1 (.inl hc),Decidable.byContradiction fun hc=>c1 (.inr hc)⟩
  have c4: ∀x:Int,¬x≠0→x=0:=fun x hx=>Decidable.byContradiction hx
  have e3:=c4 _ (fun hx=>c2 (.inr (.inr (.inl hx))))
  have e4:=c4 _ (fun hx=>c2 (.inr (.inr (.inr hx))))
  first|exact Y8 (Prod.ext rfl c3.1) |exact Y8 (Prod.ext rfl c3.2) |exact Y8 (Prod.ext rfl e3) |exact Y8 (Prod.ext rfl e4)
theorem RightH.tiles{h:Hp}{p:Pts}(r:RightH h p){k:Int}(hk:1≤k∧k≤4):Tiles (Z8 h k) (decide (2<k)) 0 (p.at k):=by
 have:k=1∨k=2∨k=3∨k=4:=by omega
 rcases this with rfl|rfl|rfl|rfl
 ·exact r.low
 ·exact r.high
 ·exact r.old
 ·exact r.far
theorem RightH.lay{h:Hp}{p:Pts}(r:RightH h p):Za (layH h)=true:=by
 have:=r.num
 unfold numR at this
 simp only[Bool.and_eq_true]at this
 exact this.1.1.1.1
def refR(l:Ly)(k a:Int):Int:=2*(fstL l k+a)+1
theorem XO{l:Ly}(hr:Za l=true){k a:Int}(ha:0≤a):adr (refR l k a)=(fstL l k+a,0):=by
 have:=Zy hr k
 unfold adr refR
 rw[if_neg (by omega),if_neg (by omega)]
 simp only[Prod.mk.injEq,and_true]
 omega
theorem UB{l:Ly}(hr:Za l=true){k a:Int}(hk:1≤k∧k≤4)(ha:0≤a∧a<sizL l k):ZD l k a=(fstL l k+a,0):=by
 unfold ZD
 rw[if_neg (by simp[hr]),if_neg (by omega),if_neg (by omega)]
theorem Ru{l:Ly}(hr:Za l=true){k a:Int}(hk:1≤k∧k≤4)(ha:0≤a∧a<sizL l k):ZB l (fstL l k+a)=(k,a,0):=by
 have h:=ZK.1 hr
 have ht:=jx hr
 unfold ZB inL
 rw[if_neg (by simp[hr])]
 simp only[Bool.and_eq_true,decide_eq_true_eq]
 have hk4:k=1∨k=2∨k=3∨k=4:=by omega
 rcases hk4 with rfl|rfl|rfl|rfl
 ·rw[if_pos (by omega)];simp;omega
 ·simp only[fstL,sizL]at ha⊢
  simp only[show ¬(2:Int)=1 by omega,if_false,if_true]at ha⊢
  rw[if_neg (by omega),if_pos (by omega)];simp;omega
 ·simp only[fstL,sizL]at ha⊢
  simp only[show ¬(3:Int)=1 by omega,show ¬(3:Int)=2 by omega,show ¬(2:Int)=1 by omega,if_false,if_true]at ha⊢
  rw[if_neg (by omega),if_neg (by omega),if_pos (by omega)];simp;omega
 ·simp only[fstL,sizL]at ha⊢
  simp only[show ¬(4:Int)=1 by omega,show ¬(4:Int)=2 by omega,show ¬(4:Int)=3 by omega,show ¬(3:Int)=1 by omega,show ¬(3:Int)=2 by omega,show ¬(2:Int)=1 by omega,if_false,if_true]at ha⊢
  rw[if_neg (by omega),if_neg (by omega),if_neg (by omega),if_pos (by omega)];simp;omega
end Vm
namespace Vm
open Go Go.Proofs
set_option maxRecDepth 100000
theorem Lc{g:Hp}(hr:Za (layH g)=true):fwd g 0=(0,g,0):=by simp[fwd,hr]
theorem TV{l:Ly}(hr:Za l=true){k a:Int}(ha:0≤a): ¬refR l k a=0:=by
 have:=Zy hr k
 unfold refR;omega
theorem fwd_here{g:Hp}(hr:Za (layH g)=true){k a:Int}(hk:1≤k∧k≤2)(ha:0≤a∧a< (Z8 g k).length):fwd g (refR (layH g) k a)=(refR (layH g) k a,g,0):=by
 have h1:=TV hr (k:=k) ha.1
 have h2:=XO hr (k:=k) ha.1
 have h3:=Ru hr (k:=k) (a:=a) (by omega) (by rw[X0 (by omega)];exact ha)
 unfold fwd
 simp[hr,h1,h2,h3,show k<3 by omega]
theorem fwd_gone{g:Hp}(hr:Za (layH g)=true){k:Int}{a:Nat}(hk:3≤k∧k≤4){u:Int}(hu:(Z8 g k)[a]? =some u)(h0:(adr u).2=0):fwd g (refR (layH g) k a)=(u,g,0):=by
 have hl:a< (Z8 g k).length:=(List.getElem?_eq_some_iff.1 hu).1
 have h1:=TV hr (k:=k) (a:=(a:Int)) (by omega)
 have h2:=XO hr (k:=k) (a:=(a:Int)) (by omega)
 have h3:=Ru hr (k:=k) (a:=(a:Int)) (by omega) (by rw[X0 (by omega)];omega)
 have h4:(Z8 g k).getD a 0=u:=by simp[List.getD,hu]
 unfold fwd
 simp[-List.getD_eq_getElem?_getD,hr,h1,h2,h3,show ¬k<3 by omega,h4,h0]
def movH(g:Hp)(k:Int)(a n:Nat):Hp:=Yf (ZO g k a n) k ((zr (Z8 g k) a n).set a (refR (layH g) 1 g.low.length))
theorem W7{g:Hp}{k:Int}{a n:Nat}(hl:a+n≤(Z8 g k).length):layH (ZO g k a n)= {layH g with low:=(g.low.length+n:Nat)}:=by
 unfold layH ZO
 simp only[Ly.mk.injEq,true_and,and_true]
 simp
 omega
theorem TP{g:Hp}(hr:Za (layH g)=true){k:Int}{a n:Nat}(hl:a+n≤(Z8 g k).length)(hm:(n:Int)≤Yo (layH g)):Za (layH (ZO g k a n))=true:=by
 rw[W7 hl]
 have h:=ZK.1 hr
 have e:Yo (layH g)=(layH g).cap- (layH g).low- (layH g).high:=by unfold Yo;rw[hr];rfl
 have e1:(layH g).low=g.low.length:=rfl
 apply ZK.2
 simp only
 omega
theorem Rp{g:Hp}{k:Int}(hk:3≤k∧k≤4){a n:Nat}(hl:a+n≤(Z8 g k).length):layH (movH g k a n)= {layH g with low:=(g.low.length+n:Nat)}:=by
 rw[←W7 hl]
 unfold movH
 apply TS
 rw[List.length_set,Lf]
 have:k=3∨k=4:=by omega
 rcases this with rfl|rfl<;>rfl
theorem LG{g:Hp}(hr:Za (layH g)=true){k:Int}(hk:3≤k∧k≤4){a n:Nat}(hl:a+n≤(Z8 g k).length)(hm:(n:Int)≤Yo (layH g)):Za (layH (movH g k a n))=true:=by
 rw[Rp hk hl,←W7 hl]
 exact TP hr hl hm
theorem qM{g:Hp}{k:Int}(hk:3≤k∧k≤4){a n:Nat}(hl:a+n≤(Z8 g k).length)(j b:Int):refR (layH (movH g k a n)) j b=refR (layH g) j b:=by
 rw[Rp hk hl]
 rfl
theorem fwd_wait{g:Hp}(hr:Za (layH g)=true){k:Int}{a:Nat}(hk:3≤k∧k≤4){u:Int}(hu:(Z8 g k)[a]? =some u)(h0: ¬(adr u).2=0){n:Nat}{pt:Int}(hun:unpk u=((n:Int),pt,0))
  (hl:a+(n+1)≤(Z8 g k).length) (hm:((n+1:Nat):Int)≤Yo (layH g)):fwd g (refR (layH g) k a)=(refR (layH g) 1 g.low.length,movH g k a (n+1),0):=by
 have h1:=TV hr (k:=k) (a:=(a:Int)) (by omega)
 have h2:=XO hr (k:=k) (a:=(a:Int)) (by omega)
 have h3:=Ru hr (k:=k) (a:=(a:Int)) (by omega) (by rw[X0 (by omega)];omega)
 have h4:(Z8 g k).getD a 0=u:=by simp[List.getD,hu]
 have hmr:=TP hr hl hm
 have h5:ZD (layH (ZO g k a (n+1))) 1 g.low.length=(fstL (layH g) 1+g.low.length,0):=by
  have:=UB hmr (k:=1) (a:=(g.low.length:Int)) (by omega) (by rw[W7 hl];simp only[sizL,if_true];omega)
  rw[this,W7 hl]
  rfl
 have hrng:=Zy hmr 1
 rw[W7 hl]at hrng
 simp only[sizL,if_true]at hrng
 have hf1:fstL {layH g with low:=(g.low.length+(n+1):Nat)} 1=fstL (layH g) 1:=rfl
 rw[hf1]at hrng
 have h6:X4 (fstL (layH g) 1+g.low.length)=(refR (layH g) 1 g.low.length,0):=by
  unfold X4 refR
  rw[if_neg (by omega)]
 unfold fwd
 have hk3: ¬k<3:=by omega
 simp only[hr,h1,h2,h3,if_neg hk3,Bool.true_eq_false,if_false,ne_eq,not_true_eq_false,Int.toNat_natCast,h4,h0,hun]
 unfold fwdC
 rw[if_neg (by omega),if_neg (by omega)]
 simp only[h5,h6]
 rfl
theorem Z15{ws:List Int}{a:Nat}: ∀(n j:Nat),j<a∨a+n≤j→(zr ws a n)[j]? =ws[j]?
 |0,_,_=>rfl
 |n+1,j,h=>by
  unfold zr
  rw[List.getElem?_set_ne (by omega)]
  exact Z15 n j (by omega)
theorem QD{g:Hp}{k:Int}(hk:3≤k∧k≤4){a n:Nat}(hn:0<n){j:Int}(hj:3≤j∧j≤4){b:Nat}(hb:j≠k∨b<a∨a+n≤b):(Z8 (movH g k a n) j)[b]? =(Z8 g j)[b]? :=by
 have hk':k=3∨k=4:=by omega
 have hj':j=3∨j=4:=by omega
 rcases hk' with rfl|rfl<;>rcases hj' with rfl|rfl<;>simp only[movH,ZO,Z3e,Z2s,L3,Lq]
 ·rw[List.getElem?_set_ne (by omega)];exact Z15 _ _ (by omega)
 ·rw[List.getElem?_set_ne (by omega)];exact Z15 _ _ (by omega)
theorem Ro{g:Hp}{k:Int}(hk:3≤k∧k≤4){a n:Nat}{j:Int}(hj:3≤j∧j≤4):(Z8 (movH g k a n) j).length=(Z8 g j).length:=by
 have hk':k=3∨k=4:=by omega
 have hj':j=3∨j=4:=by omega
 rcases hk' with rfl|rfl<;>rcases hj' with rfl|rfl<;>simp[movH,ZO]
theorem Z07{g:Hp}{k:Int}(hk:3≤k∧k≤4){a n:Nat}(hl:a+n≤(Z8 g k).length):(movH g k a n).low.length=g.low.length+n∧(movH g k a n).high=g.high:=by
 have hk':k=3∨k=4:=by omega
 rcases hk' with rfl|rfl<;>simp only[L3,Lq]at hl<;>simp[movH,ZO]<;>omega
end Vm
namespace Vm
open Go Go.Proofs
set_option maxRecDepth 100000
theorem Vz{h:Hp}{ws:List Int}{low:List Ob}: ∀(f i:Nat) (acc l:List (Int×Int)),Yh h ws low f i acc=some l→ ∃r,l=acc++r
 |0,_,_,_,he=>by simp[Yh]at he
 |f+1,i,acc,l,he=>by
  unfold Yh at he
  split at he
  ·cases he;exact⟨[],by simp⟩
  ·split at he
   ·split at he
    ·cases he
    ·obtain⟨r,hr⟩:=Vz f _ _ _ he
     exact⟨_,by rw[hr,List.append_assoc]⟩
   ·split at he
    ·exact Vz f _ _ _ he
    ·cases he
theorem Wq{h:Hp}{ws:List Int}{low:List Ob}: ∀(f i:Nat) (acc shs:List (Int×Int)),Yh h ws low f i acc=some shs→ ∀(f':Nat) (acc' l:List Ob),YM ws shs true f' i acc.length acc'=(l,0)→
  ∃r,l=acc'++r∧ ∀o∈r,o.gone=true→ ∃q,atR h 1 low o.target=some q∧q.size=o.size∧q.ptrs=o.ptrs
 |0,_,_,_,he=>by simp[Yh]at he
 |f+1,i,acc,shs,he=>by
  intro f' acc' l hw
  cases f' with
  |zero=>simp[YM]at hw
  |succ f'=>
   unfold Yh at he
   unfold YM at hw
   cases hwi:ws[i]? with
   |none=>
    simp only[hwi]at hw
    split at hw
    ·simp at hw
    ·simp only[Prod.mk.injEq,and_true]at hw
     exact⟨[],by simp[hw],by simp⟩
   |some w=>
    simp only[hwi]at he hw
    by_cases ha:(adr w).2=0
    ·simp only[ha,if_true]at he
     cases hq:atR h 1 low (adr w).1 with
     |none=>simp only[hq]at he;cases he
     |some q=>
      simp only[hq]at he
      obtain⟨r,hr⟩:=Vz _ _ _ _ he
      have hs:shs[acc.length]? =some (q.size,q.ptrs):=by rw[hr];simp
      unfold objR at hw
      rw[if_pos ⟨rfl,ha⟩]at hw
      simp only[hs]at hw
      by_cases hsh:Zl q.size q.ptrs=true
      ·rw[if_pos hsh]at hw
       simp only at hw
       split at hw
       ·simp at hw
       split at hw
       ·simp at hw
       have hlen:acc.length+1=(acc++ [(q.size,q.ptrs)]).length:=by simp
       rw[hlen]at hw
       obtain⟨r',h1,h2⟩:=Wq f _ _ _ he _ _ _ hw
       refine⟨_::r',by rw[h1,List.append_assoc];rfl,?_⟩
       intro o ho hg
       rcases List.mem_cons.1 ho with rfl|ho
       ·exact⟨q,hq,rfl,rfl⟩
       ·exact h2 o ho hg
      ·rw[if_neg hsh]at hw
       simp at hw
    ·simp only[ha,if_false]at he
     by_cases hu:(unpk w).2.2=0
     ·simp only[hu,if_true]at he
      unfold objR at hw
      rw[if_neg (fun hc=>ha hc.2),if_pos hu]at hw
      simp only at hw
      split at hw
      ·simp at hw
      split at hw
      ·simp at hw
      obtain⟨r',h1,h2⟩:=Wq f _ _ _ he _ _ _ hw
      refine⟨_::r',by rw[h1,List.append_assoc];rfl,?_⟩
      intro o ho hg
      rcases List.mem_cons.1 ho with rfl|ho
      ·simp at hg
      ·exact h2 o ho hg
     ·simp only[hu,if_false]at he
      cases he
theorem RightH.gone_low{h:Hp}{p:Pts}(r:RightH h p){k:Int}(hk:3≤k∧k≤4){o:Ob}(ho:o∈p.at k)(hg:o.gone=true): ∃q∈p.low,ZE h 1 q.at_=o.target∧q.size=o.size∧q.ptrs=o.ptrs:=by
 have h1:=r.parts
 unfold ZY at h1
 dsimp only at h1
 split at h1
 ·cases h1
 split at h1
 ·cases h1
 rename_i c2
 have aux: ∀(ws:List Int) (x:Option (List (Int×Int))),x=Ys h ws (Zo h.low [] false).1→ ¬x=none→(Zo ws (x.getD []) true).2=0→o∈(Zo ws (x.getD []) true).1→
   ∃q∈(Zo h.low [] false).1,ZE h 1 q.at_=o.target∧q.size=o.size∧q.ptrs=o.ptrs:=by
  intro ws x hx hn h0 ho
  cases x with
  |none=>exact(hn rfl).elim
  |some shs=>
   simp only[Option.getD_some]at h0 ho
   obtain⟨r',e1,e2⟩:=Wq _ _ _ _ hx.symm (ws.length+1) [] (Zo ws shs true).1 (Prod.ext rfl h0)
   simp only[List.nil_append]at e1
   rw[e1]at ho
   obtain⟨q,hq,hs⟩:=e2 o ho hg
   have:=List.find?_some hq
   exact⟨q,Z0I hq,by simpa using this,hs⟩
 have e3: ¬Ys h h.old (Zo h.low [] false).1=none:=fun e=>c2 (.inl e)
 have e4: ¬Ys h h.far (Zo h.low [] false).1=none:=fun e=>c2 (.inr (.inl e))
 have e5:(Zo h.old ((Ys h h.old (Zo h.low [] false).1).getD []) true).2=0:=Decidable.byContradiction fun e=>c2 (.inr (.inr (.inl e)))
 have e6:(Zo h.far ((Ys h h.far (Zo h.low [] false).1).getD []) true).2=0:=Decidable.byContradiction fun e=>c2 (.inr (.inr (.inr e)))
 cases h1
 have:k=3∨k=4:=by omega
 rcases this with rfl|rfl
 ·exact aux _ _ rfl e3 e5 (by simpa using ho)
 ·exact aux _ _ rfl e4 e6 (by simpa using ho)
theorem qy{l:List Ob}{o:Ob}(h:o∈l):wtO o≤wtL l:=by
 unfold wtL
 induction l with
 |nil=>simp at h
 |cons x l ih=>
  simp only[List.map_cons,List.sum_cons]
  rcases List.mem_cons.1 h with rfl|h
  ·omega
  ·have:=ih h;omega
theorem qH{p:Pts}{k:Int}(hk:3≤k∧k≤4){o:Ob}(h:o∈p.at k):wtO o≤YY p:=by
 have:k=3∨k=4:=by omega
 unfold YY
 rcases this with rfl|rfl
 ·have:=qy (l:=p.old) h;omega
 ·have:=qy (l:=p.far) h;omega
theorem j6{u a:Int}(h0:(adr u).2=0)(h:(adr u).1=a):u=2*a+1:=by
 unfold adr at h0 h
 by_cases c1:u=0
 ·simp[c1]at h0
 rw[if_neg c1]at h0 h
 by_cases c2:u%2=0∨u=1
 ·rw[if_pos c2]at h0;simp at h0
 rw[if_neg c2]at h
 simp only at h
 omega
theorem Z0n{u:Int}(h:(unpk u).2.2=0): ¬(adr u).2=0:=by
 unfold unpk at h
 split at h
 ·rename_i hc
  unfold adr
  split
  ·simp
  rw[if_pos (.inl hc.1)];simp
 ·simp at h
end Vm
namespace Vm
open Go Go.Proofs
set_option maxRecDepth 100000
end Vm
end
section
namespace Vm
open Go Go.Proofs
set_option maxRecDepth 100000
theorem Tiles.order{ws:List Int}{old:Bool}: ∀ {a:Nat} {l:List Ob},Tiles ws old a l→l.Pairwise fun x y=>x.at_<y.at_
 |_,[],_=> .nil
 |a,o::l,h=>by
  have hs:=Z4.1 h.2.1.shape
  refine .cons (fun x hx=> ?_) (Tiles.order h.2.2)
  have:=(Tiles.stands h.2.2 x hx).2
  have:=h.1
  omega
theorem Rq{h:Hp}(hr:Za (layH h)=true){k:Int}(hk:1≤k∧k≤4){old:Bool}{o:Ob}(hs:Stands (Z8 h k) old o):ZE h k o.at_=fstL (layH h) k+o.at_:=by
 have:=Z4.1 hs.shape
 have:=hs.fits
 have:=hs.nat
 unfold ZE
 rw[UB hr hk ⟨by omega,by rw[X0 hk];omega⟩]
theorem zG{h:Hp}(hr:Za (layH h)=true){k:Int}(hk:1≤k∧k≤4){old:Bool}{o:Ob}(hs:Stands (Z8 h k) old o):ZB (layH h) (ZE h k o.at_)=(k,o.at_,0):=by
 have:=Z4.1 hs.shape
 have:=hs.fits
 have:=hs.nat
 rw[Rq hr hk hs]
 exact Ru hr hk ⟨by omega,by rw[X0 hk];omega⟩
theorem Tiles.starts{h:Hp}(hr:Za (layH h)=true){k:Int}(hk:1≤k∧k≤4){old:Bool}{l:List Ob}(ht:Tiles (Z8 h k) old 0 l):l.Pairwise fun x y=>ZE h k x.at_≠ZE h k y.at_:=by
 refine List.Pairwise.imp_of_mem ?_ ht.order
 intro x y hx hy hlt
 rw[Rq hr hk (ht.stands x hx).1,Rq hr hk (ht.stands y hy).1]
 omega
theorem Qx{h:Hp}{a:Int}: ∀ {l:List Ob} {m:List (Int×(Int×Int))},(l.Pairwise fun x y=>ZE h 1 x.at_≠ZE h 1 y.at_)→getA (ZU h 1 m l) a=match atR h 1 l a with
  |some o=>some (o.size,o.ptrs)
  |none=>getA m a
 | [],m,_=>rfl
 |o::l,m,hp=>by
  obtain⟨h1,h2⟩:=List.pairwise_cons.1 hp
  rw[ZU,Qx h2]
  unfold atR
  rw[List.find?_cons]
  cases hf:l.find? (fun o=>ZE h 1 o.at_==a)with
  |some q=>
   have hq:=List.mem_of_find?_eq_some hf
   have he:ZE h 1 q.at_=a:=by have:=List.find?_some hf;simpa using this
   have hne:(ZE h 1 o.at_==a)=false:=by
    have:=h1 q hq
    simp only[beq_eq_false_iff_ne]
    omega
   rw[hne]
  |none=>
   simp only[if_true,Rn]
   by_cases he:ZE h 1 o.at_=a
   ·have he':(ZD (layH h) 1 o.at_).1=a:=he
    simp[he,he']
   ·have he': ¬(ZD (layH h) 1 o.at_).1=a:=he
    have:(ZE h 1 o.at_==a)=false:=by simpa using he
    simp[this,he']
theorem WJ{h:Hp}{k:Int}(hk: ¬k=1): ∀ {l:List Ob} {m:List (Int×(Int×Int))},ZU h k m l=m
 | [],m=>rfl
 |o::l,m=>by rw[ZU,if_neg hk];exact WJ hk
theorem Wv{h:Hp}{k a:Int}: ∀ {l:List Ob} {m:List (Int×Int)},getA (Yz h k m l) a=if(atR h k l a).isSome=true then some k else getA m a
 | [],m=>rfl
 |o::l,m=>by
  rw[Yz,Wv]
  unfold atR
  rw[List.find?_cons,Rn]
  by_cases he:ZE h k o.at_=a
  ·have he':(ZD (layH h) k o.at_).1=a:=he
   have:(ZE h k o.at_==a)=true:=by simpa using he
   simp[this,he']
  ·have he': ¬(ZD (layH h) k o.at_).1=a:=he
   have:(ZE h k o.at_==a)=false:=by simpa using he
   simp[this,he']
theorem VE{lm:List (Int×(Int×Int))}{ws:List Int}: ∀(f i:Nat) (acc:List (Int×Int)),∃r,Yb lm ws f i acc=acc++r
 |0,_,acc=>⟨[],by simp[Yb]⟩
 |f+1,i,acc=>by
  rw[Yb]
  cases ws[i]? with
  |none=>exact⟨[],by simp⟩
  |some w=>
   simp only
   split
   ·split
    ·exact⟨[],by simp⟩
    ·obtain⟨r,hr⟩:=VE (lm:=lm) (ws:=ws) f _ _
     exact⟨_,by rw[hr,List.append_assoc]⟩
   ·split
    ·exact VE f _ _
    ·exact⟨[],by simp⟩
theorem WX{lm:List (Int×(Int×Int))}{h:Hp}{low:List Ob}(hlm: ∀a,getA lm a=(atR h 1 low a).map fun o=>(o.size,o.ptrs)){ws:List Int}: ∀(f i:Nat) (acc shs:List (Int×Int)),Yh h ws low f i acc=some shs→Yb lm ws f i acc=shs
 |0,_,_,_,he=>by simp[Yh]at he
 |f+1,i,acc,shs,he=>by
  rw[Yh]at he
  rw[Yb]
  cases hw:ws[i]? with
  |none=>rw[hw]at he;simpa using he
  |some w=>
   rw[hw]at he
   simp only at he⊢
   by_cases ha:(adr w).2=0
   ·rw[if_pos ha]at he⊢
    rw[hlm]
    cases hq:atR h 1 low (adr w).1 with
    |none=>rw[hq]at he;cases he
    |some o=>rw[hq]at he;exact WX hlm _ _ _ _ he
   ·rw[if_neg ha]at he⊢
    by_cases hu:(unpk w).2.2=0
    ·rw[if_pos hu]at he⊢;exact WX hlm _ _ _ _ he
    ·rw[if_neg hu]at he;cases he
theorem XI{lm:List (Int×(Int×Int))}{h:Hp}{low:List Ob}(hlm: ∀a,getA lm a=(atR h 1 low a).map fun o=>(o.size,o.ptrs)){ws:List Int}: ∀(f i:Nat) (acc:List (Int×Int)),0<f→ws.length<f+i→Yh h ws low f i acc=none→
  ∀(f':Nat) (acc':List Ob),(YM ws (Yb lm ws f i acc) true f' i acc.length acc').2≠0
 |0,_,_,h0,_,_=>by omega
 |f+1,i,acc,h0,hf,he=>by
  intro f' acc'
  cases f' with
  |zero=>simp[YM]
  |succ f'=>
   rw[Yh]at he
   rw[Yb,YM]
   cases hw:ws[i]? with
   |none=>rw[hw]at he;cases he
   |some w=>
    have hlt:=(List.getElem?_eq_some_iff.1 hw).1
    rw[hw]at he
    simp only at he⊢
    by_cases ha:(adr w).2=0
    ·rw[if_pos ha]at he⊢
     rw[hlm]
     cases hq:atR h 1 low (adr w).1 with
     |none=>
      simp only[Option.map_none]
      have:objR acc true i acc.length w=none:=by
       unfold objR
       rw[if_pos ⟨rfl,ha⟩]
       simp
      rw[this]
      simp
     |some o=>
      rw[hq]at he
      simp only[Option.map_some]at he⊢
      obtain⟨r,hr⟩:=VE (lm:=lm) (ws:=ws) f (i+1+o.size.toNat) (acc++ [(o.size,o.ptrs)])
      have ih:=XI hlm f (i+1+o.size.toNat) (acc++ [(o.size,o.ptrs)]) (by omega) (by omega) he f'
      generalize Yb lm ws f (i+1+o.size.toNat) (acc++ [(o.size,o.ptrs)])=shs at*
      have hs:shs[acc.length]? =some (o.size,o.ptrs):=by rw[hr];simp
      unfold objR
      rw[if_pos ⟨rfl,ha⟩,hs]
      simp only
      by_cases hsh:Zl o.size o.ptrs=true
      ·rw[if_pos hsh]
       simp only
       split
       ·simp
       split
       ·simp
       simpa using ih _
      ·rw[if_neg hsh];simp
    ·rw[if_neg ha]at he⊢
     by_cases hu:(unpk w).2.2=0
     ·rw[if_pos hu]at he⊢
      have ih:=XI hlm f (i+1+(unpk w).1.toNat) acc (by omega) (by omega) he f'
      generalize Yb lm ws f (i+1+(unpk w).1.toNat) acc=shs at*
      unfold objR
      rw[if_neg (fun hc=>ha hc.2),if_pos hu]
      simp only
      split
      ·simp
      split
      ·simp
      exact ih _
     ·rw[if_neg hu]
      have:objR acc true i acc.length w=none:=by
       unfold objR
       rw[if_neg (fun hc=>ha hc.2),if_neg hu]
      rw[this]
      simp
structure Found (h:Hp) (s:Ck) (p:Pts):Prop where
 hp:s.h=h
 o1:s.o1=p.low
 o2:s.o2=p.high
 o3:s.o3=p.old
 o4:s.o4=p.far
 pm:s.pm=Yz h 4 (Yz h 3 (Yz h 2 (Yz h 1 [] p.low) p.high) p.old) p.far
theorem J7{h:Hp}(hr:Za (layH h)=true):match ZY h with
  |some p=>(ZR (ZT h)).1=true∧Found h (ZR (ZT h)).2 p
  |none=>(ZR (ZT h)).1=false:=by
 unfold ZR ZY
 dsimp only
 have s1:Zt (ZT h) 1=Zo h.low [] false:=rfl
 rw[Yd,s1]
 by_cases e1:(Zo h.low [] false).2=0
 case neg=>rw[if_neg e1,if_pos (.inl e1)]
 rw[if_pos e1]
 have hT:Tiles h.low false 0 (Zo h.low [] false).1:=Y8 (ws:=h.low) (shs:= []) (Prod.ext rfl e1)
 generalize (Zo h.low [] false).1=l1 at*
 have s2:Zt (Xc (ZT h) 1 l1) 2=Zo h.high [] false:=rfl
 rw[Yd,s2]
 by_cases e2:(Zo h.high [] false).2=0
 case neg=>rw[if_neg e2,if_pos (.inr e2)]
 rw[if_pos e2,if_neg (by simp[e1,e2])]
 generalize (Zo h.high [] false).1=l2 at*
 have hlm: ∀a,getA (ZU h 1 [] l1) a=(atR h 1 l1 a).map fun o=>(o.size,o.ptrs):=by
  intro a
  rw[Qx (Tiles.starts hr (k:=1) (by omega) (by simpa using hT))]
  cases atR h 1 l1 a<;>rfl
 have hlm2:(Xc (Xc (ZT h) 1 l1) 2 l2).lm=ZU h 1 [] l1:=WJ (by omega)
 have s3:Zt (Xc (Xc (ZT h) 1 l1) 2 l2) 3=Zo h.old (YH (ZU h 1 [] l1) h.old) true:=by
  rw[←hlm2];rfl
 rw[Yd,s3]
 cases hp:Ys h h.old l1 with
 |none=>
  have:=XI hlm (h.old.length+1) 0 [] (by omega) (by omega) hp (h.old.length+1) []
  have e3: ¬(Zo h.old (YH (ZU h 1 [] l1) h.old) true).2=0:=this
  rw[if_neg e3,if_pos (.inl rfl)]
 |some shs=>
 have hs3:YH (ZU h 1 [] l1) h.old=shs:=WX hlm _ _ _ _ hp
 rw[hs3]
 simp only[Option.getD_some]
 by_cases e3:(Zo h.old shs true).2=0
 case neg=>rw[if_neg e3,if_pos (.inr (.inr (.inl e3)))]
 rw[if_pos e3]
 generalize (Zo h.old shs true).1=l3 at*
 have hlm3:(Xc (Xc (Xc (ZT h) 1 l1) 2 l2) 3 l3).lm=ZU h 1 [] l1:=by
  rw[←hlm2];exact WJ (by omega)
 have s4:Zt (Xc (Xc (Xc (ZT h) 1 l1) 2 l2) 3 l3) 4=Zo h.far (YH (ZU h 1 [] l1) h.far) true:=by
  rw[←hlm3];rfl
 rw[Yd,s4]
 cases hq:Ys h h.far l1 with
 |none=>
  have:=XI hlm (h.far.length+1) 0 [] (by omega) (by omega) hq (h.far.length+1) []
  have e4: ¬(Zo h.far (YH (ZU h 1 [] l1) h.far) true).2=0:=this
  rw[if_neg e4,if_pos (.inr (.inl rfl))]
 |some shs'=>
 have hs4:YH (ZU h 1 [] l1) h.far=shs':=WX hlm _ _ _ _ hq
 rw[hs4]
 simp only[Option.getD_some]
 by_cases e4:(Zo h.far shs' true).2=0
 case neg=>rw[if_neg e4,if_pos (.inr (.inr (.inr e4)))]
 rw[if_pos e4,if_neg (by simp[e3,e4])]
 generalize (Zo h.far shs' true).1=l4 at*
 exact⟨rfl,rfl,rfl,rfl,rfl,rfl,rfl⟩
end Vm
namespace Vm
open Go Go.Proofs
set_option maxRecDepth 100000
theorem Vq{h:Hp}{p:Pts}(h1:ZY h=some p){k:Int}(hk:1≤k∧k≤4):Tiles (Z8 h k) (decide (2<k)) 0 (p.at k):=by
 have:k=1∨k=2∨k=3∨k=4:=by omega
 unfold ZY at h1
 dsimp only at h1
 split at h1
 ·cases h1
 rename_i c1
 split at h1
 ·cases h1
 rename_i c2
 cases h1
 have c3:(Zo h.low [] false).2=0∧(Zo h.high [] false).2=0:=by
  refine⟨Decidable.byContradiction fun hc=>c1 (.inl hc),Decidable.byContradiction fun hc=>c1 (.inr hc)⟩
 have c4: ∀x:Int,¬x≠0→x=0:=fun x hx=>Decidable.byContradiction hx
 have e3:=c4 _ (fun hx=>c2 (.inr (.inr (.inl hx))))
 have e4:=c4 _ (fun hx=>c2 (.inr (.inr (.inr hx))))
 rcases this with rfl|rfl|rfl|rfl
 ·exact Y8 (Prod.ext rfl c3.1)
 ·exact Y8 (Prod.ext rfl c3.2)
 ·exact Y8 (Prod.ext rfl e3)
 ·exact Y8 (Prod.ext rfl e4)
theorem Sw{h:Hp}{p:Pts}(h1:ZY h=some p){k:Int}(hk:3≤k∧k≤4){o:Ob}(ho:o∈p.at k)(hg:o.gone=true): ∃q∈p.low,ZE h 1 q.at_=o.target∧q.size=o.size∧q.ptrs=o.ptrs:=by
 unfold ZY at h1
 dsimp only at h1
 split at h1
 ·cases h1
 split at h1
 ·cases h1
 rename_i c2
 have aux: ∀(ws:List Int) (x:Option (List (Int×Int))),x=Ys h ws (Zo h.low [] false).1→ ¬x=none→(Zo ws (x.getD []) true).2=0→o∈(Zo ws (x.getD []) true).1→
   ∃q∈(Zo h.low [] false).1,ZE h 1 q.at_=o.target∧q.size=o.size∧q.ptrs=o.ptrs:=by
  intro ws x hx hn h0 ho
  cases x with
  |none=>exact(hn rfl).elim
  |some shs=>
   simp only[Option.getD_some]at h0 ho
   obtain⟨r',e1,e2⟩:=Wq _ _ _ _ hx.symm (ws.length+1) [] (Zo ws shs true).1 (Prod.ext rfl h0)
   simp only[List.nil_append]at e1
   rw[e1]at ho
   obtain⟨q,hq,hs⟩:=e2 o ho hg
   have:=List.find?_some hq
   exact⟨q,Z0I hq,by simpa using this,hs⟩
 have e3: ¬Ys h h.old (Zo h.low [] false).1=none:=fun e=>c2 (.inl e)
 have e4: ¬Ys h h.far (Zo h.low [] false).1=none:=fun e=>c2 (.inr (.inl e))
 have e5:(Zo h.old ((Ys h h.old (Zo h.low [] false).1).getD []) true).2=0:=Decidable.byContradiction fun e=>c2 (.inr (.inr (.inl e)))
 have e6:(Zo h.far ((Ys h h.far (Zo h.low [] false).1).getD []) true).2=0:=Decidable.byContradiction fun e=>c2 (.inr (.inr (.inr e)))
 cases h1
 have:k=3∨k=4:=by omega
 rcases this with rfl|rfl
 ·exact aux _ _ rfl e3 e5 (by simpa using ho)
 ·exact aux _ _ rfl e4 e6 (by simpa using ho)
theorem yQ{h:Hp}(hr:Za (layH h)=true){p:Pts}(hp:ZY h=some p){k:Int}(hk:1≤k∧k≤4){a:Int}(hi:(atR h k (p.at k) a).isSome=true): ∃b,ZB (layH h) a=(k,b,0):=by
 obtain⟨o,ho⟩:=Option.isSome_iff_exists.1 hi
 have h1:=List.mem_of_find?_eq_some ho
 have h2:ZE h k o.at_=a:=by have:=List.find?_some ho;simpa using this
 rw[←h2]
 exact⟨_,zG hr hk ((Vq hp hk).stands o h1).1⟩
theorem Z0q{h:Hp}(hr:Za (layH h)=true){p:Pts}(hp:ZY h=some p){k j:Int}(hk:1≤k∧k≤4)(hj:1≤j∧j≤4)(hn:k≠j){a:Int}(hi:(atR h k (p.at k) a).isSome=true):(atR h j (p.at j) a).isSome=false:=by
 cases hx:(atR h j (p.at j) a).isSome with
 |false=>rfl
 |true=>
  obtain⟨b,hb⟩:=yQ hr hp hk hi
  obtain⟨c,hc⟩:=yQ hr hp hj hx
  rw[hb]at hc
  simp only[Prod.mk.injEq]at hc
  exact(hn hc.1).elim
section
variable {h:Hp} {s:Ck} {p:Pts}
theorem Found.obs(hf:Found h s p){k:Int}:s.obs k=p.at k:=by
 unfold Ck.obs Pts.at
 rw[hf.o1,hf.o2,hf.o3,hf.o4]
theorem Found.pm_at(hf:Found h s p)(a:Int):getA s.pm a=if(atR h 4 (p.at 4) a).isSome=true then some 4 else if(atR h 3 (p.at 3) a).isSome=true then some 3 else if(atR h 2 (p.at 2) a).isSome=true then some 2 else if(atR h 1 (p.at 1) a).isSome=true then some 1 else none:=by
 rw[hf.pm,Wv,Wv,Wv,Wv]
 rfl
theorem Found.points(hf:Found h s p)(hr:Za (layH h)=true)(hp:ZY h=some p)(w:Int):Zs s w 1 2=YN h p w 1 2∧Zs s w 3 4=YN h p w 3 4∧Zs s w 1 4=(YN h p w 1 2||YN h p w 3 4):=by
 unfold Zs YN
 by_cases h0:w=0
 ·simp[h0]
 by_cases h1:(adr w).2=0
 case neg=>simp[h0,h1]
 simp only[h0,h1,decide_false,decide_true,Bool.false_or,Bool.true_and]
 rw[hf.pm_at]
 generalize (adr w).1=a
 have o:=fun k j hk hj hn=>Z0q (k:=k) (j:=j) hr hp hk hj hn (a:=a)
 have o43:=o 4 3 (by omega) (by omega) (by omega)
 have o42:=o 4 2 (by omega) (by omega) (by omega)
 have o41:=o 4 1 (by omega) (by omega) (by omega)
 have o32:=o 3 2 (by omega) (by omega) (by omega)
 have o31:=o 3 1 (by omega) (by omega) (by omega)
 have o21:=o 2 1 (by omega) (by omega) (by omega)
 clear o
 generalize (atR h 1 (p.at 1) a).isSome=b1 at*
 generalize (atR h 2 (p.at 2) a).isSome=b2 at*
 generalize (atR h 3 (p.at 3) a).isSome=b3 at*
 generalize (atR h 4 (p.at 4) a).isSome=b4 at*
 cases b1<;>cases b2<;>cases b3<;>cases b4<;>simp_all
end
end Vm
namespace Vm
open Go Go.Proofs
set_option maxRecDepth 100000
def tgS(l:List Ob):List Int:=(l.filter (·.gone)).map (·.target)
theorem jp{α:Type}{l:List (Int×α)}{k:Int}{x:α}(h:getA l k=none):(putA l k x).length=l.length+1:=by
 unfold getA at h
 rw[Option.map_eq_none_iff]at h
 have:l.findIdx? (·.1==k)=none:=by
  rw[List.findIdx?_eq_none_iff]
  intro y hy
  have:=List.find?_eq_none.1 h y hy
  simpa using this
 unfold putA
 rw[this]
 simp
theorem U8{pm:List (Int×Int)}: ∀ {l:List Ob} {m:List (Int×Bool)} {K:List Int},K.Nodup→(∀a,getA m a=if a∈K then some true else none)→m.length=K.length→
  match copQ pm l m with
  |some m'=>(∀t∈tgS l,(getA pm t).getD 0=1)∧(K++tgS l).Nodup∧m'.length=(K++tgS l).length∧ ∀a,getA m' a=if a∈K++tgS l then some true else none
  |none=> ¬((∀t∈tgS l,(getA pm t).getD 0=1)∧(K++tgS l).Nodup)
 | [],m,K,hK,hm,hl=>by simp only[copQ,tgS,List.filter_nil,List.map_nil,List.append_nil];exact⟨by simp,hK,hl,hm⟩
 |o::l,m,K,hK,hm,hl=>by
  rw[copQ]
  cases hg:o.gone with
  |false=>
   rw[if_neg (by simp)]
   have:tgS (o::l)=tgS l:=by simp[tgS,hg]
   rw[this]
   exact U8 hK hm hl
  |true=>
   rw[if_pos rfl]
   have ht:tgS (o::l)=o.target::tgS l:=by simp[tgS,hg]
   rw[ht]
   by_cases h1:(getA pm o.target).getD 0=1
   ·by_cases h2:o.target∈K
    ·rw[if_neg (by rw[hm,if_pos h2];simp)]
     rintro⟨_,hn⟩
     exact(List.nodup_append.1 hn).2.2 _ h2 _ (List.mem_cons_self ..) rfl
    ·have hno:getA m o.target=none:=by rw[hm,if_neg h2]
     rw[if_pos ⟨h1,by rw[hno];rfl⟩]
     have ih:=U8 (pm:=pm) (l:=l) (m:=putA m o.target true) (K:=K++ [o.target]) (by
       rw[List.nodup_append]
       refine⟨hK,by simp,fun a ha b hb=> ?_⟩
       simp at hb;subst hb
       intro e;subst e;exact h2 ha) (fun a=>by
       rw[Rn,hm]
       by_cases e:o.target=a
       ·simp[e]
       ·have e': ¬a=o.target:=fun x=>e x.symm
        simp[e,e']) (by rw[jp hno,hl];simp)
     rw[List.append_assoc,List.singleton_append]at ih
     cases hc:copQ pm l (putA m o.target true)with
     |none=>
      rw[hc]at ih
      rintro⟨q1,q2⟩
      exact ih ⟨fun t ht=>q1 t (List.mem_cons_of_mem _ ht),q2⟩
     |some m'=>
      rw[hc]at ih
      refine⟨fun t ht=> ?_,ih.2⟩
      rcases List.mem_cons.1 ht with rfl|ht
      ·exact h1
      ·exact ih.1 t ht
   ·rw[if_neg (fun hc=>h1 hc.1)]
    rintro⟨q1,_⟩
    exact h1 (q1 _ (List.mem_cons_self ..))
theorem Jt{l:List Ob}{a:Int}:tgL l a=(tgS l).count a:=by
 unfold tgL tgS
 induction l with
 |nil=>rfl
 |cons o l ih=>
  cases hg:o.gone
  ·simpa[hg]using ih
  ·by_cases ht:o.target=a
   ·simp only[List.filter_cons,hg,ht]
    simpa[ht]using ih
   ·have: ¬(o.target==a)=true:=by simpa using ht
    simp only[List.filter_cons,hg,ht]
    simpa[List.count_cons,ht]using ih
theorem jI{T S:List Int}(hS:S.Nodup)(hTS:T⊆S):(T.Nodup∧T.length=S.length)↔ ∀a∈S,T.count a=1:=by
 constructor
 ·rintro⟨hT,hl⟩ a ha
  rw[hT.count]
  by_cases hm:a∈T
  ·rw[if_pos hm]
  ·have h1:T⊆S.erase a:=fun x hx=>(hS.mem_erase_iff).2 ⟨fun e=>hm (e▸hx),hTS hx⟩
   have h2:=hT.length_le_of_subset h1
   rw[List.length_erase_of_mem ha]at h2
   have:=List.length_pos_of_mem ha
   omega
 ·intro h
  have hT:T.Nodup:=List.nodup_iff_count.2 fun a=>by
   by_cases hm:a∈T
   ·rw[h a (hTS hm)]
    omega
   ·rw[List.count_eq_zero_of_not_mem hm];omega
  refine⟨hT,Nat.le_antisymm (hT.length_le_of_subset hTS) (hS.length_le_of_subset fun a ha=> ?_)⟩
  exact List.count_pos_iff.1 (by rw[h a ha];omega)
section
variable {h:Hp} {s:Ck} {p:Pts}
theorem Found.copied(hf:Found h s p)(hr:Za (layH h)=true)(hp:ZY h=some p):XF s=(!h.cycle||p.low.all (tgOk h p)):=by
 have hT:=Vq hp (k:=1) (by omega)
 have hS:(p.low.map fun o=>ZE h 1 o.at_).Nodup:=by
  have:=Tiles.starts hr (k:=1) (by omega) hT
  rw[List.nodup_iff_pairwise_ne,List.pairwise_map]
  exact this
 have hin: ∀t∈tgS s.o3++tgS s.o4,t∈p.low.map fun o=>ZE h 1 o.at_:=by
  intro t ht
  have: ∃k,(3≤k∧k≤4)∧t∈tgS (p.at k):=by
   rcases List.mem_append.1 ht with ht|ht
   ·exact⟨3,by omega,by rw[hf.o3]at ht;exact ht⟩
   ·exact⟨4,by omega,by rw[hf.o4]at ht;exact ht⟩
  obtain⟨k,hk,ht⟩:=this
  simp only[tgS,List.mem_map,List.mem_filter]at ht
  obtain⟨o,⟨ho,hg⟩,rfl⟩:=ht
  obtain⟨q,hq,he,_⟩:=Sw hp hk ho hg
  exact List.mem_map.2 ⟨q,hq,he⟩
 have hpm: ∀t∈tgS s.o3++tgS s.o4,(getA s.pm t).getD 0=1:=by
  intro t ht
  obtain⟨q,hq,he⟩:=List.mem_map.1 (hin t ht)
  have h1:(atR h 1 (p.at 1) t).isSome=true:=by
   unfold atR
   rw[List.find?_isSome]
   exact⟨q,hq,by simpa using he⟩
  have o:=fun k hk hn=>Z0q (k:=1) (j:=k) hr hp (by omega) hk hn h1
  rw[hf.pm_at,o 4 (by omega) (by omega),o 3 (by omega) (by omega),o 2 (by omega) (by omega),h1]
  rfl
 unfold XF
 rw[hf.hp]
 cases hc:h.cycle
 ·rfl
 simp only[Bool.not_true,Bool.false_or]
 have key:=jI hS (T:=tgS s.o3++tgS s.o4) hin
 have hall:p.low.all (tgOk h p)=true↔ ∀a∈(p.low.map fun o=>ZE h 1 o.at_),(tgS s.o3++tgS s.o4).count a=1:=by
  rw[List.all_eq_true]
  constructor
  ·intro hx a ha
   obtain⟨o,ho,rfl⟩:=List.mem_map.1 ha
   have:=hx o ho
   simp only[tgOk,decide_eq_true_eq,TY,Jt]at this
   rw[List.count_append,hf.o3,hf.o4]
   exact this
  ·intro hx o ho
   have:=hx _ (List.mem_map.2 ⟨o,ho,rfl⟩)
   rw[List.count_append,hf.o3,hf.o4]at this
   simp only[tgOk,decide_eq_true_eq,TY,Jt]
   exact this
 rw[List.length_map]at key
 have c1:=U8 (pm:=s.pm) (l:=s.o3) (m:= []) (K:= []) (by simp) (by simp[getA]) rfl
 simp only[List.nil_append]at c1
 rw[Bool.eq_iff_iff,hall,←key]
 cases h1:copQ s.pm s.o3 []with
 |none=>
  rw[h1]at c1
  simp only[Option.bind_none]
  constructor
  ·intro hx;cases hx
  ·rintro⟨hn,_⟩
   exact(c1 ⟨fun t ht=>hpm t (List.mem_append_left _ ht),(List.nodup_append.1 hn).1⟩).elim
 |some m=>
  rw[h1]at c1
  obtain⟨q1,q2,q3,q4⟩:=c1
  simp only[Option.bind_some]
  have c2:=U8 (pm:=s.pm) (l:=s.o4) (m:=m) (K:=tgS s.o3) q2 q4 q3
  cases h2:copQ s.pm s.o4 m with
  |none=>
   rw[h2]at c2
   constructor
   ·intro hx;cases hx
   ·rintro⟨hn,_⟩
    exact(c2 ⟨fun t ht=>hpm t (List.mem_append_right _ ht),hn⟩).elim
  |some m'=>
   rw[h2]at c2
   obtain⟨r1,r2,r3,r4⟩:=c2
   simp only[decide_eq_true_eq,r3,hf.o1]
   exact⟨fun hx=>⟨r2,hx⟩,fun hx=>hx.2⟩
end
end Vm
namespace Vm
open Go Go.Proofs
set_option maxRecDepth 100000
theorem SW: ∀ {l:List Int} {ptrs:Int} {i:Nat},ZM l true ptrs i=true→ ∀w∈l,w=0
 | [],_,_,_,w,hw=>by simp at hw
 |x::l,ptrs,i,h,w,hw=>by
  simp only[ZM,Bool.and_eq_true,Bool.not_true,Bool.false_or,decide_eq_true_eq]at h
  rcases List.mem_cons.1 hw with rfl|hw
  ·exact h.1.1
  ·exact SW h.2 w hw
theorem WE{s:Ck}{k:Int}{q:Int→Int→Bool}:Wu s k q=true↔ ∀o∈s.obs k,o.gone=false→ ∀j,j<o.ptrs.toNat→q ((o.at_.toNat+1+j:Nat):Int) (XE (Z8 s.h k) (o.at_.toNat+1+j))=true:=by
 unfold Wu obQ
 rw[List.all_eq_true]
 constructor
 ·intro h o ho hg j hj
  have:=h o ho
  rw[hg,Bool.false_or,List.all_eq_true]at this
  exact this j (List.mem_range.2 hj)
 ·intro h o ho
  cases hg:o.gone
  ·rw[Bool.false_or,List.all_eq_true]
   intro j hj
   exact h o ho hg j (List.mem_range.1 hj)
  ·rfl
theorem yT{h:Hp}{p:Pts}(hp:ZY h=some p){k:Int}(hk:1≤k∧k≤4):XY h p k=true↔ ∀o∈p.at k,o.gone=false→ ∀j,j<o.ptrs.toNat→Un h p k (o.at_.toNat+1+j)=true:=by
 unfold XY Lm
 rw[List.all_eq_true]
 constructor
 ·intro h o ho hg j hj
  have:=h o ho
  rw[List.all_eq_true]at this
  exact this j (List.mem_range.2 hj)
 ·intro h' o ho
  rw[List.all_eq_true]
  intro j hj
  have hj:=List.mem_range.1 hj
  cases hg:o.gone
  ·exact h' o ho hg j hj
  ·have hs:=((Vq hp hk).stands o ho).1
   have hsh:=Z4.1 hs.shape
   have h1:=hs.slots
   rw[hg]at h1
   have hz:=SW h1
   have hfit:=hs.fits
   have hnat:=hs.nat
   have hlt:o.at_.toNat+1+j< (Z8 h k).length:=by omega
   have hw:(Z8 h k)[o.at_.toNat+1+j]? =some 0:=by
    rw[List.getElem?_eq_getElem hlt]
    refine congrArg some (hz _ ?_)
    rw[List.mem_iff_getElem?]
    refine⟨j,?_⟩
    rw[List.getElem?_take,if_pos (by omega),List.getElem?_drop,List.getElem?_eq_getElem hlt]
   have hgo: ∀a b,YN h p 0 a b=true:=fun a b=>by simp[YN]
   unfold Un
   simp[hw,hgo]
section
variable {h:Hp} {s:Ck} {p:Pts}
theorem Found.ptrs(hf:Found h s p)(hr:Za (layH h)=true)(hp:ZY h=some p):(Xz s&&(Yx s&&Jb s))=(h.roots.all (fun w=>YN h p w 1 2)&&XY h p 1&&XY h p 2&&XY h p 3&&XY h p 4):=by
 have hpt:=hf.points hr hp
 have hroots:s.h.roots.all (fun w=>Zs s w 1 2)=h.roots.all (fun w=>YN h p w 1 2):=by
  rw[hf.hp]
  congr 1
  funext w
  exact(hpt w).1
 have hob:=fun k=>hf.obs (k:=k)
 have hpk: ∀(k:Int) (q:Nat→Int→Bool) (hk:1≤k∧k≤4),(∀a,Un h p k a=q a (XE (Z8 h k) a))→(XY h p k=true↔ ∀o∈p.at k,o.gone=false→ ∀j,j<o.ptrs.toNat→q (o.at_.toNat+1+j) (XE (Z8 h k) (o.at_.toNat+1+j))=true):=by
  intro k q hk hq
  rw[yT hp hk]
  simp only[hq]
 have p2:=hpk 2 (fun _ w=>YN h p w 1 2) (by omega) (fun a=>by simp[Un,XE])
 have p3:=hpk 3 (fun _ w=>YN h p w 3 4) (by omega) (fun a=>by simp[Un,XE])
 have p4:=hpk 4 (fun _ w=>YN h p w 3 4) (by omega) (fun a=>by simp[Un,XE])
 have p1:=hpk 1 (fun a w=>if h.scan≤a then YN h p w 1 2||YN h p w 3 4 else YN h p w 1 2) (by omega) (fun a=>by simp[Un,XE])
 have q2:Wu s 2 (fun _ w=>Zs s w 1 2)=true↔XY h p 2=true:=by
  rw[p2,WE,hob,hf.hp]
  simp only[(hpt _).1]
 have q3:Wu s 3 (fun _ w=>Zs s w 3 4)=true↔XY h p 3=true:=by
  rw[p3,WE,hob,hf.hp]
  simp only[(hpt _).2.1]
 have q4:Wu s 4 (fun _ w=>Zs s w 3 4)=true↔XY h p 4=true:=by
  rw[p4,WE,hob,hf.hp]
  simp only[(hpt _).2.1]
 have q1:(Wu s 1 (fun a w=>decide (s.h.scan≤a)||Zs s w 1 2)=true∧Wu s 1 (fun a w=>decide (a<s.h.scan)||Zs s w 1 4)=true)↔XY h p 1=true:=by
  rw[p1,WE,WE,hob,hf.hp]
  simp only[(hpt _).1,(hpt _).2.2]
  constructor
  ·rintro⟨ha,hb⟩ o ho hg j hj
   have ha:=ha o ho hg j hj
   have hb:=hb o ho hg j hj
   generalize o.at_.toNat+1+j=n at*
   by_cases hs:h.scan≤(n:Int)
   ·have: ¬(n:Int) <h.scan:=by omega
    simpa[hs,this]using hb
   ·simpa[hs]using ha
  ·intro hx
   refine⟨fun o ho hg j hj=> ?_,fun o ho hg j hj=> ?_⟩
   ·have hx:=hx o ho hg j hj
    generalize o.at_.toNat+1+j=n at*
    by_cases hs:h.scan≤(n:Int)
    ·simp[hs]
    ·simpa[hs]using hx
   ·have hx:=hx o ho hg j hj
    generalize o.at_.toNat+1+j=n at*
    by_cases hs:h.scan≤(n:Int)
    ·have: ¬(n:Int) <h.scan:=by omega
     simpa[hs,this]using hx
    ·have:(n:Int) <h.scan:=by omega
     simp[this]
 unfold Xz Yx Jb
 rw[hroots,Bool.eq_iff_iff]
 simp only[Bool.and_eq_true]
 rw[q2,q3,q4,←q1]
 constructor
 ·rintro⟨⟨a,b,c⟩,d,e,f⟩;exact⟨⟨⟨⟨a,c,d⟩,b⟩,e⟩,f⟩
 ·rintro⟨⟨⟨⟨a,c,d⟩,b⟩,e⟩,f⟩;exact⟨⟨a,b,c⟩,d,e,f⟩
theorem Found.roomy(hf:Found h s p):UH s=decide ((h.low.length:Int)+h.high.length+YY p≤h.cap):=by
 unfold UH Ry YY
 rw[hf.hp,hf.o3,hf.o4]
end
theorem Z2U(h:Hp):numR h=(XA (ZT h)&&Wg (ZT h)):=by
 unfold numR XA Wg ZT
 simp only
 cases Za (layH h)
 ·simp
 by_cases h1:h.roots.length≤16<;>by_cases h2:0≤h.scan<;>by_cases h3:h.scan≤h.low.length<;>cases hc:h.cycle<;>simp[h1,h2,h3]
 by_cases h4:h.scan=h.low.length<;>by_cases h5:h.old= []<;>by_cases h6:h.far= []<;>simp[h4,h5,h6]
theorem Ut(h:Hp):(Vl h).isSome=Y7 h∧ ∀s,Vl h=some s→ ∃p,ZY h=some p∧Found h s p:=by
 have hl:Vl h=(if XA (ZT h)=true then if Wg (ZT h)=true then if(ZR (ZT h)).1=true then
   if XF (ZR (ZT h)).2=true then if Xz (ZR (ZT h)).2=true then if Yx (ZR (ZT h)).2=true then if Jb (ZR (ZT h)).2=true then if UH (ZR (ZT h)).2=true then
    some (ZR (ZT h)).2 else none else none else none else none else none else none else none else none):=rfl
 have hn:=Z2U h
 unfold Y7
 rw[hn]
 cases hb:XA (ZT h)
 ·rw[hb]at hl;rw[hl];simp
 have hr:Za (layH h)=true:=by
  unfold XA at hb
  simp only[Bool.and_eq_true]at hb
  exact hb.1
 cases hre:Wg (ZT h)
 ·rw[hb,hre]at hl;rw[hl];simp
 have hw:=J7 hr
 cases hp:ZY h with
 |none=>
  rw[hp]at hw
  simp only at hw
  rw[hb,hre,hw]at hl
  rw[hl];simp
 |some p=>
  rw[hp]at hw
  obtain⟨h1,hf⟩:=hw
  rw[hb,hre,h1]at hl
  simp only[if_true]at hl
  generalize (ZR (ZT h)).2=s at*
  have e1:=hf.copied hr hp
  have e2:=hf.ptrs hr hp
  have e3:=hf.roomy
  have e4:U0 h p=(XF s&&((Xz s&&(Yx s&&Jb s))&&UH s)):=by
   rw[e1,e2,e3]
   unfold U0
   simp only[Bool.and_assoc]
  simp only[Bool.true_and]
  rw[e4]
  cases c1:XF s
  ·rw[c1]at hl;rw[hl];simp
  cases c2:Xz s
  ·rw[c1,c2]at hl;rw[hl];simp
  cases c3:Yx s
  ·rw[c1,c2,c3]at hl;rw[hl];simp
  cases c4:Jb s
  ·rw[c1,c2,c3,c4]at hl;rw[hl];simp
  cases c5:UH s
  ·rw[c1,c2,c3,c4,c5]at hl;rw[hl];simp
  rw[c1,c2,c3,c4,c5]at hl
  simp only[if_true]at hl
  rw[hl]
  refine⟨rfl,fun q hq=>⟨p,rfl,?_⟩⟩
  cases hq
  exact hf
theorem yA(h:Hp)(k:Int):yE h k=Qa h k:=by
 obtain⟨h1,h2⟩:=Ut h
 unfold yE Qa
 cases hl:Vl h with
 |none=>
  rw[hl]at h1
  have h1':Y7 h=false:=h1.symm
  simp[h1']
 |some s=>
  rw[hl]at h1
  have h1':Y7 h=true:=h1.symm
  obtain⟨p,hp,hf⟩:=h2 s hl
  simp only[h1',true_and,hp,Option.getD_some,hf.obs]
theorem qo(h:Hp):((KT h:Nat):Int)=qG h:=by
 obtain⟨h1,h2⟩:=Ut h
 unfold KT qG
 cases hl:Vl h with
 |none=>
  rw[hl]at h1
  have h1':Y7 h=false:=h1.symm
  simp[h1']
 |some s=>
  rw[hl]at h1
  have h1':Y7 h=true:=h1.symm
  obtain⟨p,hp,hf⟩:=h2 s hl
  simp only[h1',hp,Option.getD_some,if_true]
  unfold Ry YY
  rw[hf.o3,hf.o4]
end Vm
end
section
namespace Vm
open Go Go.Proofs Go.RowKit
def SeqP{α:Type}(F:Fence)(n:Nat)(P:Program)(g:Nat)(lb:Array Value)(encs:α→Array Value)(Kp:World→World→Prop)(S:List α→World→Prop)(Pp:List PanicEntry→List α→World→Prop)(N:Nat)(bt:Option Nat)(Ex:World→Prop)(w:World):Prop:=
 ∀(l:Nat) (J:List α→World→Prop) (W:World),Below w.heap.size w W→(∀pre W,J pre W→Ex W)→(∀s A B row,J s A→A.grownBy B row→(∀r,row=some r→some r=bt)→J s B)→
  (∀pre x W1,J pre W1→pre.length<N→YieldAt F (n-1) P l (encs x) W1 fun e W'=>e= .returned (.bool true)∧J (pre++ [x]) W'∧Kp W1 W')→
  J [] W→
  CallsIn F n P g (#[.func (.yield l) #[] #[]]++lb) W fun e W'=>(∃v xs,e= .returned v∧S xs W'∧J xs W')∨(∃chain pre,e= .panicked chain∧Pp chain pre W'∧J pre W')
def Z4U{α:Type}(B:Nat)(Kp:World→World→Prop)(I:List α→World→Prop)(xs:List α)(W:World):Exit→Act→World→Prop
 | .normal,_,W'=>KeepsFrom B W W'∧Kp W W'∧I xs W'
 |_,_,_=>False
def OwnP{β:Type}(bt:Option Nat)(B:Nat)(I:β→World→Prop):Prop:=
 ∀s X Y row,I s X→X.grownBy Y row→(∀r,row=some r→some r=bt∨(B≤r∧ ∃o:Obj,X.heap[r]? =some o∧o.isCells=false))→I s Y
theorem OwnP.putObj{β:Type}{bt:Option Nat}{B:Nat}{I:β→World→Prop}(h:OwnP bt B I){s:β}{W:World}{l:Nat}{o:Obj}(o':Obj)(hs:I s W)(hB:B≤l)(hl:W.heap[l]? =some o)(ho:o.isCells=false):I s (W.putObj l o'):=
 h s W _ (some l) hs (grownBy_putObj' W l o') (fun r e=>by cases e;exact .inr ⟨hB,o,hl,ho⟩)
theorem OwnP.alloc{β:Type}{bt:Option Nat}{B:Nat}{I:β→World→Prop}(h:OwnP bt B I){s:β}{W:World}(o:Obj)(hs:I s W):I s (W.alloc o):=
 h s W _ none hs (World.grownBy_alloc W o none) (fun r e=>by cases e)
variable {F:Fence} {n:Nat} {P:Program}
theorem UT{α:Type}{g:Operand}{ps:Array Tmp}{assign body:Code}{Q:Exit→Act→World→Prop}{a:Act}{w:World}
  (hro:F.round=none) (h1:1≤n) {gf:Nat} {lb:Array Value} (hg:a.eval g= .func (.func gf) #[] lb) (hFg:F.fn gf) (eg: ∀args w,(callFunc gf args).run P w= .ok (.enter gf args) w)
  {encs:α→Array Value} {Kp:World→World→Prop} {S:List α→World→Prop} {Pp:List PanicEntry→List α→World→Prop} {N:Nat} {bt:Option Nat} {Ex:World→Prop} {w0:World} (hseq:SeqP F (n-1) P gf lb encs Kp S Pp N bt Ex w0)
  (hbt: ∀r,bt=some r→r<w.heap.size)
  (hKt: ∀ {A B C:World},Kp A B→Kp B C→Kp A C) (hKb: ∀(W:World) (l:Nat) (o o':Obj),w.heap.size≤l→W.heap[l]? =some o→o.isCells=false→o.isWalk=false→Kp W (W.putObj l o')) (hb0:Below w0.heap.size w0 w) (hps: ∀x,(encs x).size=ps.size)
  (I:List α→World→Prop) (hI:OwnP bt w.heap.size I) (hEx: ∀pre W,I pre W→Ex W) (h0:I [] w) (hS:OwnP none w.heap.size S) (Ax:α→Act→World→Prop) (hAx: ∀x a',OwnP none w.heap.size (fun(_:Unit) W=>Ax x a' W))
  (hassign: ∀(l:Nat) (pre:List α) (x:α) (W:World) (K:Act→World→Prop),I pre W→(∀a' W',KeepsFrom w.heap.size W W'→Kp W W'→I pre W'→Ax x a' W'→K a' W')→
   assign.wpIn (F.inRound l) (n-1-1) P (Exit.then K (fun _ _ _=>False)) {tmps:=(ps.zip (encs x)).foldl (fun t (p,v)=>t.setIfInBounds p v) a.tmps,defers:= []} W)
  (hbody: ∀(l:Nat) (pre:List α) (x:α) (a':Act) (W:World),I pre W→Ax x a' W→pre.length<N→body.wpIn (F.inRound l) (n-1-1) P (Z4U w.heap.size Kp I (pre++ [x]) W) a' W)
  (hdone: ∀(D:Nat) (xs:List α) (W:World),w.heap.size≤D→S xs W→I xs W→W.heap[D]? =some (.deferred (some []))→Q .normal {a with defers:= {target:= .collected D,args:= #[]}::a.defers} W)
  (hpanic: ∀(D:Nat) (chain:List PanicEntry) (pre:List α) (W:World),w.heap.size≤D→Pp chain pre W→I pre W→W.heap[D]? =some (.deferred (some []))→Q (.panic chain) {a with defers:= {target:= .collected D,args:= #[]}::a.defers} W):
  (Code.rangeFunc g ps assign body).wpIn F n P Q a w:=by
 refine wpIn_rangeFunc fun fn hfn=> ?_
 rw[hro]
 obtain⟨rec,hrec⟩: ∃rec:LoopState→Option Code→Loop,rec=fun st pe=> {state:=st,pending:=pe,fn,tmps:=a.tmps,params:=ps,assign,body,defers:=w.heap.size}:=⟨_,rfl⟩
 obtain⟨W1,hW1⟩: ∃W1,(w.alloc (.deferred (some []))).alloc (.loop (rec .ready none))=W1:=⟨_,rfl⟩
 have hL1:W1.heap[w.heap.size+1]? =some (.loop (rec .ready none)):=by
  have:=World.alloc_heap_new (w.alloc (.deferred (some []))) (.loop (rec .ready none))
  rw[World.size_alloc]at this
  rw[←hW1];exact this
 have hK1:W1.heap[w.heap.size]? =some (.deferred (some [])):=by
  rw[←hW1];exact(Below.heap_alloc _ _ _ (by simp)).trans (World.alloc_heap_new w _)
 have hb1:Below w0.heap.size w0 W1:=by
  rw[←hW1];exact hb0.trans ((((Below.refl _ w).alloc (Nat.le_refl _) _).alloc (by simp) _).mono hb0.size)
 refine⟨w.heap.size+1,[{target:= .collected w.heap.size,args:= #[]}],W1,{target:= .fn (.func gf) lb,args:= #[.func (.yield (w.heap.size+1)) #[] #[]]},W1,gf,
  #[.func (.yield (w.heap.size+1)) #[] #[]]++lb,W1,?_,?_,?_,?_,fun _=>h1,?_⟩
 ·rw[←hW1,hrec];exact run_enterLoop_outer _ _ _ _ _
 ·simp only[resolve,hg]
  simp[go_sem]
 ·intro f' hf';simp[Target.leads]at hf';subst hf';exact hFg
 ·simp[invoke,go_sem,eg]
 have hrow: ∀ {A B:World} {row:Option Nat} {k:Nat} {o:Obj},A.grownBy B row→(∀r,row=some r→some r=bt)→w.heap.size≤k→A.heap[k]? =some o→B.heap[k]? =some o:=by
  intro A B row k o hgr hr hk ho
  refine(hgr.block k (Array.getElem?_eq_some_iff.1 ho).1 fun e=> ?_).trans ho
  have:=hbt k (hr k e.symm).symm
  omega
 refine(hseq (w.heap.size+1) (fun pre W=>I pre W∧W.heap[w.heap.size+1]? =some (.loop (rec .ready none))∧W.heap[w.heap.size]? =some (.deferred (some []))) W1 hb1 (fun pre W h=>hEx pre W h.1)
  (fun s A B row hs hgr hr=>⟨hI s A B row hs.1 hgr (fun r e=> .inl (hr r e)),hrow hgr hr (by omega) hs.2.1,hrow hgr hr (Nat.le_refl _) hs.2.2⟩) ?_ ⟨by rw[←hW1];exact hI.alloc _ (hI.alloc _ h0),hL1,hK1⟩).mono ?_
 ·rintro pre x W ⟨hi,hl,hk⟩ hlen
  have hy:=run_yield (P:=P) (args:=encs x) hl (by rw[hrec];exact hps x)
  rw[hrec]at hy
  refine⟨fn,_,assign,body,hy,roundIn_of_wpIn hfn (hassign _ pre x W _ hi ?_)⟩
  intro a' V hkf hkp hiV hax
  have hlV:=hkf.same _ _ (by omega) hl rfl
  have hkV:=hkf.same _ _ (Nat.le_refl _) hk rfl
  have hlt:w.heap.size+1<V.heap.size:=(Array.getElem?_eq_some_iff.1 hlV).1
  refine⟨_,run_beginRound hlV (by rw[hrec]),?_⟩
  have hl2:(V.putObj (w.heap.size+1) (.loop {rec .ready none with state:= .busy})).heap[w.heap.size+1]? =some (.loop {rec .ready none with state:= .busy}):=World.putObj_heap_same hlt
  have hk2:(V.putObj (w.heap.size+1) (.loop {rec .ready none with state:= .busy})).heap[w.heap.size]? =some (.deferred (some [])):=(World.putObj_heap_other (by omega)).trans hkV
  have hp2:Kp V (V.putObj (w.heap.size+1) (.loop {rec .ready none with state:= .busy})):=hKb _ _ _ _ (by omega) hlV rfl rfl
  refine wpIn_mono (hbody _ pre x a' _ (hI.putObj _ hiV (by omega) hlV rfl) ((hAx x a').putObj (s:=()) _ hax (by omega) hlV rfl) hlen) ?_
  rintro e a3 W3 hp
  cases e with
  |normal=>
   obtain⟨hk3,hkp3,hi3⟩:=hp
   have hl3:=hk3.same _ _ (by omega) hl2 rfl
   have hd3:=hk3.same _ _ (Nat.le_refl _) hk2 rfl
   have hend:=run_endRound (P:=P) none hl3
   refine⟨_,_,hend,rfl,⟨hI.putObj _ hi3 (by omega) hl3 rfl,?_,(World.putObj_heap_other (by omega)).trans hd3⟩,hKt hkp (hKt (hKt hp2 hkp3) (hKb _ _ _ _ (by omega) hl3 rfl rfl))⟩
   rw[World.putObj_heap_same (Array.getElem?_eq_some_iff.1 hl3).1,hrec]
   rfl
  |ret=>exact hp.elim
  |exit id=>exact hp.elim
  |goto t=>exact hp.elim
  |panic ch=>exact hp.elim
  |outgrown=>exact hp.elim
 ·rintro e W2 (⟨v,xs,rfl,hs,hi,hl,hk⟩ | ⟨chain,pre,rfl,hp,hi,hl,hk⟩)
  ·have hend:=run_endLoop (P:=P) hl (by rw[hrec];simp)
   rw[hrec]at hend
   exact⟨none,_,hend,hdone _ xs _ (Nat.le_refl _) (hS.putObj _ hs (by omega) hl rfl) (hI.putObj _ hi (by omega) hl rfl) ((World.putObj_heap_other (by omega)).trans hk)⟩
  ·exact hpanic _ chain pre _ (Nat.le_refl _) hp hi hk
end Vm
end
section
namespace Vm
open Go
open Go.Proofs
set_option maxRecDepth 100000
def p128:Fn:=⟨4,[0,2,3,4],
(.seq
(.reg ⟨[],[],[(1,.v (.c (.bool false)))]⟩)
(.seq
(.reg ⟨[.call 4 [] (.id 59) false false [(.s 0)]],[],[(2,.v (.ext (.s 4) 0)),(3,.v (.ext (.s 4) 1))]⟩)
(.seq
(.reg ⟨[.lt 5 [] (.bin .eql (.s 0) (.c (.int .u64 (0))))],[([(5,false)],(.bin .eql (.s 3) (.c (.int .i64 (0)))))],[(1,.v (.ite (.s 5) (.c (.bool true)) (.bin .eql (.s 3) (.c (.int .i64 (0))))))]⟩)
.ret))),
[(1,.v)]⟩
theorem c128:Zf Try.prog fresh sig [.fz] [] Try.f128=some p128:=by kernel_rfl
end Vm
end
section
namespace Vm
open Go Go.Proofs Go.RowKit
set_option maxHeartbeats 1000000
set_option maxRecDepth 100000
theorem LY{x:Int}(hx:U64 x):VC Try.prog 128 false [vu x] (.bool (Vv x)):=by
 refine Z7 Try.func128 follows (by kernel_rfl) c128 rfl ?_
 simp[p128]
 refine Z0 (Lp hx) (by simp) ?_
 by_cases h:x=0<;>simp[Vv,h]
theorem VU{x:Int}(hx:U64 x)(w:World):Calls Try.prog 128 #[.int .u64 x] w fun e w'=>e= .returned (.bool (Vv x))∧Below w.heap.size w w':=
 Yl (LY hx) rfl rfl w
structure Words (w:World) (ws:List Int) (g o cap:Nat):Prop where
 at_: ∀(i:Nat) (x:Int),ws[i]? =some x→w.cell? ⟨g,o+i,none⟩=some (.int .u64 x)
 le:ws.length≤cap
 cap:cap≤maxLen
 len:ws.length≤1000000
 u64: ∀x∈ws,U64 x
def X8(e:Int):List PanicEntry:= [{v:= .iface 182 (.agg #[.int .i64 e]),recovered:=false}]
def obA(o:Ob):Value:= .agg #[.int .i64 o.at_,.int .i64 o.size,.int .i64 o.ptrs,.bool o.gone,.int .u64 o.target]
def Z0k(ws:List Int)(o:Ob):Ending:=
 if(ws.length:Int) <o.at_+1+o.size then .panicked (X8 2)else if ZM ((ws.drop (o.at_.toNat+1)).take o.size.toNat) o.gone o.ptrs 0=false then .panicked (X8 3)else .returned (.tuple #[])
theorem qW(w:World)(ws:List Int)(g o cap:Nat)(hw:Words w ws g o cap)(hg:g<w.heap.size)(ob:Ob)(a:Nat)(ha:ob.at_=a)(hlt:a<ws.length)(hsh:Zl ob.size ob.ptrs=true):
  Calls Try.prog 127 #[.slice (some ⟨g,o,none⟩) ws.length cap,obA ob] w fun e w'=>e=Z0k ws ob∧Below w.heap.size w w':=by
 have hl:=hw.len
 have hc:=hw.le
 have hm:=hw.cap
 obtain⟨at_,size,ptrs,gone,target⟩:=ob
 simp only at ha hsh
 subst ha
 obtain⟨s1,s2,s3,s4⟩:=Z4.1 hsh
 obtain⟨m,rfl⟩:=Int.eq_ofNat_of_zero_le s1
 have HW:=Lib.hid hw
 have he:Z0k ws ⟨a,m,ptrs,gone,target⟩=if(ws.length:Int) <a+1+m then .panicked (X8 2)else if ZM ((ws.drop (a+1)).take m) gone ptrs 0=false then .panicked (X8 3)else .returned (.tuple #[]):=rfl
 generalize Z0k ws ⟨a,m,ptrs,gone,target⟩=E at*
 unfold obA
 dsimp only
 by_cases hfit:(ws.length:Int) <a+1+m
 ·rw[if_pos hfit]at he
  have HE:=Lib.hid he
  clear he
  have hlt2:((ws.length- (a+1):Nat):Int) <m:=by omega
  go_enter Try.func127,Try.ntmps127
  go_wp2
  all_goals exact⟨rfl,HE.out.symm,(Below.refl _ _).alloc (Nat.le_refl _) _⟩
 ·rw[if_neg hfit]at he
  have HE:=Lib.hid he
  clear he
  have hge2:(m:Int)≤((ws.length- (a+1):Nat):Int):=by omega
  have hge3:m≤ws.length- (a+1):=by omega
  have hnlt:(ws.length- (a+1) <m)=False:=eq_false (by omega)
  have hcm:m≤cap- (a+1):=by omega
  have hm5:m≤255:=by omega
  clear hw hfit
  by_cases hcap:cap=a+1
  ·have hm0:m=0:=by omega
   subst hm0
   subst hcap
   go_enter Try.func127,Try.ntmps127
   go_wp2
   go_loopw [26] (fun i wr=>i= .int .i64 0∧Hid (Below w.heap.size w wr)) (fun i _=>0)
   case atStart=>exact⟨rfl,Lib.hid ((Below.refl _ _).alloc (Nat.le_refl _) _)⟩
   case round=>
    obtain⟨rfl,HB⟩:=hrel
    go_wp2
    go_end0
    exact⟨HE.out.symm,HB.out⟩
  ·go_enter Try.func127,Try.ntmps127
   go_wp2
   go_loopw [26] (fun i wr=> ∃k:Nat,i= .int .i64 k∧k≤m∧Hid (Below w.heap.size w wr∧wr.heap[w.heap.size]? =some (.cells #[.int .i64 a,.int .i64 m,.int .i64 ptrs,.bool gone,.int .u64 target] 49 (0,0))∧
     ZM ((ws.drop (a+1)).take m) gone ptrs 0=ZM (((ws.drop (a+1)).take m).drop k) gone ptrs k)) (fun i _=>m- (intOf i).toNat)
   case atStart=>exact⟨0,rfl,by omega,Lib.hid ⟨(Below.refl _ _).alloc (Nat.le_refl _) _,heap_alloc_new w _,rfl⟩⟩
   case round=>
    obtain⟨k,rfl,hk,HI⟩:=hrel
    by_cases hlt:k<m
    ·obtain⟨x,hx⟩: ∃x,ws[a+1+k]? =some x:=⟨_,List.getElem?_eq_getElem (by omega)⟩
     have hu:U64 x:=HW.out.u64 x (List.mem_of_getElem? hx)
     have hT:((ws.drop (a+1)).take m)[k]? =some x:=by
      rw[List.getElem?_take,if_pos hlt,List.getElem?_drop];exact hx
     have c0:wr.cell? ⟨g,o+(a+1)+k,none⟩=some (.int .u64 x):=by
      rw[Nat.add_assoc]
      exact(HI.out.1.cell (p:=⟨g,o+(a+1+k),none⟩) hg).trans (HW.out.at_ _ _ hx)
     have c1:wr.cell? ⟨w.heap.size,1,none⟩=some (.int .i64 m):=by rw[cell_of_row _ _ _ _ _ _ HI.out.2.1];rfl
     have c2:wr.cell? ⟨w.heap.size,2,none⟩=some (.int .i64 ptrs):=by rw[cell_of_row _ _ _ _ _ _ HI.out.2.1];rfl
     have c3:wr.cell? ⟨w.heap.size,3,none⟩=some (.bool gone):=by rw[cell_of_row _ _ _ _ _ _ HI.out.2.1];rfl
     have hs:=QF (gone:=gone) (ptrs:=ptrs) hT
     have hlt':(k:Int) <m:=by omega
     have hbs:=Zk HI.out.2.1
     clear hx hT
     have stop:ZM (((ws.drop (a+1)).take m).drop k) gone ptrs k=false→E= .panicked (X8 3):=fun h=>by
      rw[HE.out,HI.out.2.2,h,if_pos rfl]
     cases gone
     ·by_cases hp:(k:Int) <ptrs
      ·cases hip:Vv x
       ·have HE2:=Lib.hid (stop (by rw[hs];simp[hip,hp]))
        clear stop hs
        go_wp2_with (go_at_call 128;refine(VU hu _).mono ?_;rintro e w1 ⟨rfl,hb1⟩;have HB1:=Lib.hid hb1;clear hb1)
        exact⟨rfl,HE2.out.symm,HI.out.1.trans (HB1.out.mono HI.out.1.size)⟩
       ·have HS:=Lib.hid (hs.trans (by simp[hip]:_=ZM (((ws.drop (a+1)).take m).drop (k+1)) false ptrs (k+1)))
        clear stop hs
        go_wp2_with (go_at_call 128;refine(VU hu _).mono ?_;rintro e w1 ⟨rfl,hb1⟩;have HB1:=Lib.hid hb1;clear hb1)
        go_wp2
        go_roundw
        case rel=>
         exact⟨k+1,by go_num,by omega,Lib.hid ⟨HI.out.1.trans (HB1.out.mono HI.out.1.size),(HB1.out.block _ hbs).trans HI.out.2.1,HI.out.2.2.trans HS.out⟩⟩
        case measure=>simp[intOf];omega
      ·have HS:=Lib.hid (hs.trans (by simp[hp]:_=ZM (((ws.drop (a+1)).take m).drop (k+1)) false ptrs (k+1)))
       clear stop hs
       go_wp2
       go_roundw
       case rel=>exact⟨k+1,by go_num,by omega,Lib.hid ⟨HI.out.1,HI.out.2.1,HI.out.2.2.trans HS.out⟩⟩
       case measure=>simp[intOf];omega
     ·by_cases h0:x=0
      ·subst h0
       have HS:=Lib.hid (hs.trans (by simp[Vv]:_=ZM (((ws.drop (a+1)).take m).drop (k+1)) true ptrs (k+1)))
       clear stop hs
       go_wp2
       go_roundw
       case rel=>exact⟨k+1,by go_num,by omega,Lib.hid ⟨HI.out.1,HI.out.2.1,HI.out.2.2.trans HS.out⟩⟩
       case measure=>simp[intOf];omega
      ·have HE2:=Lib.hid (stop (by rw[hs];simp[h0]))
       clear stop hs
       go_wp2
       exact⟨rfl,HE2.out.symm,HI.out.1⟩
    ·have:k=m:=by omega
     subst this
     have h3:=HI.out.2.2
     have hd:((ws.drop (a+1)).take k).drop k= []:=List.drop_of_length_le (by rw[List.length_take];omega)
     rw[hd]at h3
     have HE2:=Lib.hid (HE.out.trans (by rw[h3];rfl:_=Ending.returned (.tuple #[])))
     clear h3 hd
     go_wp2
     go_end0
     exact⟨HE2.out.symm,HI.out.1⟩
end Vm
namespace Vm
open Go Go.Proofs Go.RowKit
set_option maxHeartbeats 1000000
set_option maxRecDepth 100000
theorem Z0S(w:World):Sem.run Try.prog (binOp .neq 183 .nilFunc .nilFunc) w= .ok (.bool false) w:=by rfl
theorem yc(w:World)(f:FuncId)(vs:Array Value):Sem.run Try.prog (binOp .neq 183 (.func (.func f) #[] vs) .nilFunc) w= .ok (.bool true) w:=by rfl
theorem row5{w:World}{b:Nat}{T:TypeId}{v0 v1 v2 v3 v4:Value}(h:w.heap[b]? =some (.cells #[v0,v1,v2,v3,v4] T (0,0))) (O:Obj):
  ((w.alloc O).cell? ⟨b,0,none⟩=some v0∧(w.alloc O).cell? ⟨b,1,none⟩=some v1∧(w.alloc O).cell? ⟨b,2,none⟩=some v2∧(w.alloc O).cell? ⟨b,3,none⟩=some v3∧(w.alloc O).cell? ⟨b,4,none⟩=some v4)∧
  (w.alloc O).frozen? ⟨b,0,none⟩=false∧(w.alloc O).frozen? ⟨b,1,none⟩=false∧(w.alloc O).frozen? ⟨b,2,none⟩=false∧(w.alloc O).frozen? ⟨b,3,none⟩=false∧(w.alloc O).frozen? ⟨b,4,none⟩=false:=by
 have h':(w.alloc O).heap[b]? =some (.cells #[v0,v1,v2,v3,v4] T (0,0)):=(Below.heap_alloc _ _ _ (Zk h)).trans h
 refine⟨⟨?_,?_,?_,?_,?_⟩,Zb h',Zb h',Zb h',Zb h',Zb h'⟩<;>(rw[cell_of_row _ _ _ _ _ _ h'];rfl)
def begE(a:Nat)(x:Int):Ending:=if(unpk x).2.2=0 then .returned (obA ⟨a,(unpk x).1,(unpk x).2.1,false,0⟩)else .panicked (X8 3)
theorem qL(w:World)(ws:List Int)(g o cap:Nat)(hw:Words w ws g o cap)(hg:g<w.heap.size)(a:Nat)(x:Int)(hx:ws[a]? =some x):
  Calls Try.prog 126 #[.slice (some ⟨g,o,none⟩) ws.length cap,.int .i64 a,.nilFunc] w fun e w'=>e=begE a x∧Below w.heap.size w w':=by
 have hl:=hw.len
 have hc:=hw.le
 have hm:=hw.cap
 have hlt:a<ws.length:=(List.getElem?_eq_some_iff.1 hx).1
 have hlt':(a:Int) <ws.length:=by omega
 have hu:U64 x:=hw.u64 x (List.mem_of_getElem? hx)
 have c0:=hw.at_ a x hx
 have cc: ∀W,Below w.heap.size w W→W.cell? ⟨g,o+a,none⟩=some (.int .u64 x):=fun W hb=>(hb.cell (p:=⟨g,o+a,none⟩) hg).trans c0
 have he:begE a x=if(unpk x).2.2=0 then .returned (obA ⟨a,(unpk x).1,(unpk x).2.1,false,0⟩)else .panicked (X8 3):=rfl
 generalize begE a x=E at*
 have HC:=Lib.hid cc
 have hnil:=Z0S
 clear hw hx cc
 by_cases h0:(unpk x).2.2=0
 ·rw[if_pos h0]at he
  have HE:=Lib.hid he
  clear he
  go_enter Try.func126,Try.ntmps126
  go_wp2_with (first
   | (go_at_call 59;refine(Zh hu _).mono ?_;rintro e w1 ⟨rfl,hb1⟩;have HB1:=Lib.hid hb1;have d0:=HC.out w1 (((((Below.refl _ w).alloc (Nat.le_refl _) _).alloc (by simp) _).trans (hb1.mono (by simp;omega))));clear hb1)
   | (go_at_call 62;refine(ZG hu _).mono ?_;rintro e w2 ⟨rfl,hb2⟩;have HB2:=Lib.hid hb2
      have hB:=HB1.out.block
      have r0:w2.heap[w.heap.size]? =some (.cells #[.int .i64 0,.int .i64 0,.int .i64 0,.bool false,.int .u64 0] 49 (0,0)):=(hb2.block _ (by have:=HB1.out.size;simp at this;omega)).trans ((HB1.out.block _ (by simp;omega)).trans ((Below.heap_alloc _ _ _ (by simp)).trans (heap_alloc_new w _)))
      have r1:w2.heap[w.heap.size+1]? =some (.cells #[.int .i64 a,.int .i64 0,.int .i64 0,.bool false,.int .u64 0] 49 (0,0)):=(hb2.block _ (by have:=HB1.out.size;simp at this;omega)).trans ((HB1.out.block _ (by simp)).trans (by have:=heap_alloc_new (w.alloc (.cells #[.int .i64 0,.int .i64 0,.int .i64 0,.bool false,.int .u64 0] 49)) (.cells #[.int .i64 a,.int .i64 0,.int .i64 0,.bool false,.int .u64 0] 49);simpa using this))
      obtain⟨⟨x0,x1,x2,x3,x4⟩,y0,y1,y2,y3,y4⟩:=row5 r0 (.cells #[.int .i64 (unpk x).1,.int .i64 (unpk x).2.1] 47)
      obtain⟨⟨p0,p1,p2,p3,p4⟩,q0,q1,q2,q3,q4⟩:=row5 r1 (.cells #[.int .i64 (unpk x).1,.int .i64 (unpk x).2.1] 47)
      have HR:=Lib.hid (And.intro r0 r1)
      clear hb2 hB r0 r1))
  refine bodyPost_ret (v:=obA ⟨a,(unpk x).1,(unpk x).2.1,false,0⟩) ?_ rfl ⟨HE.out.symm,?_⟩
  ·simp[results,Try.results126,go_sem,obA,x0,x1,x2,x3,x4]
  ·have h1:=(((Below.refl _ w).alloc (Nat.le_refl _) (.cells #[.int .i64 0,.int .i64 0,.int .i64 0,.bool false,.int .u64 0] 49)).alloc (by simp) (.cells #[.int .i64 a,.int .i64 0,.int .i64 0,.bool false,.int .u64 0] 49)).trans (HB1.out.mono (by simp;omega))
   have h2:=(h1.trans (HB2.out.mono (by have:=h1.size;omega))).alloc (by have:=h1.size;have:=HB2.out.size;omega) (.cells #[.int .i64 (unpk x).1,.int .i64 (unpk x).2.1] 47)
   exact((((((h2.setCell (p:=⟨w.heap.size+1,1,none⟩) (by simp) _).setCell (p:=⟨w.heap.size+1,2,none⟩) (by simp) _).setCell (p:=⟨w.heap.size,0,none⟩) (Nat.le_refl _) _).setCell (p:=⟨w.heap.size,1,none⟩) (Nat.le_refl _) _).setCell (p:=⟨w.heap.size,2,none⟩) (Nat.le_refl _) _).setCell (p:=⟨w.heap.size,3,none⟩) (Nat.le_refl _) _).setCell (p:=⟨w.heap.size,4,none⟩) (Nat.le_refl _) _
 ·rw[if_neg h0]at he
  have HE:=Lib.hid he
  clear he
  have h0':((unpk x).2.2=0)=False:=eq_false h0
  go_enter Try.func126,Try.ntmps126
  go_wp2_with (first
   | (go_at_call 59;refine(Zh hu _).mono ?_;rintro e w1 ⟨rfl,hb1⟩;have HB1:=Lib.hid hb1;have d0:=HC.out w1 (((((Below.refl _ w).alloc (Nat.le_refl _) _).alloc (by simp) _).trans (hb1.mono (by simp;omega))));clear hb1)
   | (go_at_call 62;refine(ZG hu _).mono ?_;rintro e w2 ⟨rfl,hb2⟩;have HB2:=Lib.hid hb2;clear hb2))
  refine⟨rfl,HE.out.symm,?_⟩
  have h1:=(((Below.refl _ w).alloc (Nat.le_refl _) (.cells #[.int .i64 0,.int .i64 0,.int .i64 0,.bool false,.int .u64 0] 49)).alloc (by simp) (.cells #[.int .i64 a,.int .i64 0,.int .i64 0,.bool false,.int .u64 0] 49)).trans (HB1.out.mono (by simp;omega))
  exact(h1.trans (HB2.out.mono (by have:=h1.size;omega))).alloc (by have:=h1.size;have:=HB2.out.size;omega) _
end Vm
namespace Vm
open Go Go.Proofs Go.RowKit
set_option maxHeartbeats 1000000
set_option maxRecDepth 100000
theorem U1(s p:Int)(w:World):Calls Try.prog 81 #[.agg #[.int .i64 s,.int .i64 p]] w fun e w'=>e= .returned (.bool (Zl s p))∧Below w.heap.size w w':=
 Yl QP rfl rfl w
structure Shps (w:World) (shs:List (Int×Int)) (bs:Nat) (v:Value):Prop where
 box:w.heap[bs]? =some (.cells #[v] 159 (0,0))
 val:(∃g o cap,v= .slice (some ⟨g,o,none⟩) shs.length cap∧shs.length≤cap∧cap≤maxLen∧g<w.heap.size∧ ∀(i:Nat) (x:Int×Int),shs[i]? =some x→w.cell? ⟨g,o+i*2,none⟩=some (.int .i64 x.1)∧w.cell? ⟨g,o+i*2+1,none⟩=some (.int .i64 x.2))∨
  (∃a cap,v= .slice a 0 cap∧shs= [])
theorem jW(w:World)(shs:List (Int×Int))(bt bs:Nat)(v:Value)(hl:shs.length≤1000000)(hs:Shps w shs bs v)(hb:w.heap[bt]? =some (.cells #[.int .i64 shs.length] 3 (0,0))):
  Calls Try.prog 121 #[.pointer (some ⟨bt,0,none⟩),.pointer (some ⟨bs,0,none⟩)] w fun e w'=>e= .panicked (X8 3)∧Below w.heap.size w w':=by
 have c0:w.cell? ⟨bt,0,none⟩=some (.int .i64 shs.length):=by rw[cell_of_row _ _ _ _ _ _ hb];rfl
 have hbl:=Zk hb
 have hbl2:=Zk hs.box
 have c1:w.cell? ⟨bs,0,none⟩=some v:=by rw[cell_of_row _ _ _ _ _ _ hs.box];rfl
 rcases hs.val with ⟨g,o,cap,rfl,h1,h2,h3,h4⟩ | ⟨a,cap,rfl,rfl⟩
 ·clear h4 hs hb
  go_enter Try.func121,Try.ntmps121
  go_wp2
  exact⟨rfl,rfl,(Below.refl _ _).alloc (Nat.le_refl _) _⟩
 ·clear hs hb
  simp only[List.length_nil]at c0
  go_enter Try.func121,Try.ntmps121
  go_wp2
  exact⟨rfl,rfl,(Below.refl _ _).alloc (Nat.le_refl _) _⟩
theorem jN(w:World)(shs:List (Int×Int))(bt bs t:Nat)(v:Value)(x:Int×Int)(hl:shs.length≤1000000)(hs:Shps w shs bs v)(hb:w.heap[bt]? =some (.cells #[.int .i64 t] 3 (0,0))) (hx:shs[t]? =some x) (hn:Zl x.1 x.2=false):
  Calls Try.prog 121 #[.pointer (some ⟨bt,0,none⟩),.pointer (some ⟨bs,0,none⟩)] w fun e w'=>e= .panicked (X8 3)∧Below w.heap.size w w':=by
 have c0:w.cell? ⟨bt,0,none⟩=some (.int .i64 t):=by rw[cell_of_row _ _ _ _ _ _ hb];rfl
 have hbl:=Zk hb
 have hbl2:=Zk hs.box
 have hlt:t<shs.length:=(List.getElem?_eq_some_iff.1 hx).1
 have hne: ¬t=shs.length:=by omega
 have hlt':(t:Int) <shs.length:=by omega
 have c1:w.cell? ⟨bs,0,none⟩=some v:=by rw[cell_of_row _ _ _ _ _ _ hs.box];rfl
 rcases hs.val with ⟨g,o,cap,rfl,h1,h2,h3,h4⟩ | ⟨a,cap,rfl,rfl⟩
 ·obtain⟨d0,d1⟩:=h4 t x hx
  have e2:=U1 x.1 x.2
  rw[hn]at e2
  clear h4 hs hb hx hn
  go_enter Try.func121,Try.ntmps121
  go_wp2_with (go_at_call 81;refine(e2 _).mono ?_;rintro e w1 ⟨rfl,hb1⟩;have HB1:=Lib.hid hb1;clear hb1)
  exact⟨rfl,rfl,((Below.refl _ w).alloc (Nat.le_refl _) _).trans (HB1.out.mono (by simp))⟩
 ·simp at hx
theorem Z1t(w:World)(shs:List (Int×Int))(bt bs t:Nat)(v:Value)(x:Int×Int)(hl:shs.length≤1000000)(hs:Shps w shs bs v)(hb:w.heap[bt]? =some (.cells #[.int .i64 t] 3 (0,0))) (hx:shs[t]? =some x) (hn:Zl x.1 x.2=true) (hbs:bs≠bt)
  (hgb: ∀g o cap,v= .slice (some ⟨g,o,none⟩) shs.length cap→g≠bt):
  Calls Try.prog 121 #[.pointer (some ⟨bt,0,none⟩),.pointer (some ⟨bs,0,none⟩)] w fun e w'=>e= .returned (.agg #[.int .i64 x.1,.int .i64 x.2])∧w.grownBy w' (some bt)∧w'.heap[bt]? =some (.cells #[.int .i64 ((t+1:Nat):Int)] 3 (0,0)):=by
 have c0:w.cell? ⟨bt,0,none⟩=some (.int .i64 t):=by rw[cell_of_row _ _ _ _ _ _ hb];rfl
 have hbl:=Zk hb
 have hbl2:=Zk hs.box
 have hlt:t<shs.length:=(List.getElem?_eq_some_iff.1 hx).1
 have hne: ¬t=shs.length:=by omega
 have hlt':(t:Int) <shs.length:=by omega
 have c1:w.cell? ⟨bs,0,none⟩=some v:=by rw[cell_of_row _ _ _ _ _ _ hs.box];rfl
 have hf:=Zb (o:=0) hb
 have hbs': ¬bs=bt:=hbs
 have hbs2: ¬bt=bs:=fun e=>hbs e.symm
 rcases hs.val with ⟨g,o,cap,rfl,h1,h2,h3,h4⟩ | ⟨a,cap,rfl,rfl⟩
 ·obtain⟨d0,d1⟩:=h4 t x hx
  have hg:=hgb g o cap rfl
  have e2:=U1 x.1 x.2
  rw[hn]at e2
  have HB:=Lib.hid hb
  clear h4 hs hb hx hn hgb
  go_enter Try.func121,Try.ntmps121
  go_wp2_with (go_at_call 81;refine(e2 _).mono ?_;rintro e w1 ⟨rfl,hb1⟩
               have HB1:=Lib.hid hb1
               have s1:=hb1.size
               have k0:w1.cell? ⟨bt,0,none⟩=some (.int .i64 t):=(hb1.cell (p:=⟨bt,0,none⟩) (by simp;omega)).trans ((World.cell?_alloc_lt _ _ _ hbl).trans c0)
               have k1:w1.frozen? ⟨bt,0,none⟩=false:=Zb ((hb1.block bt (by simp;omega)).trans ((Below.heap_alloc _ _ _ hbl).trans HB.out))
               have k2:w1.cell? ⟨bs,0,none⟩=some (.slice (some ⟨g,o,none⟩) shs.length cap):=(hb1.cell (p:=⟨bs,0,none⟩) (by simp;omega)).trans ((World.cell?_alloc_lt _ _ _ hbl2).trans c1)
               have k3:w1.cell? ⟨g,o+t*2,none⟩=some (.int .i64 x.1):=(hb1.cell (p:=⟨g,o+t*2,none⟩) (by simp;omega)).trans ((World.cell?_alloc_lt _ _ _ h3).trans d0)
               have k4:w1.cell? ⟨g,o+t*2+1,none⟩=some (.int .i64 x.2):=(hb1.cell (p:=⟨g,o+t*2+1,none⟩) (by simp;omega)).trans ((World.cell?_alloc_lt _ _ _ h3).trans d1)
               have r0:w1.heap[w.heap.size]? =some (.cells #[.int .i64 0,.int .i64 0] 47 (0,0)):=(hb1.block _ (by simp)).trans (heap_alloc_new w _)
               have x0:w1.cell? ⟨w.heap.size,0,none⟩=some (.int .i64 0):=by rw[cell_of_row _ _ _ _ _ _ r0];rfl
               have x1:w1.cell? ⟨w.heap.size,1,none⟩=some (.int .i64 0):=by rw[cell_of_row _ _ _ _ _ _ r0];rfl
               have y0:=Zb (o:=0) r0
               have y1:=Zb (o:=1) r0
               have n1: ¬w.heap.size=bt:=by omega
               have n2: ¬bt=w.heap.size:=by omega
               have HR:=Lib.hid r0
               clear hb1 r0)
  have hB:Below w.heap.size w w1:=((Below.refl _ w).alloc (Nat.le_refl _) (.cells #[.int .i64 0,.int .i64 0] 47)).trans (HB1.out.mono (by simp))
  have hw1:w1.heap[bt]? =some (.cells #[.int .i64 t] 3 (0,0)):=(hB.block bt hbl).trans HB.out
  refine bodyPost_ret (v:= .agg #[.int .i64 x.1,.int .i64 x.2]) ?_ rfl ⟨rfl,⟨hB.os,hB.tape,hB.output,?_,fun k hk hne=> ?_⟩,?_⟩
  ·simp[results,Try.results121,go_sem,x0,x1,n1,n2]
  ·simp[World.setCell];exact hB.size
  ·have hkb:k≠bt:=fun e=>hne (by rw[e])
   rw[Below.heap_setCell _ _ _ _ (by show k≠w.heap.size;omega),Below.heap_setCell _ _ _ _ (by show k≠w.heap.size;omega),Below.heap_setCell _ _ _ _ hkb]
   exact hB.block k hk
  ·rw[Below.heap_setCell _ _ _ _ (by show bt≠w.heap.size;omega),Below.heap_setCell _ _ _ _ (by show bt≠w.heap.size;omega)]
   simp[World.setCell,Array.getElem?_modify,hw1]
 ·simp at hx
end Vm
namespace Vm
open Go Go.Proofs Go.RowKit
set_option maxHeartbeats 1000000
set_option maxRecDepth 100000
theorem Q5(w:World)(f:FuncId)(vs:Array Value)(ws:List Int)(g o cap:Nat)(hw:Words w ws g o cap)(hg:g<w.heap.size)(a:Nat)(x:Int)(hx:ws[a]? =some x)(hna: ¬(adr x).2=0):
  Calls Try.prog 126 #[.slice (some ⟨g,o,none⟩) ws.length cap,.int .i64 a,.func (.func f) #[] vs] w fun e w'=>e=begE a x∧Below w.heap.size w w':=by
 have hl:=hw.len
 have hc:=hw.le
 have hm:=hw.cap
 have hlt:a<ws.length:=(List.getElem?_eq_some_iff.1 hx).1
 have hlt':(a:Int) <ws.length:=by omega
 have hu:U64 x:=hw.u64 x (List.mem_of_getElem? hx)
 have c0:=hw.at_ a x hx
 have cc: ∀W,Below w.heap.size w W→W.cell? ⟨g,o+a,none⟩=some (.int .u64 x):=fun W hb=>(hb.cell (p:=⟨g,o+a,none⟩) hg).trans c0
 have he:begE a x=if(unpk x).2.2=0 then .returned (obA ⟨a,(unpk x).1,(unpk x).2.1,false,0⟩)else .panicked (X8 3):=rfl
 generalize begE a x=E at*
 have HC:=Lib.hid cc
 have hfn:=fun W=>yc W f vs
 have hna':((adr x).2=0)=False:=eq_false hna
 clear hw hx cc
 by_cases h0:(unpk x).2.2=0
 ·rw[if_pos h0]at he
  have HE:=Lib.hid he
  clear he
  go_enter Try.func126,Try.ntmps126
  go_wp2_with (first
   | (go_at_call 59;refine(Zh hu _).mono ?_;rintro e w1 ⟨rfl,hb1⟩;have HB1:=Lib.hid hb1;have d0:=HC.out w1 (((((Below.refl _ w).alloc (Nat.le_refl _) _).alloc (by simp) _).trans (hb1.mono (by simp;omega))));clear hb1)
   | (go_at_call 62;refine(ZG hu _).mono ?_;rintro e w2 ⟨rfl,hb2⟩;have HB2:=Lib.hid hb2
      have hB:=HB1.out.block
      have r0:w2.heap[w.heap.size]? =some (.cells #[.int .i64 0,.int .i64 0,.int .i64 0,.bool false,.int .u64 0] 49 (0,0)):=(hb2.block _ (by have:=HB1.out.size;simp at this;omega)).trans ((HB1.out.block _ (by simp;omega)).trans ((Below.heap_alloc _ _ _ (by simp)).trans (heap_alloc_new w _)))
      have r1:w2.heap[w.heap.size+1]? =some (.cells #[.int .i64 a,.int .i64 0,.int .i64 0,.bool false,.int .u64 0] 49 (0,0)):=(hb2.block _ (by have:=HB1.out.size;simp at this;omega)).trans ((HB1.out.block _ (by simp)).trans (by have:=heap_alloc_new (w.alloc (.cells #[.int .i64 0,.int .i64 0,.int .i64 0,.bool false,.int .u64 0] 49)) (.cells #[.int .i64 a,.int .i64 0,.int .i64 0,.bool false,.int .u64 0] 49);simpa using this))
      obtain⟨⟨x0,x1,x2,x3,x4⟩,y0,y1,y2,y3,y4⟩:=row5 r0 (.cells #[.int .i64 (unpk x).1,.int .i64 (unpk x).2.1] 47)
      obtain⟨⟨p0,p1,p2,p3,p4⟩,q0,q1,q2,q3,q4⟩:=row5 r1 (.cells #[.int .i64 (unpk x).1,.int .i64 (unpk x).2.1] 47)
      have HR:=Lib.hid (And.intro r0 r1)
      clear hb2 hB r0 r1))
  refine bodyPost_ret (v:=obA ⟨a,(unpk x).1,(unpk x).2.1,false,0⟩) ?_ rfl ⟨HE.out.symm,?_⟩
  ·simp[results,Try.results126,go_sem,obA,x0,x1,x2,x3,x4]
  ·have h1:=(((Below.refl _ w).alloc (Nat.le_refl _) (.cells #[.int .i64 0,.int .i64 0,.int .i64 0,.bool false,.int .u64 0] 49)).alloc (by simp) (.cells #[.int .i64 a,.int .i64 0,.int .i64 0,.bool false,.int .u64 0] 49)).trans (HB1.out.mono (by simp;omega))
   have h2:=(h1.trans (HB2.out.mono (by have:=h1.size;omega))).alloc (by have:=h1.size;have:=HB2.out.size;omega) (.cells #[.int .i64 (unpk x).1,.int .i64 (unpk x).2.1] 47)
   exact((((((h2.setCell (p:=⟨w.heap.size+1,1,none⟩) (by simp) _).setCell (p:=⟨w.heap.size+1,2,none⟩) (by simp) _).setCell (p:=⟨w.heap.size,0,none⟩) (Nat.le_refl _) _).setCell (p:=⟨w.heap.size,1,none⟩) (Nat.le_refl _) _).setCell (p:=⟨w.heap.size,2,none⟩) (Nat.le_refl _) _).setCell (p:=⟨w.heap.size,3,none⟩) (Nat.le_refl _) _).setCell (p:=⟨w.heap.size,4,none⟩) (Nat.le_refl _) _
 ·rw[if_neg h0]at he
  have HE:=Lib.hid he
  clear he
  have h0':((unpk x).2.2=0)=False:=eq_false h0
  go_enter Try.func126,Try.ntmps126
  go_wp2_with (first
   | (go_at_call 59;refine(Zh hu _).mono ?_;rintro e w1 ⟨rfl,hb1⟩;have HB1:=Lib.hid hb1;have d0:=HC.out w1 (((((Below.refl _ w).alloc (Nat.le_refl _) _).alloc (by simp) _).trans (hb1.mono (by simp;omega))));clear hb1)
   | (go_at_call 62;refine(ZG hu _).mono ?_;rintro e w2 ⟨rfl,hb2⟩;have HB2:=Lib.hid hb2;clear hb2))
  refine⟨rfl,HE.out.symm,?_⟩
  have h1:=(((Below.refl _ w).alloc (Nat.le_refl _) (.cells #[.int .i64 0,.int .i64 0,.int .i64 0,.bool false,.int .u64 0] 49)).alloc (by simp) (.cells #[.int .i64 a,.int .i64 0,.int .i64 0,.bool false,.int .u64 0] 49)).trans (HB1.out.mono (by simp;omega))
  exact(h1.trans (HB2.out.mono (by have:=h1.size;omega))).alloc (by have:=h1.size;have:=HB2.out.size;omega) _
theorem Vi(w:World)(vs:Array Value)(ws:List Int)(g o cap:Nat)(hw:Words w ws g o cap)(hg:g<w.heap.size)(a:Nat)(x:Int)(hx:ws[a]? =some x)(hna:(adr x).2=0)
  (hcall: ∀W,Below w.heap.size w W→Calls Try.prog 121 vs W fun e W'=>e= .panicked (X8 3)∧Below W.heap.size W W'):
  Calls Try.prog 126 #[.slice (some ⟨g,o,none⟩) ws.length cap,.int .i64 a,.func (.func 121) #[] vs] w fun e w'=>e= .panicked (X8 3)∧Below w.heap.size w w':=by
 have hl:=hw.len
 have hc:=hw.le
 have hm:=hw.cap
 have hlt:a<ws.length:=(List.getElem?_eq_some_iff.1 hx).1
 have hlt':(a:Int) <ws.length:=by omega
 have hu:U64 x:=hw.u64 x (List.mem_of_getElem? hx)
 have c0:=hw.at_ a x hx
 have hfn:=fun W=>yc W 121 vs
 have HX:=Lib.hid hcall
 clear hw hx hcall
 go_enter Try.func126,Try.ntmps126
 go_wp2_with (first
  | (go_at_call 59;refine(Zh hu _).mono ?_;rintro e w1 ⟨rfl,hb1⟩
     have hB:Below w.heap.size w w1:=((((Below.refl _ w).alloc (Nat.le_refl _) _).alloc (by simp) _).trans (hb1.mono (by simp;omega)))
     have r1:w1.heap[w.heap.size+1]? =some (.cells #[.int .i64 a,.int .i64 0,.int .i64 0,.bool false,.int .u64 0] 49 (0,0)):=(hb1.block _ (by simp)).trans (by have:=heap_alloc_new (w.alloc (.cells #[.int .i64 0,.int .i64 0,.int .i64 0,.bool false,.int .u64 0] 49)) (.cells #[.int .i64 a,.int .i64 0,.int .i64 0,.bool false,.int .u64 0] 49);simpa using this)
     have p3:w1.cell? ⟨w.heap.size+1,3,none⟩=some (.bool false):=by rw[cell_of_row _ _ _ _ _ _ r1];rfl
     have p4:w1.cell? ⟨w.heap.size+1,4,none⟩=some (.int .u64 0):=by rw[cell_of_row _ _ _ _ _ _ r1];rfl
     have q3:=Zb (o:=3) r1
     have q4:=Zb (o:=4) r1
     have HB:=Lib.hid hB
     clear hb1 hB r1)
  | (go_at_call 121;refine(HX.out _ ?_).mono ?_;rotate_left;rintro e w2 ⟨rfl,hb2⟩;have HB2:=Lib.hid hb2;clear hb2))
 case refine_1=>exact(HB.out.setCell (p:=⟨w.heap.size+1,3,none⟩) (by simp) _).setCell (p:=⟨w.heap.size+1,4,none⟩) (by simp) _
 case refine_2=>
  have h2:=(HB.out.setCell (p:=⟨w.heap.size+1,3,none⟩) (by simp) (.bool true)).setCell (p:=⟨w.heap.size+1,4,none⟩) (by simp) (.int .u64 (adr x).1)
  exact⟨rfl,rfl,h2.trans (HB2.out.mono h2.size)⟩
theorem Xt{w W:World}{r:Option Nat}(h:w.grownBy W r){p:Addr}(hp:w.heap.size≤p.block)(u:Value):w.grownBy (W.setCell p u) r:=
 ⟨h.os,h.tape,h.output,by simpa[World.setCell]using h.size,fun k hk hne=>(Below.heap_setCell _ _ _ _ (by omega)).trans (h.block k hk hne)⟩
theorem Rc(w:World)(vs:Array Value)(ws:List Int)(g o cap:Nat)(hw:Words w ws g o cap)(hg:g<w.heap.size)(a:Nat)(x:Int)(hx:ws[a]? =some x)(hna:(adr x).2=0)
  (bt:Nat) (O:Obj) (s p:Int) (hbt:bt<w.heap.size)
  (hcall: ∀W,Below w.heap.size w W→Calls Try.prog 121 vs W fun e W'=>e= .returned (.agg #[.int .i64 s,.int .i64 p])∧W.grownBy W' (some bt)∧W'.heap[bt]? =some O):
  Calls Try.prog 126 #[.slice (some ⟨g,o,none⟩) ws.length cap,.int .i64 a,.func (.func 121) #[] vs] w fun e w'=>e= .returned (obA ⟨a,s,p,true,(adr x).1⟩)∧w.grownBy w' (some bt)∧w'.heap[bt]? =some O:=by
 have hl:=hw.len
 have hc:=hw.le
 have hm:=hw.cap
 have hlt:a<ws.length:=(List.getElem?_eq_some_iff.1 hx).1
 have hlt':(a:Int) <ws.length:=by omega
 have hu:U64 x:=hw.u64 x (List.mem_of_getElem? hx)
 have c0:=hw.at_ a x hx
 have hfn:=fun W=>yc W 121 vs
 have HX:=Lib.hid hcall
 clear hw hx hcall
 go_enter Try.func126,Try.ntmps126
 go_wp2_with (first
  | (go_at_call 59;refine(Zh hu _).mono ?_;rintro e w1 ⟨rfl,hb1⟩
     have hB:Below w.heap.size w w1:=((((Below.refl _ w).alloc (Nat.le_refl _) _).alloc (by simp) _).trans (hb1.mono (by simp;omega)))
     have r1:w1.heap[w.heap.size+1]? =some (.cells #[.int .i64 a,.int .i64 0,.int .i64 0,.bool false,.int .u64 0] 49 (0,0)):=(hb1.block _ (by simp)).trans (by have:=heap_alloc_new (w.alloc (.cells #[.int .i64 0,.int .i64 0,.int .i64 0,.bool false,.int .u64 0] 49)) (.cells #[.int .i64 a,.int .i64 0,.int .i64 0,.bool false,.int .u64 0] 49);simpa using this)
     have p3:w1.cell? ⟨w.heap.size+1,3,none⟩=some (.bool false):=by rw[cell_of_row _ _ _ _ _ _ r1];rfl
     have p4:w1.cell? ⟨w.heap.size+1,4,none⟩=some (.int .u64 0):=by rw[cell_of_row _ _ _ _ _ _ r1];rfl
     have q3:=Zb (o:=3) r1
     have q4:=Zb (o:=4) r1
     have r0:w1.heap[w.heap.size]? =some (.cells #[.int .i64 0,.int .i64 0,.int .i64 0,.bool false,.int .u64 0] 49 (0,0)):=(hb1.block _ (by simp;omega)).trans ((Below.heap_alloc _ _ _ (by simp)).trans (heap_alloc_new w _))
     have HR:=Lib.hid (And.intro r0 r1)
     have HB:=Lib.hid hB
     clear hb1 hB r0 r1)
  | (go_at_call 121;refine(HX.out _ ?_).mono ?_;rotate_left;rintro e w2 ⟨rfl,hb2,ho2⟩
     have HB2:=Lib.hid hb2
     have HO2:=Lib.hid ho2
     have z1:w2.heap[w.heap.size+1]? =some (.cells #[.int .i64 a,.int .i64 0,.int .i64 0,.bool true,.int .u64 (adr x).1] 49 (0,0)):=(hb2.block _ (by simp[World.setCell];exact Zk HR.out.2) (by simp;omega)).trans (by simp[World.setCell,Array.getElem?_modify,HR.out.2])
     have z0:w2.heap[w.heap.size]? =some (.cells #[.int .i64 0,.int .i64 0,.int .i64 0,.bool false,.int .u64 0] 49 (0,0)):=(hb2.block _ (by simp[World.setCell];exact Zk HR.out.1) (by simp;omega)).trans (by simp[World.setCell,Array.getElem?_modify,HR.out.1])
     have s0:w2.cell? ⟨w.heap.size+1,0,none⟩=some (.int .i64 a):=by rw[cell_of_row _ _ _ _ _ _ z1];rfl
     have s1:w2.cell? ⟨w.heap.size+1,1,none⟩=some (.int .i64 0):=by rw[cell_of_row _ _ _ _ _ _ z1];rfl
     have s2:w2.cell? ⟨w.heap.size+1,2,none⟩=some (.int .i64 0):=by rw[cell_of_row _ _ _ _ _ _ z1];rfl
     have s3:w2.cell? ⟨w.heap.size+1,3,none⟩=some (.bool true):=by rw[cell_of_row _ _ _ _ _ _ z1];rfl
     have s4:w2.cell? ⟨w.heap.size+1,4,none⟩=some (.int .u64 (adr x).1):=by rw[cell_of_row _ _ _ _ _ _ z1];rfl
     have t0:w2.cell? ⟨w.heap.size,0,none⟩=some (.int .i64 0):=by rw[cell_of_row _ _ _ _ _ _ z0];rfl
     have t1:w2.cell? ⟨w.heap.size,1,none⟩=some (.int .i64 0):=by rw[cell_of_row _ _ _ _ _ _ z0];rfl
     have t2:w2.cell? ⟨w.heap.size,2,none⟩=some (.int .i64 0):=by rw[cell_of_row _ _ _ _ _ _ z0];rfl
     have t3:w2.cell? ⟨w.heap.size,3,none⟩=some (.bool false):=by rw[cell_of_row _ _ _ _ _ _ z0];rfl
     have t4:w2.cell? ⟨w.heap.size,4,none⟩=some (.int .u64 0):=by rw[cell_of_row _ _ _ _ _ _ z0];rfl
     have u1:=Zb (o:=1) z1
     have u2:=Zb (o:=2) z1
     have v0:=Zb (o:=0) z0
     have v1:=Zb (o:=1) z0
     have v2:=Zb (o:=2) z0
     have v3:=Zb (o:=3) z0
     have v4:=Zb (o:=4) z0
     clear hb2 ho2 z0 z1))
 case refine_1=>exact(HB.out.setCell (p:=⟨w.heap.size+1,3,none⟩) (by simp) _).setCell (p:=⟨w.heap.size+1,4,none⟩) (by simp) _
 next=>
  have h2:=(HB.out.setCell (p:=⟨w.heap.size+1,3,none⟩) (by simp) (.bool true)).setCell (p:=⟨w.heap.size+1,4,none⟩) (by simp) (.int .u64 (adr x).1)
  have hg2:w.grownBy w2 (some bt):=⟨HB2.out.os.trans h2.os,HB2.out.tape.trans h2.tape,HB2.out.output.trans h2.output,Nat.le_trans h2.size HB2.out.size,fun k hk hne=>(HB2.out.block k (Nat.lt_of_lt_of_le hk h2.size) hne).trans (h2.block k hk)⟩
  have k1:bt≠w.heap.size+1:=by omega
  have k2:bt≠w.heap.size:=by omega
  clear h2
  refine bodyPost_ret (v:=obA ⟨a,s,p,true,(adr x).1⟩) ?_ rfl ⟨rfl,?_,?_⟩
  ·simp[results,Try.results126,go_sem,obA,t0,t1,t2,t3,t4]
  ·exact Xt (Xt (Xt (Xt (Xt (Xt (Xt hg2 (by simp) _) (by simp) _) (by simp) _) (by simp) _) (by simp) _) (by simp) _) (by simp) _
  ·rw[Below.heap_setCell _ _ _ _ k2,Below.heap_setCell _ _ _ _ k2,Below.heap_setCell _ _ _ _ k2,Below.heap_setCell _ _ _ _ k2,Below.heap_setCell _ _ _ _ k2,Below.heap_setCell _ _ _ _ k1,Below.heap_setCell _ _ _ _ k1]
   exact HO2.out
end Vm
namespace Vm
open Go Go.Proofs Go.RowKit Go.Shelf
set_option maxHeartbeats 1000000
set_option maxRecDepth 100000
def rowB(W:World)(bl:Nat):Option Nat:=(W.cell? ⟨bl,0,none⟩).bind Value.ownBlock
structure KpW (bl base:Nat) (A B:World):Prop where
 size:A.heap.size≤B.heap.size
 same: ∀k o,A.heap[k]? =some o→o.isCells=true→k≠bl→(k<base∨rowB A bl≠some k)→B.heap[k]? =some o
 row: ∀k,k<A.heap.size→rowB B bl=some k→rowB A bl=some k
theorem KpW.trans{bl base:Nat}{A B C:World}(h:KpW bl base A B)(k:KpW bl base B C):KpW bl base A C:=
 ⟨Nat.le_trans h.size k.size,fun i o hi hc hn hr=>k.same i o (h.same i o hi hc hn hr) hc hn (hr.imp id fun hne e=>hne (h.row i (Zk hi) e)),fun i hi hr=>h.row i hi (k.row i (Nat.lt_of_lt_of_le hi h.size) hr)⟩
theorem KpW.put{bl base:Nat}{W:World}{l:Nat}{o:Obj}(o':Obj)(hl:W.heap[l]? =some o)(ho:o.isCells=false)(hne:bl≠l):KpW bl base W (W.putObj l o'):=by
 have hcell:(W.putObj l o').cell? ⟨bl,0,none⟩=W.cell? ⟨bl,0,none⟩:=World.cell?_of_block (World.putObj_heap_other (by show bl≠l;exact hne))
 refine⟨(grownBy_putObj' W l o').size,fun k o2 hk hk2 _ _=> ?_,fun k _ hr=> ?_⟩
 ·have:k≠l:=fun e=>by rw[e,hl]at hk;cases hk;rw[ho]at hk2;cases hk2
  exact(World.putObj_heap_other this).trans hk
 ·unfold rowB at hr⊢
  rw[hcell]at hr
  exact hr
def jf(ws:List Int)(g o cap:Nat)(gv:Value)(shs:List (Int×Int))(old:Bool)(bt:Option Nat)(K:Nat→World→Prop):Prop:=
 ∀(W:World) (a t:Nat) (x:Int),Words W ws g o cap→g<W.heap.size→K t W→ws[a]? =some x→
  Calls Try.prog 126 #[.slice (some ⟨g,o,none⟩) ws.length cap,.int .i64 a,gv] W fun e W'=>W.grownBy W' bt∧match objR shs old a t x with
   |some (ob,t')=>e= .returned (obA ob)∧K t' W'
   |none=>e= .panicked (X8 3)
def endS(ws:List Int)(shs:List (Int×Int))(old:Bool)(K:Nat→World→Prop)(xs:List Ob)(W:World):Prop:=
 ∃t,K t W∧Zo ws shs old=(if t<shs.length then([],3)else(xs,0))
def endP(ws:List Int)(shs:List (Int×Int))(old:Bool)(chain:List PanicEntry)(pre:List Ob)(W:World):Prop:=
 ∃e,(e=2∨e=3)∧chain=X8 e∧Zo ws shs old=([],e)
structure Stat6 (ws:List Int) (g o cap:Nat) (sv:Value) (bw bg base bl:Nat) (bt:Option Nat) (gv:Value) (W:World):Prop where
 words:Words W ws g o cap
 sv_:sv= .slice (some ⟨g,o,none⟩) ws.length cap∨(ws= []∧ ∃a c,sv= .slice a 0 c)
 hbw:W.heap[bw]? =some (.cells #[sv] 23 (0,0))
 hbg:W.heap[bg]? =some (.cells #[gv] 183 (0,0))
 gb:ws≠ []→ ∃ob,W.heap[g]? =some ob∧ob.isCells=true
 lt:g<base∧bw<base∧bg<base∧base≤W.heap.size
 ne:g≠bl∧bw≠bl∧bg≠bl
 nt:some g≠bt∧some bw≠bt∧some bg≠bt
section
variable {ws:List Int} {g o cap bw bg base bl:Nat} {bt:Option Nat} {sv gv:Value} {W W':World}
theorem Stat6.of(h:Stat6 ws g o cap sv bw bg base bl bt gv W)(hs:W.heap.size≤W'.heap.size)(hb: ∀k ob,W.heap[k]? =some ob→ob.isCells=true→k<base→k≠bl→some k≠bt→W'.heap[k]? =some ob):Stat6 ws g o cap sv bw bg base bl bt gv W':=by
 refine⟨⟨fun i x hx=> ?_,h.words.le,h.words.cap,h.words.len,h.words.u64⟩,h.sv_,hb _ _ h.hbw rfl h.lt.2.1 h.ne.2.1 h.nt.2.1,hb _ _ h.hbg rfl h.lt.2.2.1 h.ne.2.2 h.nt.2.2,fun hn=> ?_,⟨h.lt.1,h.lt.2.1,h.lt.2.2.1,Nat.le_trans h.lt.2.2.2 hs⟩,h.ne,h.nt⟩
 ·have hn:ws≠ []:=fun e=>by rw[e]at hx;simp at hx
  obtain⟨ob,ho,hc⟩:=h.gb hn
  have h2:=hb _ _ ho hc h.lt.1 h.ne.1 h.nt.1
  rw[←h.words.at_ i x hx]
  exact World.cell?_of_block (h2.trans ho.symm)
 ·obtain⟨ob,ho,hc⟩:=h.gb hn
  exact⟨ob,hb _ _ ho hc h.lt.1 h.ne.1 h.nt.1,hc⟩
theorem Stat6.grown(h:Stat6 ws g o cap sv bw bg base bl bt gv W)(hg:W.grownBy W' bt):Stat6 ws g o cap sv bw bg base bl bt gv W':=
 h.of hg.size fun k ob hk _ _ _ hn=>(hg.block k (Zk hk) hn).trans hk
theorem Stat6.kp(h:Stat6 ws g o cap sv bw bg base bl bt gv W)(hk:KpW bl base W W'):Stat6 ws g o cap sv bw bg base bl bt gv W':=
 h.of hk.size fun k ob hk1 hc hlt hne _=>hk.same k ob hk1 hc hne (.inl hlt)
end
theorem YL{W W':World}(hb:Below W.heap.size W W')(r:Option Nat):W.grownBy W' r:=⟨hb.os,hb.tape,hb.output,hb.size,fun k hk _=>hb.block k hk⟩
theorem Z12{ws:List Int}{g o cap:Nat}:jf ws g o cap .nilFunc [] false none (fun t _=>t=0):=by
 intro W a t x hw hg hK hx
 refine(qL W ws g o cap hw hg a x hx).mono ?_
 rintro e W' ⟨rfl,hb⟩
 refine⟨YL hb none,?_⟩
 unfold objR begE
 rw[if_neg (by simp)]
 by_cases hu:(unpk x).2.2=0
 ·simp only[hu,if_true]
  exact⟨trivial,hK⟩
 ·simp only[hu,if_false]
theorem Shps.grown{W W':World}{shs:List (Int×Int)}{bs:Nat}{v:Value}{r:Option Nat}(h:Shps W shs bs v)(hg:W.grownBy W' r)(hbs:some bs≠r)(hgb:shs≠ []→ ∀g o cap,v= .slice (some ⟨g,o,none⟩) shs.length cap→some g≠r):Shps W' shs bs v:=by
 refine⟨(hg.block _ (Zk h.box) hbs).trans h.box,?_⟩
 rcases h.val with ⟨g,o,cap,rfl,h1,h2,h3,h4⟩ | ⟨a,cap,rfl,rfl⟩
 ·refine .inl ⟨g,o,cap,rfl,h1,h2,Nat.lt_of_lt_of_le h3 hg.size,fun i x hx=> ?_⟩
  have hb:=hg.block g h3 (hgb (fun e=>by rw[e]at hx;simp at hx) _ _ _ rfl)
  exact⟨(World.cell?_of_block hb).trans (h4 i x hx).1,(World.cell?_of_block hb).trans (h4 i x hx).2⟩
 ·exact .inr ⟨a,cap,rfl,rfl⟩
def KOld(shs:List (Int×Int))(bt bs:Nat)(v:Value)(t:Nat)(W:World):Prop:=W.heap[bt]? =some (.cells #[.int .i64 t] 3 (0,0))∧Shps W shs bs v∧t≤shs.length
theorem Z1o{ws:List Int}{g o cap:Nat}{shs:List (Int×Int)}{bt bs:Nat}{v:Value}(hl:shs.length≤1000000)(hbs:bs≠bt)(hgb:shs≠ []→ ∀g o cap,v= .slice (some ⟨g,o,none⟩) shs.length cap→g≠bt):
  jf ws g o cap (.func (.func 121) #[] #[.pointer (some ⟨bt,0,none⟩),.pointer (some ⟨bs,0,none⟩)]) shs true (some bt) (KOld shs bt bs v):=by
 intro W a t x hw hg hK hx
 obtain⟨hb,hs,ht⟩:=hK
 have hbs':some bs≠some bt:=fun e=>hbs (by simpa using e)
 have hgb':shs≠ []→ ∀g o cap,v= .slice (some ⟨g,o,none⟩) shs.length cap→some g≠some bt:=fun hn g o cap e e2=>hgb hn g o cap e (by simpa using e2)
 have hsB: ∀W',Below W.heap.size W W'→Shps W' shs bs v:=fun W' hB=>hs.grown (YL hB none) (by simp) (fun _ _ _ _ _=>by simp)
 have hbB: ∀W',Below W.heap.size W W'→W'.heap[bt]? =some (.cells #[.int .i64 t] 3 (0,0)):=fun W' hB=>(hB.block _ (Zk hb)).trans hb
 by_cases ha:(adr x).2=0
 ·unfold objR
  rw[if_pos ⟨rfl,ha⟩]
  cases hxs:shs[t]? with
  |none=>
   have:t=shs.length:=by have:=List.getElem?_eq_none_iff.1 hxs;omega
   subst this
   refine(Vi W _ ws g o cap hw hg a x hx ha fun W' hB=>jW W' shs bt bs v hl (hsB W' hB) (hbB W' hB)).mono ?_
   rintro e W' ⟨rfl,hB⟩
   exact⟨YL hB _,rfl⟩
  |some s=>
   simp only
   cases hok:Zl s.1 s.2
   ·refine(Vi W _ ws g o cap hw hg a x hx ha fun W' hB=>jN W' shs bt bs t v s hl (hsB W' hB) (hbB W' hB) hxs hok).mono ?_
    rintro e W' ⟨rfl,hB⟩
    exact⟨YL hB _,by simp⟩
   ·refine(Rc W _ ws g o cap hw hg a x hx ha bt _ s.1 s.2 (Zk hb) fun W' hB=>Z1t W' shs bt bs t v s hl (hsB W' hB) (hbB W' hB) hxs hok hbs (hgb (fun e=>by rw[e]at hxs;simp at hxs))).mono ?_
    rintro e W' ⟨rfl,hG,hO⟩
    have hlt:=(List.getElem?_eq_some_iff.1 hxs).1
    refine⟨hG,?_⟩
    simp only[if_true]
    exact⟨trivial,hO,hs.grown hG hbs' hgb',by omega⟩
 ·refine(Q5 W _ _ ws g o cap hw hg a x hx ha).mono ?_
  rintro e W' ⟨rfl,hB⟩
  refine⟨YL hB _,?_⟩
  unfold objR begE
  rw[if_neg (fun hc=>ha hc.2)]
  by_cases hu:(unpk x).2.2=0
  ·simp only[hu,if_true]
   exact⟨trivial,hbB W' hB,hsB W' hB,ht⟩
  ·simp only[hu,if_false]
end Vm
end
section
namespace Vm
open Go Go.Proofs Go.RowKit Go.Shelf
set_option maxHeartbeats 1000000
set_option maxRecDepth 100000
def Z1G(bl:Nat)(W:World):Prop:= ∀k,rowB W bl=some k→k<W.heap.size
theorem Y9{A B C:World}{r:Option Nat}(h:A.grownBy B r)(k:B.grownBy C r):A.grownBy C r:=
 ⟨k.os.trans h.os,k.tape.trans h.tape,k.output.trans h.output,Nat.le_trans h.size k.size,fun i hi hn=>(k.block i (Nat.lt_of_lt_of_le hi h.size) hn).trans (h.block i hi hn)⟩
theorem LK(ws:List Int)(shs:List (Int×Int))(old:Bool){a t t':Nat}{x:Int}{ob:Ob}(hx:ws[a]? =some x)(ho:objR shs old a t x=some (ob,t')){f:Nat}{pre:List Ob}:
  YM ws shs old (f+1) a t pre=if(ws.length:Int) <a+1+ob.size then([],2)else if ZM ((ws.drop (a+1)).take ob.size.toNat) ob.gone ob.ptrs 0=false then([],3)else YM ws shs old f (a+1+ob.size.toNat) t' (pre++ [ob]):=by
 rw[YM,hx]
 simp only
 rw[ho]
theorem yR(n:Nat){w:World}{ws:List Int}{g o cap bw bg base bl:Nat}{bt:Option Nat}{sv gv:Value}{shs:List (Int×Int)}{old:Bool}{K:Nat→World→Prop}(hst:Stat6 ws g o cap sv bw bg base bl bt gv w)
  (hbl:bl<base) (hltb:some bl≠bt) (hbeg:jf ws g o cap gv shs old bt K) (hK0:K 0 w) (hKB: ∀t W W',K t W→Below W.heap.size W W'→K t W') (hKK: ∀t W W',K t W→KpW bl base W W'→K t W'):
  SeqP Fence.wide n Try.prog 125 #[.pointer (some ⟨bw,0,none⟩),.pointer (some ⟨bg,0,none⟩)] (fun ob:Ob=> #[obA ob]) (KpW bl base) (endS ws shs old K) (endP ws shs old) ws.length bt (Z1G bl) w:=by
 intro l J W hW hJx hJ hY h0
 refine callsIn_of_wp Try.func125 rfl trivial ?_ rfl
 simp only[Try.ntmps125,List.size_toArray,List.length_cons,List.length_nil,Nat.reduceAdd,Nat.reduceSub,Array.replicate_succ,Array.replicate_zero,List.push_toArray,List.append_toArray,List.nil_append,List.cons_append]
 have HS0:=Lib.hid (hst.grown (YL hW bt))
 have HK0:=Lib.hid (hKB 0 w W hK0 hW)
 have HJ0:=Lib.hid h0
 clear h0
 gi_wp2
 gi_loopw [4] (fun p wr=> ∃(a t f:Nat) (pre:List Ob),p= .int .i64 a∧Hid (J pre wr∧K t wr∧Stat6 ws g o cap sv bw bg base bl bt gv wr∧ws.length<f+a∧0<f∧a≤ws.length∧pre.length≤a∧Zo ws shs old=YM ws shs old f a t pre))
  (fun p _=>ws.length- (intOf p).toNat)
 case atStart=>exact⟨0,0,ws.length+1,[],rfl,Lib.hid ⟨HJ0.out,HK0.out,HS0.out,by omega,by omega,by omega,by simp,rfl⟩⟩
 case round=>
  obtain⟨a,t,f,pre,rfl,HI⟩:=hrel
  have hst':=HI.out.2.2.1
  have hsv:=hst'.sv_
  have c1:wr.cell? ⟨bw,0,none⟩=some sv:=by rw[cell_of_row _ _ _ _ _ _ hst'.hbw];rfl
  have c2:wr.cell? ⟨bg,0,none⟩=some gv:=by rw[cell_of_row _ _ _ _ _ _ hst'.hbg];rfl
  have hlen:=hst'.words.len
  clear hst'
  by_cases hlt:a<ws.length
  ·obtain⟨x,hx⟩: ∃x,ws[a]? =some x:=⟨_,List.getElem?_eq_getElem hlt⟩
   obtain rfl:sv= .slice (some ⟨g,o,none⟩) ws.length cap:=hsv.resolve_right (fun h=>by rw[h.1]at hlt;simp at hlt)
   clear hsv
   have hlt':((a:Int) <ws.length)=True:=eq_true (by omega)
   have hb:=hbeg wr a t x HI.out.2.2.1.words (by have:=HI.out.2.2.1.lt;omega) HI.out.2.1 hx
   cases ho:objR shs old a t x with
   |none=>
    rw[ho]at hb
    have HX:=Lib.hid hb
    clear hb
    gi_wp2
    refine⟨trivial,fun h=>(by cases h),(callsIn_wide.2 HX.out).mono ?_⟩
    rintro e w1 ⟨hg1,rfl⟩
    have HG1:=Lib.hid hg1
    clear hg1
    gi_wp2
    refine⟨rfl,.inr ⟨_,pre,rfl,⟨3,.inr rfl,rfl,?_⟩,hJ _ _ _ _ HI.out.1 HG1.out (fun r e=>e.symm)⟩⟩
    obtain⟨_,_,_,hf,hf0,_,_,hR⟩:=HI.out
    cases f with
    |zero=>omega
    |succ f=>
     rw[hR,YM,hx]
     simp only
     rw[ho]
   |some q=>
    obtain⟨ob,t'⟩:=q
    rw[ho]at hb
    have HX:=Lib.hid hb
    clear hb
    obtain⟨hsh,hat⟩:=Vc ho
    gi_wp2
    refine⟨trivial,fun h=>(by cases h),(callsIn_wide.2 HX.out).mono ?_⟩
    rintro e w1 ⟨hg1,rfl,hk1⟩
    have HG1:=Lib.hid hg1
    have HK1:=Lib.hid hk1
    have hS1:=HI.out.2.2.1.grown hg1
    have HS1:=Lib.hid hS1
    have e1: ∀O,(w1.alloc O).cell? ⟨bw,0,none⟩=some (.slice (some ⟨g,o,none⟩) ws.length cap):=fun O=>by
     rw[World.cell?_alloc_lt _ _ _ (Zk hS1.hbw),cell_of_row _ _ _ _ _ _ hS1.hbw];rfl
    have hgO:wr.grownBy (w1.alloc (.cells #[.int .i64 a,.int .i64 ob.size,.int .i64 ob.ptrs,.bool ob.gone,.int .u64 ob.target] 49)) bt:=Y9 hg1 (World.grownBy_alloc _ _ _)
    have hSO:=Lib.hid (HI.out.2.2.1.grown hgO)
    have hh:=qW (w1.alloc (.cells #[.int .i64 a,.int .i64 ob.size,.int .i64 ob.ptrs,.bool ob.gone,.int .u64 ob.target] 49)) ws g o cap hSO.out.words (by have:=hSO.out.lt;omega) ob a hat hlt hsh
    unfold obA at hh
    rw[hat]at hh
    have HGO:=Lib.hid hgO
    have HHold:=Lib.hid hh
    have hstep: ∀f pre,YM ws shs old (f+1) a t pre=_:=fun f pre=>LK ws shs old hx ho (f:=f) (pre:=pre)
    have HST:=Lib.hid hstep
    clear hg1 hk1 hS1 hgO hh hstep hx
    unfold obA
    gi_wp2
    refine⟨trivial,fun h=>(by cases h),(callsIn_wide.2 HHold.out).mono ?_⟩
    rintro e w2 ⟨rfl,hb2⟩
    have hG2:wr.grownBy w2 bt:=Y9 HGO.out (YL hb2 bt)
    have HG2:=Lib.hid hG2
    have HB2:=Lib.hid hb2
    unfold Z0k
    by_cases h1:(ws.length:Int) <ob.at_+1+ob.size
    ·rw[if_pos h1]
     rw[hat]at h1
     clear hb2 hG2
     gi_wp2
     refine⟨rfl,.inr ⟨_,pre,rfl,⟨2,.inl rfl,rfl,?_⟩,hJ _ _ _ _ HI.out.1 HG2.out (fun r e=>e.symm)⟩⟩
     obtain⟨_,_,_,hf,hf0,_,_,hR⟩:=HI.out
     obtain⟨f,rfl⟩: ∃f',f=f'+1:=⟨f-1,by omega⟩
     rw[hR,HST.out,if_pos h1]
    ·rw[if_neg h1]
     by_cases h2:ZM ((ws.drop (ob.at_.toNat+1)).take ob.size.toNat) ob.gone ob.ptrs 0=false
     ·rw[if_pos h2]
      rw[hat]at h1 h2
      clear hb2 hG2
      gi_wp2
      refine⟨rfl,.inr ⟨_,pre,rfl,⟨3,.inr rfl,rfl,?_⟩,hJ _ _ _ _ HI.out.1 HG2.out (fun r e=>e.symm)⟩⟩
      obtain⟨_,_,_,hf,hf0,_,_,hR⟩:=HI.out
      obtain⟨f,rfl⟩: ∃f',f=f'+1:=⟨f-1,by omega⟩
      rw[hR,HST.out,if_neg (by omega)]
      simp only[Int.toNat_natCast]at h2
      rw[if_pos h2]
     ·rw[if_neg h2]
      rw[hat]at h1 h2
      simp only[Int.toNat_natCast]at h2
      have HH2:=Lib.hid (And.intro h1 h2)
      have hJ2:=hJ _ _ _ _ HI.out.1 hG2 (fun r e=>e.symm)
      have HJ2:=Lib.hid hJ2
      have HS2:=Lib.hid (HI.out.2.2.1.grown hG2)
      have hbx:w2.heap[w1.heap.size]? =some (.cells #[.int .i64 a,.int .i64 ob.size,.int .i64 ob.ptrs,.bool ob.gone,.int .u64 ob.target] 49 (0,0)):=(hb2.block _ (by simp)).trans (heap_alloc_new w1 _)
      have HBX:=Lib.hid hbx
      obtain⟨fn,tmps,assign,body,hy,hR⟩:=hY pre ob w2 hJ2 (by have:=HI.out.2.2.2.2.2.2.1;omega)
      unfold obA at hy
      rw[hat]at hy
      have d0:w2.cell? ⟨w1.heap.size,0,none⟩=some (.int .i64 a):=by rw[cell_of_row _ _ _ _ _ _ hbx];rfl
      have d1:w2.cell? ⟨w1.heap.size,1,none⟩=some (.int .i64 ob.size):=by rw[cell_of_row _ _ _ _ _ _ hbx];rfl
      have d2:w2.cell? ⟨w1.heap.size,2,none⟩=some (.int .i64 ob.ptrs):=by rw[cell_of_row _ _ _ _ _ _ hbx];rfl
      have d3:w2.cell? ⟨w1.heap.size,3,none⟩=some (.bool ob.gone):=by rw[cell_of_row _ _ _ _ _ _ hbx];rfl
      have d4:w2.cell? ⟨w1.heap.size,4,none⟩=some (.int .u64 ob.target):=by rw[cell_of_row _ _ _ _ _ _ hbx];rfl
      clear hb2 hG2 hJ2 hbx
      gi_wp2
      refine⟨fun h=>(by cases h),hR.mono ?_⟩
      rintro e W3 ⟨rfl,hJ3,hk3⟩
      have HJ3:=Lib.hid hJ3
      have HK3:=Lib.hid hk3
      have hrow2:rowB w2 bl≠some w1.heap.size:=by
       intro e
       have hlb:bl<wr.heap.size:=by have:=HI.out.2.2.1.lt.2.2.2;omega
       have:rowB w2 bl=rowB wr bl:=by
        unfold rowB
        rw[World.cell?_of_block (a:=⟨bl,0,none⟩) (HG2.out.block bl hlb hltb)]
       rw[this]at e
       have:=hJx _ _ HI.out.1 _ e
       have:=HG1.out.size
       omega
      have hbx3:=hk3.same _ _ HBX.out rfl (by have:=HI.out.2.2.1.lt.2.2.2;have:=HG1.out.size;omega) (.inr hrow2)
      have f1:W3.cell? ⟨w1.heap.size,1,none⟩=some (.int .i64 ob.size):=by rw[cell_of_row _ _ _ _ _ _ hbx3];rfl
      have hS3:=HS2.out.kp hk3
      have hK2:K t' w2:=hKB _ _ _ HK1.out (((Below.refl _ _).alloc (Nat.le_refl _) _).trans (HB2.out.mono (by simp)))
      have hK3:=hKK _ _ _ hK2 hk3
      have HS3:=Lib.hid (And.intro hS3 hK3)
      obtain⟨m,hm⟩: ∃m:Nat,ob.size=m:=⟨ob.size.toNat,by have:=(Z4.1 hsh).1;omega⟩
      rw[hm]at f1
      have hm5:(m:Int)≤255:=by have:=(Z4.1 hsh);omega
      have q1:IntKind.i64.wrap (1+(m:Int))=((1+m:Nat):Int):=by rw[Z2 _ (by omega) (by omega)];omega
      have q2:IntKind.i64.wrap ((a:Int)+((1+m:Nat):Int))=((a+(1+m):Nat):Int):=by rw[Z2 _ (by omega) (by omega)];omega
      clear hJ3 hk3 hbx3 hS3 hK2 hK3 hrow2
      clear h2
      gi_wp2
      obtain⟨_,_,_,hf,hf0,hal,hpl,hR⟩:=HI.out
      obtain⟨f,rfl⟩: ∃f',f=f'+1:=⟨f-1,by omega⟩
      rw[HST.out,if_neg (by have:=HH2.out.1;omega),if_neg HH2.out.2]at hR
      have hle:a+1+m≤ws.length:=by omega
      refine⟨⟨a+(1+m),t',f,pre++ [ob],by simp,Lib.hid ⟨HJ3.out,HS3.out.2,HS3.out.1,by omega,by omega,by omega,by simp;omega,?_⟩⟩,by simp[intOf];omega⟩
      rw[hR,hm,Int.toNat_natCast,Nat.add_assoc a 1 m]
  ·have hnlt:((a:Int) <ws.length)=False:=eq_false (by omega)
   have HE:Hid (endS ws shs old K pre wr):=Lib.hid (by
    obtain⟨_,hK,_,hf,hf0,_,_,hR⟩:=HI.out
    refine⟨t,hK,?_⟩
    cases f with
    |zero=>omega
    |succ f=>
     rw[hR,YM,List.getElem?_eq_none (by omega)])
   obtain⟨sa,sc,rfl⟩: ∃sa sc,sv= .slice sa ws.length sc:=by
    rcases hsv with rfl| ⟨h0,sa,sc,rfl⟩
    ·exact⟨_,_,rfl⟩
    ·exact⟨sa,sc,by rw[h0];rfl⟩
   clear hsv
   gi_wp2
   go_end0
   exact .inl ⟨_,pre,rfl,HE.out,HI.out.1⟩
end Vm
namespace Vm
open Go Go.Proofs Go.RowKit Go.Shelf
set_option maxHeartbeats 1000000
set_option maxRecDepth 100000
theorem yf(w:World)(sv gv:Value)(hs: ∃a n c,sv= .slice a n c)(hg:gv= .nilFunc∨ ∃f vs,gv= .func (.func f) #[] vs):
  Calls Try.prog 124 #[sv,gv] w fun e w'=>e= .returned (.func (.func 125) #[] #[.pointer (some ⟨w.heap.size,0,none⟩),.pointer (some ⟨w.heap.size+1,0,none⟩)])∧
   w'=(w.alloc (.cells #[sv] 23)).alloc (.cells #[gv] 183):=by
 have hmf: ∀(fn:Go.Fn) (first cap:Array Value) (w:World),(Instr.makeFunc fn first cap).run Try.prog w= .ok (.func fn first cap) w:=fun _ _ _ _=>rfl
 obtain⟨a,n,c,rfl⟩:=hs
 rcases hg with rfl| ⟨f,vs,rfl⟩
 ·go_enter Try.func124,Try.ntmps124
  go_wp2
  exact bodyPost_ret (results_tmp rfl _ _ _) rfl ⟨rfl,rfl⟩
 ·go_enter Try.func124,Try.ntmps124
  go_wp2
  exact bodyPost_ret (results_tmp rfl _ _ _) rfl ⟨rfl,rfl⟩
theorem Z2j(w:World):Sem.run Try.prog (binOp .neq 20 .nilIface .nilIface) w= .ok (.bool false) w:=by rfl
theorem Z2r(w:World)(T:TypeId)(v:Value):Sem.run Try.prog (binOp .neq 20 (.iface T v) .nilIface) w= .ok (.bool true) w:=by rfl
theorem Z56(w:World)(x:Int):Sem.run Try.prog (Instr.typeAssert (.iface 182 (.agg #[.int .i64 x])) 20 182 true) w= .ok (.tuple #[.agg #[.int .i64 x],.bool true]) w:=by rfl
theorem zI(n:Nat)(p q:Addr)(w:World):
  CallsDIn Fence.wide n Try.prog 123 #[.pointer (some p),.pointer (some q)] .returning w fun e u' w'=>e= .returned (.tuple #[])∧u'= .returning∧w'=w:=by
 have h1:=Z2j
 refine callsDIn_of_wpSIn Try.func123 rfl trivial fun c₀ cs hu=> ?_
 simp only[Try.ntmps123,List.size_toArray,List.length_cons,List.length_nil,Nat.reduceAdd,Nat.reduceSub,Array.replicate_succ,Array.replicate_zero,List.push_toArray,List.append_toArray,List.nil_append,List.cons_append]
 apply wpSIn_seq
 apply wpSIn_region
 simp[wpOpsSIn,go_sem,recoverD,hu,Exit.thenS]
 refine wpSIn_of_wpIn rfl ?_
 gi_wp2
 cases c₀
 simp_all [bodyPostS,results,Try.results123]
theorem S2(n:Nat)(bp bq:Nat)(x:Int)(w:World)(vp vq:Value)(hp:Boxed w bp 43 vp)(hq:Boxed w bq 36 vq)(hne:bp≠bq):
  CallsDIn Fence.wide n Try.prog 123 #[.pointer (some ⟨bp,0,none⟩),.pointer (some ⟨bq,0,none⟩)] (.panicking (X8 x)) w fun e u' w'=>
   e= .returned (.tuple #[])∧u'= .panicking [{v:= .iface 182 (.agg #[.int .i64 x]),recovered:=true}]∧
   Boxed w' bp 43 (.slice none 0 0)∧Boxed w' bq 36 (.int .i64 x)∧(w.heap.size≤w'.heap.size∧ ∀k,k<w.heap.size→k≠bp→k≠bq→w'.heap[k]? =w.heap[k]?)∧w'.os=w.os∧w'.tape=w.tape∧w'.output=w.output:=by
 have h1:=Z2r
 have h2:=Z56
 have p1:=(hp.alloc (.cells #[.int .i64 x] 182)).cell
 have p2:=(hp.alloc (.cells #[.int .i64 x] 182)).frozen
 have q1:=(hq.alloc (.cells #[.int .i64 x] 182)).cell
 have q2:=(hq.alloc (.cells #[.int .i64 x] 182)).frozen
 have p3:=hp.cell
 have p4:=hp.frozen
 have q3:=hq.cell
 have q4:=hq.frozen
 have l1:=hp.lt
 have l2:=hq.lt
 have n1: ¬bp=bq:=hne
 have n2: ¬bq=bp:=fun e=>hne e.symm
 have n3: ¬bp=w.heap.size:=by omega
 have n4: ¬w.heap.size=bp:=by omega
 have n5: ¬bq=w.heap.size:=by omega
 have n6: ¬w.heap.size=bq:=by omega
 have HP:=Lib.hid (And.intro hp hq)
 clear hp hq hne
 refine callsDIn_of_wpSIn Try.func123 rfl trivial fun c₀ cs hu=> ?_
 simp only[Try.ntmps123,List.size_toArray,List.length_cons,List.length_nil,Nat.reduceAdd,Nat.reduceSub,Array.replicate_succ,Array.replicate_zero,List.push_toArray,List.append_toArray,List.nil_append,List.cons_append]
 apply wpSIn_seq
 apply wpSIn_region
 simp[wpOpsSIn,go_sem,recoverD,hu,X8,Exit.thenS]
 refine wpSIn_of_wpIn rfl ?_
 gi_wp2
 gi_region
 all_goals gi_wp2
 obtain⟨hp,hq⟩:=HP.out
 have b1:Boxed ((w.setCell ⟨bp,0,none⟩ (.slice none 0 0)).setCell ⟨bq,0,none⟩ (.int .i64 x)) bp 43 (.slice none 0 0):=(Below.heap_setCell _ ⟨bq,0,none⟩ _ bp n1).trans (hp.set _)
 have b2:Boxed ((w.setCell ⟨bp,0,none⟩ (.slice none 0 0)).setCell ⟨bq,0,none⟩ (.int .i64 x)) bq 36 (.int .i64 x):=Boxed.set _ (show Boxed (w.setCell ⟨bp,0,none⟩ (.slice none 0 0)) bq 36 vq from(Below.heap_setCell _ ⟨bp,0,none⟩ _ bq n2).trans hq)
 refine⟨rfl,_,rfl,_,by simp[results,Try.results123],rfl,rfl,b1.alloc _,b2.alloc _,⟨?_,fun k hk k1 k2=> ?_⟩,rfl,rfl,rfl⟩
 ·show _≤(World.alloc _ _).heap.size
  rw[World.size_alloc]
  simp[World.setCell]
 ·show(World.alloc _ _).heap[k]? =_
  rw[Below.heap_alloc _ _ _ (by simp[World.setCell];exact hk),Below.heap_setCell _ _ _ _ k2,Below.heap_setCell _ _ _ _ k1]
end Vm
namespace Vm
open Go Go.Proofs Go.RowKit Go.Shelf
set_option maxHeartbeats 1000000
set_option maxRecDepth 100000
def obC(ob:Ob):List Value:= [.int .i64 ob.at_,.int .i64 ob.size,.int .i64 ob.ptrs,.bool ob.gone,.int .u64 ob.target]
def obsC(l:List Ob):List Value:=l.flatMap obC
theorem yN(l:List Ob)(x:Ob):obsC (l++ [x])=obsC l++obC x:=by simp[obsC]
structure WIv (w:World) (bt:Option Nat) (pre:List Ob) (W:World):Prop where
 row: ∃v,Boxed W w.heap.size 43 v∧W.ownsRow (w.heap.size+4) 49 5 v pre.length (obsC pre)
 e:Boxed W (w.heap.size+1) 36 (.int .i64 0)
 gr:w.grownBy W bt
 size:w.heap.size+4≤W.heap.size
theorem Yi{w X Y:World}{bt row:Option Nat}(h:w.grownBy X bt)(k:X.grownBy Y row)(hr: ∀r,row=some r→some r=bt∨w.heap.size≤r):w.grownBy Y bt:=
 ⟨k.os.trans h.os,k.tape.trans h.tape,k.output.trans h.output,Nat.le_trans h.size k.size,fun i hi hn=>
  (k.block i (Nat.lt_of_lt_of_le hi h.size) (fun e=>by rcases hr i e.symm with e2|e2;exact hn e2;omega)).trans (h.block i hi hn)⟩
theorem Rx{W:World}{b:Nat}{t:TypeId}{v:Value}(h:Boxed W b t v):rowB W b=v.ownBlock:=by
 unfold rowB
 rw[h.cell]
 rfl
theorem WIv.rowIn{w:World}{bt:Option Nat}{pre:List Ob}{W:World}(h:WIv w bt pre W):Z1G w.heap.size W:=by
 obtain⟨v,hv,hr⟩:=h.row
 intro k hk
 rw[Rx hv]at hk
 exact(hr.lt k hk).2
theorem WIv.own{w:World}{bt:Option Nat}(hbt: ∀r,bt=some r→r<w.heap.size):OwnP bt (w.heap.size+4) (WIv w bt):=by
 intro s X Y row h hg hr
 have hne: ∀k,w.heap.size≤k→k<w.heap.size+4→some k≠row:=by
  intro k h1 h2 e
  rcases hr k e.symm with e2| ⟨e2,_⟩
  ·have:=hbt k e2.symm;omega
  ·omega
 obtain⟨v,hv,hrow⟩:=h.row
 refine⟨⟨v,hv.kept hg (hne _ (Nat.le_refl _) (by omega)),hrow.kept hg ?_⟩,h.e.kept hg (hne _ (by omega) (by omega)),Yi h.gr hg fun r e=>(hr r e).imp id fun h2=>by omega,Nat.le_trans h.size hg.size⟩
 cases hb:v.ownBlock with
 |none=>exact .inl rfl
 |some b=>
  refine .inr fun e=> ?_
  have h1:=hrow.lt b hb
  rcases hr b e.symm with e2| ⟨_,o,ho,hc⟩
  ·have:=hbt b e2.symm;omega
  ·rcases hrow.2 with ⟨rfl,_⟩ | ⟨g,cap,cur,rfl,_,hgb,_⟩
   ·simp[Value.ownBlock]at hb
   ·obtain rfl:g=b:=by simpa[Value.ownBlock]using hb
    rw[hgb]at ho;cases ho;cases hc
theorem WIv.appended{w W w1:World}{bt:Option Nat}{pre:List Ob}{x:Ob}{v v':Value}{tmp:Obj}(hbt: ∀r,bt=some r→r<w.heap.size)(h:WIv w bt pre W)(hv:Boxed W w.heap.size 43 v)
  (hrow:W.ownsRow (w.heap.size+4) 49 5 v pre.length (obsC pre)) (hown':w1.ownsRow (w.heap.size+4) 49 5 v' (pre.length+1) (obsC pre++obC x))
  (hgrow:(W.alloc tmp).grownBy w1 v.ownBlock) (hat:v'.ownBlock=v.ownBlock∨v'.ownBlock=some (W.alloc tmp).heap.size):
  Boxed w1 w.heap.size 43 v∧KeepsFrom (w.heap.size+4) W (w1.setCell ⟨w.heap.size,0,none⟩ v')∧KpW w.heap.size (w.heap.size+4) W (w1.setCell ⟨w.heap.size,0,none⟩ v')∧WIv w bt (pre++ [x]) (w1.setCell ⟨w.heap.size,0,none⟩ v'):=by
 have hsz:=h.size
 obtain⟨hv1,hv2,hr2,hk2,hb2⟩:=hv.appended (by decide) (U5 hrow (B':=w.heap.size) (by omega)) (by omega) (Nat.le_refl _) (U5 hown' (B':=w.heap.size) (by omega)) hgrow
 have hlow: ∀b,v.ownBlock=some b→w.heap.size+4≤b:=fun b hb=>(hrow.lt b hb).1
 have hrow2:(w1.setCell ⟨w.heap.size,0,none⟩ v').ownsRow (w.heap.size+4) 49 5 v' (pre.length+1) (obsC pre++obC x):=hown'.kept (grownBy_setCell' w1 w.heap.size v') (by
  cases hb:v'.ownBlock with
  |none=>exact .inl rfl
  |some b=>exact .inr fun e=>by have h1:=(hown'.lt b hb).1;cases e;omega)
 refine⟨hv1,hk2.from _,⟨hk2.size,fun k o hk hc hn hr=> ?_,fun k hk e=> ?_⟩,⟨v',hv2,?_⟩,?_,?_,Nat.le_trans hsz hk2.size⟩
 ·rw[Below.heap_setCell _ _ _ _ hn,hgrow.block k (by have:=Zk hk;simp;omega) (fun e=> ?_),Below.heap_alloc _ _ _ (Zk hk),hk]
  rcases hr with hr|hr
  ·have:=hlow k e.symm;omega
  ·exact hr ((Rx hv).trans e.symm)
 ·rw[Rx hv2]at e
  rw[Rx hv]
  rcases hat with hat|hat
  ·rw[←hat];exact e
  ·rw[hat]at e
   simp at e
   omega
 ·rw[List.length_append,yN];exact hrow2
 ·have he1:Boxed w1 (w.heap.size+1) 36 (.int .i64 0):=(h.e.alloc tmp).kept hgrow (fun e=>by have:=hlow _ e.symm;omega)
  exact(Below.heap_setCell _ _ _ _ (by show w.heap.size+1≠w.heap.size;omega)).trans he1
 ·refine Yi (Yi (Yi h.gr (World.grownBy_alloc W tmp none) (by simp)) hgrow fun r e=> .inr ?_) (grownBy_setCell' w1 w.heap.size v') fun r e=> .inr ?_
  ·have:=hlow r e;omega
  ·cases e;exact Nat.le_refl _
theorem KpW.alloc{bl base:Nat}{W:World}(o:Obj)(hbl:bl<W.heap.size):KpW bl base W (W.alloc o):=by
 refine⟨by simp,fun k o2 hk _ _ _=>(Below.heap_alloc _ _ _ (Zk hk)).trans hk,fun k _ hr=> ?_⟩
 unfold rowB at hr⊢
 rw[World.cell?_alloc_lt _ _ _ hbl]at hr
 exact hr
end Vm
namespace Vm
open Go Go.Proofs Go.RowKit Go.Shelf
attribute [local go_sem] Oper.semAt_some
set_option maxHeartbeats 1000000
set_option maxRecDepth 100000
theorem Z4s:(Try.prog.info? 49).map (fun i=>(i.zero,i.size,i.bytes))=some (some (.agg #[.int .i64 0,.int .i64 0,.int .i64 0,.bool false,.int .u64 0]),5,40):=by kernel_rfl
theorem unO:Try.prog.underlying 43=some (.slice 49):=by kernel_rfl
theorem LF(w:World)(a b c d e:Value)(t:TypeId): ∀j u,[a,b,c,d,e][j]? =some u→(w.alloc (.cells #[a,b,c,d,e] t)).cell? ((⟨w.heap.size,0,none⟩:Addr).add j)=some u:=by
 intro j u h
 have:=cell_of_row _ _ j _ _ _ (heap_alloc_new w (.cells #[a,b,c,d,e] t))
 have e2:(⟨w.heap.size,0,none⟩:Addr).add j=⟨w.heap.size,j,none⟩:=by unfold Addr.add;split<;>simp_all
 rw[e2,this]
 simpa using h
def yY(w:World)(ws:List Int)(shs:List (Int×Int))(old:Bool)(bt:Option Nat)(K:Nat→World→Prop)(e:Ending)(W:World):Prop:=
 ∃v n xs,e= .returned (.tuple #[v,.int .i64 n])∧w.grownBy W bt∧W.ownsRow (w.heap.size+4) 49 5 v xs.length (obsC xs)∧((n=0∧endS ws shs old K xs W)∨((n=2∨n=3)∧xs= []∧Zo ws shs old=([],n)))
theorem Q9{w:World}{ws:List Int}{g o cap:Nat}{bt:Option Nat}{sv gv:Value}{shs:List (Int×Int)}{old:Bool}{K:Nat→World→Prop}(hw:Words w ws g o cap)
  (hsv:sv= .slice (some ⟨g,o,none⟩) ws.length cap∨(ws= []∧ ∃a c,sv= .slice a 0 c)) (hg:(ws≠ []→g<w.heap.size)∧g<w.heap.size+4∧g≠w.heap.size) (hgv:gv= .nilFunc∨ ∃f vs,gv= .func (.func f) #[] vs)
  (hbt: ∀r,bt=some r→r<w.heap.size) (hgt:some g≠bt) (hbeg:jf ws g o cap gv shs old bt K) (hK0:K 0 w)
  (hKG: ∀t A B row,K t A→A.grownBy B row→(∀r,row=some r→w.heap.size≤r)→K t B)
  (hKK: ∀bl base t A B,w.heap.size≤bl→w.heap.size≤base→K t A→KpW bl base A B→K t B):
  Calls Try.prog 120 #[sv,gv] w (yY w ws shs old bt K):=by
 refine(callsIn_wide (n:=5)).1 ?_
 have hmf: ∀(fn:Go.Fn) (first cap:Array Value) (w:World),(Instr.makeFunc fn first cap).run Try.prog w= .ok (.func fn first cap) w:=fun _ _ _ _=>rfl
 have hsf: ∃a n c,sv= .slice a n c:=by
  rcases hsv with rfl| ⟨_,a,c,rfl⟩
  ·exact⟨_,_,_,rfl⟩
  ·exact⟨_,_,_,rfl⟩
 refine callsIn_of_wp_marks Try.func120 rfl trivial ?_ rfl
 simp only[Try.ntmps120,List.size_toArray,List.length_cons,List.length_nil,Nat.reduceAdd,Nat.reduceSub,Array.replicate_succ,Array.replicate_zero,List.push_toArray,List.append_toArray,List.nil_append,List.cons_append]
 have he:=fun W=>yf W sv gv hsf hgv
 gi_wp2
 refine⟨trivial,(callsIn_wide.2 (he _)).mono ?_⟩
 rintro e w1 ⟨rfl,rfl⟩
 gi_wp2
 have hnx: ∀b:Nat,b<w.heap.size→((((w.alloc (Obj.cells #[.slice none 0 0] 43)).alloc (.cells #[.int .i64 0] 36)).alloc (.cells #[sv] 23)).alloc (.cells #[gv] 183)).heap[b]? =w.heap[b]? :=fun b hb=>by
  rw[Below.heap_alloc _ _ _ (by simp;omega),Below.heap_alloc _ _ _ (by simp;omega),Below.heap_alloc _ _ _ (by simp;omega),Below.heap_alloc _ _ _ hb]
 have b0:Boxed ((((w.alloc (Obj.cells #[.slice none 0 0] 43)).alloc (.cells #[.int .i64 0] 36)).alloc (.cells #[sv] 23)).alloc (.cells #[gv] 183)) w.heap.size 43 (.slice none 0 0):=(((Boxed.new w _ _).alloc _).alloc _).alloc _
 have b1:Boxed ((((w.alloc (Obj.cells #[.slice none 0 0] 43)).alloc (.cells #[.int .i64 0] 36)).alloc (.cells #[sv] 23)).alloc (.cells #[gv] 183)) (w.heap.size+1) 36 (.int .i64 0):=by
  have:=((Boxed.new (w.alloc (Obj.cells #[.slice none 0 0] 43)) 36 (.int .i64 0)).alloc (.cells #[sv] 23)).alloc (.cells #[gv] 183)
  rwa[World.size_alloc]at this
 have b2:Boxed ((((w.alloc (Obj.cells #[.slice none 0 0] 43)).alloc (.cells #[.int .i64 0] 36)).alloc (.cells #[sv] 23)).alloc (.cells #[gv] 183)) (w.heap.size+2) 23 sv:=by
  have:=(Boxed.new ((w.alloc (Obj.cells #[.slice none 0 0] 43)).alloc (.cells #[.int .i64 0] 36)) 23 sv).alloc (.cells #[gv] 183)
  simpa using this
 have b3:Boxed ((((w.alloc (Obj.cells #[.slice none 0 0] 43)).alloc (.cells #[.int .i64 0] 36)).alloc (.cells #[sv] 23)).alloc (.cells #[gv] 183)) (w.heap.size+3) 183 gv:=by
  have:=Boxed.new (((w.alloc (Obj.cells #[.slice none 0 0] 43)).alloc (.cells #[.int .i64 0] 36)).alloc (.cells #[sv] 23)) 183 gv
  simpa using this
 have hgr:w.grownBy ((((w.alloc (Obj.cells #[.slice none 0 0] 43)).alloc (.cells #[.int .i64 0] 36)).alloc (.cells #[sv] 23)).alloc (.cells #[gv] 183)) bt:=⟨rfl,rfl,rfl,by simp;omega,fun k hk _=>hnx k hk⟩
 have hsz:((((w.alloc (Obj.cells #[.slice none 0 0] 43)).alloc (.cells #[.int .i64 0] 36)).alloc (.cells #[sv] 23)).alloc (.cells #[gv] 183)).heap.size=w.heap.size+4:=by simp
 generalize hW0:(((w.alloc (Obj.cells #[.slice none 0 0] 43)).alloc (.cells #[.int .i64 0] 36)).alloc (.cells #[sv] 23)).alloc (.cells #[gv] 183)=W0 at*
 have hst:Stat6 ws g o cap sv (w.heap.size+2) (w.heap.size+3) (w.heap.size+4) w.heap.size bt gv W0:=by
  refine⟨⟨fun i x hx=> ?_,hw.le,hw.cap,hw.len,hw.u64⟩,hsv,b2,b3,fun hn=> ?_,⟨by omega,by omega,by omega,by omega⟩,⟨by omega,by omega,by omega⟩,hgt,?_,?_⟩
  ·rw[←hw.at_ i x hx]
   exact World.cell?_of_block (hnx g (hg.1 (fun e=>by rw[e]at hx;simp at hx)))
  ·obtain⟨x,hx⟩: ∃x,ws[0]? =some x:=by cases ws with|nil=>exact absurd rfl hn|cons x l=>exact⟨x,rfl⟩
   have:=hw.at_ 0 x hx
   rw[hnx g (hg.1 hn)]
   unfold World.cell? at this
   cases hh:w.heap[g]? with
   |none=>simp[hh]at this
   |some ob=>
    refine⟨ob,rfl,?_⟩
    rw[hh]at this
    cases ob<;>simp_all [Obj.isCells]
  ·intro e;have:=hbt _ e.symm;omega
  ·intro e;have:=hbt _ e.symm;omega
 have hK0':K 0 W0:=hKG 0 w W0 none hK0 ⟨hgr.os,hgr.tape,hgr.output,hgr.size,fun k hk _=>hnx k hk⟩ (by simp)
 have hseq:=yR 4 hst (by omega) (fun e=>by have:=hbt _ e.symm;omega) hbeg hK0' (fun t A B hA hB=>hKG t A B none hA ⟨hB.os,hB.tape,hB.output,hB.size,fun k hk _=>hB.block k hk⟩ (by simp)) (fun t A B hA hB=>hKK _ _ t A B (Nat.le_refl _) (by omega) hA hB)
 refine UT rfl (by omega) (gf:=125) (lb:= #[.pointer (some ⟨w.heap.size+2,0,none⟩),.pointer (some ⟨w.heap.size+3,0,none⟩)]) rfl trivial (enters_of Try.func125 (by kernel_rfl) rfl)
  hseq (fun r e=>by have:=hbt r e;omega) KpW.trans (fun W l o o' h1 h2 h3 _=>KpW.put o' h2 h3 (by omega)) (Below.refl _ _) (fun _=>rfl)
  (WIv w bt) (hsz▸WIv.own hbt) (fun pre W h=>h.rowIn) ⟨⟨_,b0,World.ownsRow_nil _ _ _ _⟩,b1,hgr,by omega⟩ ?hS
  (fun x a' W=> ∃Bx,w.heap.size+4≤Bx∧W.heap[Bx]? =some (.cells #[.int .i64 x.at_,.int .i64 x.size,.int .i64 x.ptrs,.bool x.gone,.int .u64 x.target] 49 (0,0))∧
   a'= {tmps:= #[sv,gv,undef,undef,.pointer (some ⟨w.heap.size,0,none⟩),.pointer (some ⟨w.heap.size+1,0,none⟩),.pointer (some ⟨Bx,0,none⟩),
    .func (.func 123) #[] #[.pointer (some ⟨w.heap.size,0,none⟩),.pointer (some ⟨w.heap.size+1,0,none⟩)],sv,gv,.func (.func 125) #[] #[.pointer (some ⟨w.heap.size+2,0,none⟩),.pointer (some ⟨w.heap.size+3,0,none⟩)],obA x,undef,undef,undef,undef,undef],defers:= []})
  ?hAx ?assign ?body ?done ?panic
 case hS=>
  rintro xs X Y row ⟨t,hK,hR⟩ hgr2 hrow
  exact⟨t,hKG t X Y row hK hgr2 fun r e=>(hrow r e).elim (fun e2=>by cases e2) (fun e2=>by omega),hR⟩
 case hAx=>
  rintro x a' s X Y row ⟨Bx,hB,hx,ha⟩ hgr2 hrow
  refine⟨Bx,hB,(hgr2.block Bx (Zk hx) fun e=> ?_).trans hx,ha⟩
  rcases hrow Bx e.symm with e2| ⟨_,o2,h2,h3⟩
  ·cases e2
  ·rw[hx]at h2;cases h2;cases h3
 case assign=>
  rintro l pre x W K2 hi hK2
  simp only[List.zip_cons_cons,Array.zip,obA]
  gi_wp2
  exact hK2 _ _ ((KeepsOthers.alloc W _).from _) (KpW.alloc _ (by have:=hi.size;omega)) ((WIv.own hbt).alloc _ hi) ⟨W.heap.size,hi.size,heap_alloc_new W _,rfl⟩
 case body=>
  rintro l pre x a' W hi ⟨Bx,hBx,hx,rfl⟩ hlen
  obtain⟨v,hv,hrow⟩:=hi.row
  obtain⟨i0,hin,hz0,hz1,hz2⟩:=info_parts Z4s
  obtain⟨va,vc,rfl⟩:=Z1 hrow
  have c1:=hv.cell
  have c2:=hv.frozen
  have d0:W.cell? ⟨Bx,0,none⟩=some (.int .i64 x.at_):=by rw[cell_of_row _ _ _ _ _ _ hx];rfl
  have d1:W.cell? ⟨Bx,1,none⟩=some (.int .i64 x.size):=by rw[cell_of_row _ _ _ _ _ _ hx];rfl
  have d2:W.cell? ⟨Bx,2,none⟩=some (.int .i64 x.ptrs):=by rw[cell_of_row _ _ _ _ _ _ hx];rfl
  have d3:W.cell? ⟨Bx,3,none⟩=some (.bool x.gone):=by rw[cell_of_row _ _ _ _ _ _ hx];rfl
  have d4:W.cell? ⟨Bx,4,none⟩=some (.int .u64 x.target):=by rw[cell_of_row _ _ _ _ _ _ hx];rfl
  have hpl:pre.length≤1000000:=Nat.le_trans (Nat.le_of_lt hlen) hw.len
  have hszW:=hi.size
  have HA:=fun tmp w1 v'=>WIv.appended (W:=W) (w1:=w1) (x:=x) (v':=v') (tmp:=tmp) hbt hi hv hrow
  gi_wp2_with (gi_at_builtin;refine wpListIn_append_own_at _ rfl _ _ 43 rfl (w.heap.size+4) 49 i0 _ 5 40 unO hin hz0 hz1 hz2 rfl (by decide) _ _ _ rfl (hrow.alloc _) ⟨W.heap.size,0,none⟩ 1 1 (obC x) rfl rfl (LF _ _ _ _ _ _ _) (by simp[obC,Value.oneCell']) (by unfold maxLen;omega) (by omega) (by simp;omega) ?_;intro v' w1 hown' hgrow _ hat;obtain⟨g',cap',rfl⟩:=ownsRow_succ hown';obtain⟨e1,e2,e3,e4⟩:=HA _ _ _ hown' hgrow hat;have e5:=e1.cell;have e6:=e1.frozen)
  rw[hsz]
  exact⟨e2,e3,e4⟩
 case done=>
  rintro D xs W hD hS hi hD2
  obtain⟨v,hv,hrow⟩:=hi.row
  obtain⟨va,vc,rfl⟩:=Z1 hrow
  have c1:=hv.cell
  have c2:=hv.frozen
  have c3:=hi.e.cell
  have c4:=hi.e.frozen
  rw[hsz]at hD
  gi_wp2
  have hDX:((W.setCell ⟨w.heap.size,0,none⟩ (.slice va xs.length vc)).setCell ⟨w.heap.size+1,0,none⟩ (.int .i64 0)).heap[D]? =some (.deferred (some [])):=by
   rw[Below.heap_setCell _ _ _ _ (by show D≠w.heap.size+1;omega),Below.heap_setCell _ _ _ _ (by show D≠w.heap.size;omega)]
   exact hD2
  have f0:Boxed ((W.setCell ⟨w.heap.size,0,none⟩ (.slice va xs.length vc)).setCell ⟨w.heap.size+1,0,none⟩ (.int .i64 0)) w.heap.size 43 (.slice va xs.length vc):=
   (Below.heap_setCell _ _ _ _ (by show w.heap.size≠w.heap.size+1;omega)).trans (hv.set _)
  have f1:Boxed ((W.setCell ⟨w.heap.size,0,none⟩ (.slice va xs.length vc)).setCell ⟨w.heap.size+1,0,none⟩ (.int .i64 0)) (w.heap.size+1) 36 (.int .i64 0):=
   Boxed.set _ (show Boxed (W.setCell ⟨w.heap.size,0,none⟩ (.slice va xs.length vc)) (w.heap.size+1) 36 (.int .i64 0)from(Below.heap_setCell _ _ _ _ (by show w.heap.size+1≠w.heap.size;omega)).trans hi.e)
  have g1:=grownBy_setCell' W w.heap.size (.slice va xs.length vc)
  have g2:=grownBy_setCell' (W.setCell ⟨w.heap.size,0,none⟩ (.slice va xs.length vc)) (w.heap.size+1) (.int .i64 0)
  have hlow:=hrow.lt
  have r2:=(hrow.kept g1 (by
   cases hb:(Value.slice va xs.length vc).ownBlock with
   |none=>exact .inl rfl
   |some b=>exact .inr fun e=>by have:=(hlow b hb).1;cases e;omega)).kept g2 (by
   cases hb:(Value.slice va xs.length vc).ownBlock with
   |none=>exact .inl rfl
   |some b=>exact .inr fun e=>by have:=(hlow b hb).1;cases e;omega)
  generalize hW2:(W.setCell ⟨w.heap.size,0,none⟩ (.slice va xs.length vc)).setCell ⟨w.heap.size+1,0,none⟩ (.int .i64 0)=W2 at*
  have g3:=grownBy_putObj' W2 D (.deferred none)
  have f0':Boxed (W2.putObj D (.deferred none)) w.heap.size 43 (.slice va xs.length vc):=(World.putObj_heap_other (by omega)).trans f0
  have f1':Boxed (W2.putObj D (.deferred none)) (w.heap.size+1) 36 (.int .i64 0):=(World.putObj_heap_other (by omega)).trans f1
  have k0:=f0'.cell
  have k1:=f1'.cell
  refine⟨by simp,.inl ⟨D,_,rfl,run_takeDeferred hDX,?_⟩⟩
  refine⟨by simp,.inr ⟨fun h=>(by cases h),.func 123,_,123, #[.pointer (some ⟨w.heap.size,0,none⟩),.pointer (some ⟨w.heap.size+1,0,none⟩)],rfl,by simp[go_sem],fun _ _=>trivial,?_⟩⟩
  refine(zI _ _ _ _).mono ?_
  rintro e u' w'' ⟨rfl,rfl,rfl⟩
  refine⟨.tuple #[.slice va xs.length vc,.int .i64 0],by simp[results,Try.results120,go_sem,k0,k1],?_⟩
  obtain⟨t,hK,hR⟩:=hS
  refine⟨_,0,xs,rfl,Yi (Yi (Yi hi.gr g1 fun r e=> .inr ?_) g2 fun r e=> .inr ?_) g3 fun r e=> .inr ?_,ownsRow_putObj r2 _ hDX rfl,.inl ⟨rfl,t,hKG t _ _ _ (hKG t _ _ _ (hKG t _ _ _ hK g1 fun r e=> ?_) g2 fun r e=> ?_) g3 fun r e=> ?_,hR⟩⟩
  all_goals (cases e;omega)
 case panic=>
  rintro D chain pre W hD ⟨e,he2,rfl,hWk⟩ hi hD2
  rw[hsz]at hD
  obtain⟨v,hv,hrow⟩:=hi.row
  have g3:=grownBy_putObj' W D (.deferred none)
  have f0':Boxed (W.putObj D (.deferred none)) w.heap.size 43 v:=(World.putObj_heap_other (by omega)).trans hv
  have f1':Boxed (W.putObj D (.deferred none)) (w.heap.size+1) 36 (.int .i64 0):=(World.putObj_heap_other (by omega)).trans hi.e
  have hg4:w.grownBy (W.putObj D (.deferred none)) bt:=Yi hi.gr g3 fun r e=> .inr (by cases e;omega)
  refine⟨by simp,.inl ⟨D,_,rfl,run_takeDeferred hD2,?_⟩⟩
  refine⟨by simp,.inr ⟨fun h=>(by cases h),.func 123,_,123, #[.pointer (some ⟨w.heap.size,0,none⟩),.pointer (some ⟨w.heap.size+1,0,none⟩)],rfl,by simp[go_sem],fun _ _=>trivial,?_⟩⟩
  refine(S2 _ w.heap.size (w.heap.size+1) e _ _ _ f0' f1' (by omega)).mono ?_
  rintro e' u' w'' ⟨rfl,rfl,h0,h1,⟨hs2,hk⟩,hos,htape,hout⟩
  have k0:=h0.cell
  have k1:=h1.cell
  refine⟨.tuple #[.slice none 0 0,.int .i64 e],by simp[results,Try.results120,go_sem,k0,k1],?_⟩
  refine⟨_,e,[],rfl,⟨hos.trans hg4.os,htape.trans hg4.tape,hout.trans hg4.output,Nat.le_trans hg4.size hs2,fun k hk2 hn=> ?_⟩,World.ownsRow_nil _ _ _ _,.inr ⟨he2,rfl,hWk⟩⟩
  exact(hk k (Nat.lt_of_lt_of_le hk2 hg4.size) (by omega) (by omega)).trans (hg4.block k hk2 hn)
end Vm
namespace Vm
open Go Go.Proofs Go.RowKit Go.Shelf
set_option maxHeartbeats 1000000
set_option maxRecDepth 100000
theorem K4{w:World}{G:Nat→Prop}{k:IntKind}{n:Int}{v:Value}(r:Rd w G (.int k n) v):v= .int k n:=by cases r;rfl
theorem Sa{w:World}{G:Nat→Prop}{ws:List Int}{v:Value}(r:Rd w G (.sl (ws.map vu)) v)(hG: ∀b,G b→b<w.heap.size)(hl:ws.length≤1000000)(hu: ∀x∈ws,U64 x)(q:Nat):
  ∃g o cap,Words w ws g o cap∧(v= .slice (some ⟨g,o,none⟩) ws.length cap∨(ws= []∧ ∃a c,v= .slice a 0 c))∧((ws≠ []→g<w.heap.size)∧(g<w.heap.size∨g=q)):=by
 generalize hL:ws.map vu=L at r
 cases r with
 |nil a cap hc=>
  have:ws= []:=List.map_eq_nil_iff.1 hL
  subst this
  exact⟨q,0,0,⟨fun i x hx=>by simp at hx,by simp,by unfold maxLen;omega,by simp,by simp⟩,.inr ⟨rfl,a,cap,rfl⟩,fun h=>absurd rfl h,.inr rfl⟩
 |sl _ b o cap k vs h1 h2 h3 h4 h5 h6=>
  subst hL
  simp only[List.length_map]at h1 h5⊢
  refine⟨b,o,cap,⟨fun i x hx=> ?_,h1,h2,hl,hu⟩,.inl rfl,fun _=>hG b h3,.inl (hG b h3)⟩
  have hm:(ws.map vu)[i]? =some (vu x):=by rw[List.getElem?_map,hx];rfl
  have hk:k=1:=((h4 _ (List.mem_of_getElem? hm)).1).symm
  subst hk
  have hi:i<ws.length:=(List.getElem?_eq_some_iff.1 hx).1
  rw[h5 i (by omega)]
  have:=h6 i (vu x) (by have:=We h4 hm 0 (by omega);simpa using this)
  rw[K4 this]
theorem zC{w:World}{G:Nat→Prop}{shs:List (Int×Int)}{v:Value}(r:Rd w G (.sl (shs.map shP)) v)(hG: ∀b,G b→b<w.heap.size):
  (∃g o cap,v= .slice (some ⟨g,o,none⟩) shs.length cap∧shs.length≤cap∧cap≤maxLen∧g<w.heap.size∧ ∀(i:Nat) (x:Int×Int),shs[i]? =some x→w.cell? ⟨g,o+i*2,none⟩=some (.int .i64 x.1)∧w.cell? ⟨g,o+i*2+1,none⟩=some (.int .i64 x.2))∨
  (∃a cap,v= .slice a 0 cap∧shs= []):=by
 generalize hL:shs.map shP=L at r
 cases r with
 |nil a cap hc=>
  have:shs= []:=List.map_eq_nil_iff.1 hL
  exact .inr ⟨a,cap,rfl,this⟩
 |sl _ b o cap k vs h1 h2 h3 h4 h5 h6=>
  subst hL
  simp only[List.length_map]at h1 h5⊢
  refine .inl ⟨b,o,cap,rfl,h1,h2,hG b h3,fun i x hx=> ?_⟩
  have hm:(shs.map shP)[i]? =some (shP x):=by rw[List.getElem?_map,hx];rfl
  have hk:k=2:=((h4 _ (List.mem_of_getElem? hm)).1).symm
  subst hk
  have hi:i<shs.length:=(List.getElem?_eq_some_iff.1 hx).1
  have e0:=h6 (i*2) (vi x.1) (by have:=We h4 hm 0 (by omega);simpa using this)
  have e1:=h6 (i*2+1) (vi x.2) (by have:=We h4 hm 1 (by omega);simpa using this)
  refine⟨?_,?_⟩
  ·rw[h5 (i*2) (by omega)]
   rw[K4 e0]
  ·rw[Nat.add_assoc,h5 (i*2+1) (by omega)]
   rw[K4 e1]
theorem QJ{w:World}{G:Nat→Prop}: ∀(l:List Ob) (i:Nat) (c:V),(flat (l.map obV))[i]? =some c→Rd w G c ((obsC l).getD i undef)
 | [],i,c,h=>by simp[flat]at h
 |x::l,i,c,h=>by
  rw[List.map_cons,YZ]at h
  have e:obsC (x::l)=obC x++obsC l:=by simp[obsC]
  rw[e]
  by_cases hi:i<5
  ·match i,hi with
   |0,_=>simp[obV,V.cells]at h;subst h;exact .int _ _
   |1,_=>simp[obV,V.cells]at h;subst h;exact .int _ _
   |2,_=>simp[obV,V.cells]at h;subst h;exact .int _ _
   |3,_=>simp[obV,V.cells]at h;subst h;exact .bool _
   |4,_=>simp[obV,V.cells]at h;subst h;exact .int _ _
  ·have h2:(flat (l.map obV))[i-5]? =some c:=by
    rw[List.getElem?_append_right (by simp[obV,V.cells];omega)]at h
    simpa[obV,V.cells]using h
   have:=QJ (w:=w) (G:=G) l (i-5) c h2
   have hg:(obC x++obsC l).getD i undef=(obsC l).getD (i-5) undef:=by
    simp only[List.getD_eq_getElem?_getD]
    rw[List.getElem?_append_right (by simp[obC];omega)]
    simp[obC]
   rw[hg]
   exact this
theorem Z1n(l:List Ob): ∀x∈l.map obV,V.fits 5 x:=by
 intro x hx
 obtain⟨o,_,rfl⟩:=List.mem_map.1 hx
 exact⟨rfl,fun c hc=>by simp[obV,V.cells]at hc;rcases hc with rfl|rfl|rfl|rfl|rfl<;>rfl⟩
theorem Z0H{w:World}{G:Nat→Prop}{B:Nat}{e:TypeId}{v:Value}{l:List Ob}(h:w.ownsRow B e 5 v l.length (obsC l))(hG: ∀c,B≤c→c<w.heap.size→G c):Rd w G (.sl (l.map obV)) v:=by
 have hlen:(obsC l).length=l.length*5:=h.1
 rcases h.2 with ⟨rfl,h0⟩ | ⟨g,cap,cur,rfl,hb,hg,hnc,hcm,_⟩
 ·have:l= []:=List.length_eq_zero_iff.1 h0
  subst this
  exact .nil _ _ (by unfold maxLen;omega)
 ·have:=Rd.sl (w:=w) (G:=G) (l.map obV) g 0 cap 5 (fun i=>(obsC l).getD i undef) (by simpa using hnc) hcm (hG g hb (Zk hg)) (Z1n l) (fun i hi=>by
    have hi':i< (obsC l).length:=by rw[hlen];simpa using hi
    rw[Nat.zero_add,h.cellAt i (by rw[←hlen];exact hi')]
    simp[hi']) (fun i c hc=>QJ l i c hc)
  simpa using this
theorem Z3r{ws:List Int}{shs:List (Int×Int)}{old:Bool}{K:Nat→World→Prop}{n:Int}{xs:List Ob}{W:World}(h0:shs= [])(h:(n=0∧endS ws shs old K xs W)∨((n=2∨n=3)∧xs= []∧Zo ws shs old=([],n))):Zo ws shs old=(xs,n):=by
 subst h0
 rcases h with ⟨rfl,t,_,h⟩ | ⟨_,rfl,h⟩
 ·rw[h,if_neg (by simp)]
 ·exact h
theorem Kv:TM:=by
 intro ws hl hu
 refine⟨by kernel_rfl,fun w G vs hG hsz hvs=> ?_⟩
 have r0:=hvs 0 _ rfl
 obtain⟨⟨l⟩⟩:=vs
 ·simp at hsz
 rename_i v0 l
 cases l with
 |cons _ _=>simp at hsz
 |nil=>
  simp at r0
  obtain⟨g,o,cap,hw,hsv,hg1,hg2⟩:=Sa r0 hG hl hu (w.heap.size+1)
  have hk:=Q9 (w:=w) (shs:= []) (old:=false) (bt:=none) (K:=fun t _=>t=0) hw hsv ⟨hg1,by omega,by omega⟩ (.inl rfl) (by simp) (by simp) Z12 rfl (fun t A B row h _ _=>h) (fun bl base t A B _ _ h _=>h)
  obtain⟨sa,sn,sc,rfl⟩: ∃a n c,v0= .slice a n c:=by
   rcases hsv with rfl| ⟨_,a,c,rfl⟩
   ·exact⟨_,_,_,rfl⟩
   ·exact⟨_,_,_,rfl⟩
  have HK:=Lib.hid hk
  clear hk hw hsv r0 hvs
  go_enter Try.func108,Try.ntmps108
  go_wp2_with (go_at_call 120;refine HK.out.mono ?_;rintro e w1 ⟨v,n,xs,rfl,hgr,hrow,hE⟩;have HR:=Lib.hid (And.intro hgr (And.intro hrow hE));clear hgr hrow hE)
  obtain⟨hgr,hrow,hE⟩:=HR.out
  have hW:=Z3r rfl hE
  refine bodyPost_ret (v:= .tuple #[v,.int .i64 n]) (by simp[results,Try.results108,go_sem]) rfl ⟨_,rfl,(Below.refl _ w).grown hgr (Nat.le_refl _) (fun j e=>by cases e),?_⟩
  rw[hW]
  refine .tup _ _ rfl ?_
  intro i y hy
  match i,hy with
  |0,hy=>cases hy;exact Z0H hrow fun c h1 h2=> .inr ⟨by omega,h2⟩
  |1,hy=>cases hy;exact .int _ _
theorem KpW.cell{bl base:Nat}{A B:World}(h:KpW bl base A B){k i:Nat}{c:Value}(hc:A.cell? ⟨k,i,none⟩=some c)(hk:k<base)(hn:k≠bl):B.cell? ⟨k,i,none⟩=some c:=by
 have hc2:=hc
 unfold World.cell? at hc
 cases hh:A.heap[k]? with
 |none=>simp[hh]at hc
 |some ob=>
  have hob:ob.isCells=true:=by
   rw[hh]at hc
   cases ob<;>simp_all [Obj.isCells]
  rw[←hc2]
  exact World.cell?_of_block (a:=⟨k,i,none⟩) ((h.same k ob hh hob hn (.inl hk)).trans hh.symm)
theorem KOld.grown{shs:List (Int×Int)}{bt bs t n:Nat}{v:Value}{A B:World}{row:Option Nat}(h:KOld shs bt bs v t A)(hg:A.grownBy B row)(hbt:bt<n)(hbs:bs<n)(hv:shs≠ []→ ∀g o cap,v= .slice (some ⟨g,o,none⟩) shs.length cap→g<n)(hr: ∀r,row=some r→n≤r):KOld shs bt bs v t B:=by
 obtain⟨h1,h2,h3⟩:=h
 exact⟨(hg.block _ (Zk h1) (fun e=>by have:=hr _ e.symm;omega)).trans h1,h2.grown hg (fun e=>by have:=hr _ e.symm;omega) (fun hn g o cap e e2=>by have:=hr _ e2.symm;have:=hv hn _ _ _ e;omega),h3⟩
theorem KOld.kp{shs:List (Int×Int)}{bt bs t n bl base:Nat}{v:Value}{A B:World}(h:KOld shs bt bs v t A)(hg:KpW bl base A B)(hbt:bt<n)(hbs:bs<n)(hv:shs≠ []→ ∀g o cap,v= .slice (some ⟨g,o,none⟩) shs.length cap→g<n)(h1:n≤bl)(h2:n≤base):KOld shs bt bs v t B:=by
 obtain⟨k1,⟨k2,k3⟩,k4⟩:=h
 refine⟨hg.same _ _ k1 rfl (by omega) (.inl (by omega)),⟨hg.same _ _ k2 rfl (by omega) (.inl (by omega)),?_⟩,k4⟩
 rcases k3 with ⟨g,o,cap,rfl,a1,a2,a3,a4⟩ |h
 ·refine .inl ⟨g,o,cap,rfl,a1,a2,Nat.lt_of_lt_of_le a3 hg.size,fun i x hx=> ?_⟩
  have:=hv (fun e=>by rw[e]at hx;simp at hx) _ _ _ rfl
  exact⟨hg.cell (a4 i x hx).1 (by omega) (by omega),hg.cell (a4 i x hx).2 (by omega) (by omega)⟩
 ·exact .inr h
theorem Words.below2{w W:World}{ws:List Int}{g o cap:Nat}(h:Words w ws g o cap)(hs:ws≠ []→g<w.heap.size)(hb:Below w.heap.size w W):Words W ws g o cap:=
 ⟨fun i x hx=>by rw[hb.cell (p:=⟨g,o+i,none⟩) (hs (fun e=>by rw[e]at hx;simp at hx))];exact h.at_ i x hx,h.le,h.cap,h.len,h.u64⟩
theorem Ud:Xl:=by
 intro ws shs hl hsl hu hsh
 refine⟨by kernel_rfl,fun w G vs hG hsz hvs=> ?_⟩
 have r0:=hvs 0 _ rfl
 have r1:=hvs 1 _ rfl
 obtain⟨⟨l⟩⟩:=vs
 ·simp at hsz
 rename_i v0 l
 cases l with
 |nil=>simp at hsz
 |cons v1 l=>
 cases l with
 |cons _ _=>simp at hsz
 |nil=>
  simp at r0 r1
  obtain⟨g,o,cap,hw,hsv,hg1,hg2⟩:=Sa r0 hG hl hu (w.heap.size+3)
  have hv1:=zC r1 hG
  obtain⟨sa,sn,sc,rfl⟩: ∃a n c,v0= .slice a n c:=by
   rcases hsv with rfl| ⟨_,a,c,rfl⟩
   ·exact⟨_,_,_,rfl⟩
   ·exact⟨_,_,_,rfl⟩
  obtain⟨ta,tc,rfl⟩: ∃a c,v1= .slice a shs.length c:=by
   rcases hv1 with ⟨_,_,_,rfl,_⟩ | ⟨a,c,rfl,rfl⟩
   ·exact⟨_,_,rfl⟩
   ·exact⟨_,_,rfl⟩
  have b0:((w.alloc (.cells #[.slice ta shs.length tc] 159)).alloc (.cells #[.int .i64 0] 3)).heap[w.heap.size]? =some (.cells #[.slice ta shs.length tc] 159 (0,0)):=(Below.heap_alloc _ _ _ (by simp)).trans (heap_alloc_new w _)
  have b1:((w.alloc (.cells #[.slice ta shs.length tc] 159)).alloc (.cells #[.int .i64 0] 3)).heap[w.heap.size+1]? =some (.cells #[.int .i64 0] 3 (0,0)):=by
   have:=heap_alloc_new (w.alloc (.cells #[.slice ta shs.length tc] 159)) (.cells #[.int .i64 0] 3)
   simpa using this
  have hB1:Below w.heap.size w ((w.alloc (.cells #[.slice ta shs.length tc] 159)).alloc (.cells #[.int .i64 0] 3)):=((Below.refl _ w).alloc (Nat.le_refl _) _).alloc (by simp) _
  have hsz1:((w.alloc (.cells #[.slice ta shs.length tc] 159)).alloc (.cells #[.int .i64 0] 3)).heap.size=w.heap.size+2:=by simp
  have hgb:shs≠ []→ ∀g o cap,Value.slice ta shs.length tc= .slice (some ⟨g,o,none⟩) shs.length cap→g<w.heap.size:=by
   intro hn g o cap e
   rcases hv1 with ⟨g1,o1,c1,e1,_,_,h4,_⟩ | ⟨_,_,_,h⟩
   ·rw[e]at e1;cases e1;exact h4
   ·exact absurd h hn
  have hk:Calls Try.prog 120 #[.slice sa sn sc,.func (.func 121) #[] #[.pointer (some ⟨w.heap.size+1,0,none⟩),.pointer (some ⟨w.heap.size,0,none⟩)]] ((w.alloc (.cells #[.slice ta shs.length tc] 159)).alloc (.cells #[.int .i64 0] 3))
    (yY ((w.alloc (.cells #[.slice ta shs.length tc] 159)).alloc (.cells #[.int .i64 0] 3)) ws shs true (some (w.heap.size+1)) (KOld shs (w.heap.size+1) w.heap.size (.slice ta shs.length tc))):=by
   generalize hW1:(w.alloc (.cells #[.slice ta shs.length tc] 159)).alloc (.cells #[.int .i64 0] 3)=W1 at*
   have hgb1:shs≠ []→ ∀g o cap,Value.slice ta shs.length tc= .slice (some ⟨g,o,none⟩) shs.length cap→g<W1.heap.size:=fun hn g o cap e=>by have:=hgb hn g o cap e;omega
   refine Q9 (hw.below2 hg1 hB1) hsv ⟨fun h=>by have:=hg1 h;omega,by omega,by omega⟩ (.inr ⟨_,_,rfl⟩) (fun r e=>by cases e;omega) (fun e=>by cases e;omega) (Z1o hsl (by omega) (fun hn g o cap e=>by have:=hgb hn g o cap e;omega)) ⟨b1,⟨b0,?_⟩,by omega⟩ (fun t A B row h hg hr=>h.grown hg (n:=W1.heap.size) (by omega) (by omega) hgb1 hr) (fun bl base t A B h1 h2 h hk=>h.kp hk (n:=W1.heap.size) (by omega) (by omega) hgb1 h1 h2)
   rcases hv1 with ⟨g1,o1,c1,e1,a1,a2,a3,a4⟩ | ⟨a,c,e1,h⟩
   ·exact .inl ⟨g1,o1,c1,e1,a1,a2,by omega,fun i x hx=>⟨(hB1.cell (p:=⟨g1,o1+i*2,none⟩) a3).trans (a4 i x hx).1,(hB1.cell (p:=⟨g1,o1+i*2+1,none⟩) a3).trans (a4 i x hx).2⟩⟩
   ·exact .inr ⟨a,c,e1,h⟩
  have hrd: ∀w1 v n (xs:List Ob),(v= .slice none 0 0∧xs= []∨w1.ownsRow (w.heap.size+6) 49 5 v xs.length (obsC xs))→Zo ws shs true=(xs,n)→Rd w1 (fun b=>true=false∧G b∨w.heap.size≤b∧b<w1.heap.size) (.tup [.sl ((Zo ws shs true).1.map obV),vi (Zo ws shs true).2]) (.tuple #[v,.int .i64 n]):=by
   intro w1 v n xs hrow hW
   rw[hW]
   refine .tup _ _ rfl ?_
   intro i y hy
   match i,hy with
   |0,hy=>
    cases hy
    rcases hrow with ⟨rfl,rfl⟩ |hrow
    ·exact .nil _ _ (by unfold maxLen;omega)
    ·exact Z0H hrow fun c h1 h2=> .inr ⟨by omega,h2⟩
   |1,hy=>cases hy;exact .int _ _
  have hk2:Calls Try.prog 120 #[.slice sa sn sc,.func (.func 121) #[] #[.pointer (some ⟨w.heap.size+1,0,none⟩),.pointer (some ⟨w.heap.size,0,none⟩)]] ((w.alloc (.cells #[.slice ta shs.length tc] 159)).alloc (.cells #[.int .i64 0] 3)) fun e w1=>
    (∃(v:Value) (t:Nat),e= .returned (.tuple #[v,.int .i64 0])∧w1.cell? ⟨w.heap.size+1,0,none⟩=some (.int .i64 t)∧w1.cell? ⟨w.heap.size,0,none⟩=some (.slice ta shs.length tc)∧(t:Int) <shs.length∧Hid (Below w.heap.size w w1∧Rd w1 (fun b=>true=false∧G b∨w.heap.size≤b∧b<w1.heap.size) (.tup [.sl ((Zo ws shs true).1.map obV),vi (Zo ws shs true).2]) (.tuple #[.slice none 0 0,.int .i64 3])))∨
    (∃(v:Value) (t:Nat),e= .returned (.tuple #[v,.int .i64 0])∧w1.cell? ⟨w.heap.size+1,0,none⟩=some (.int .i64 t)∧w1.cell? ⟨w.heap.size,0,none⟩=some (.slice ta shs.length tc)∧ ¬(t:Int) <shs.length∧Hid (Below w.heap.size w w1∧Rd w1 (fun b=>true=false∧G b∨w.heap.size≤b∧b<w1.heap.size) (.tup [.sl ((Zo ws shs true).1.map obV),vi (Zo ws shs true).2]) (.tuple #[v,.int .i64 0])))∨
    (∃(v:Value) (n:Int),e= .returned (.tuple #[v,.int .i64 n])∧ ¬n=0∧Hid (Below w.heap.size w w1∧Rd w1 (fun b=>true=false∧G b∨w.heap.size≤b∧b<w1.heap.size) (.tup [.sl ((Zo ws shs true).1.map obV),vi (Zo ws shs true).2]) (.tuple #[.slice none 0 0,.int .i64 n]))):=by
   refine hk.mono ?_
   rintro e w1 ⟨v,n,xs,rfl,hgr,hrow,hE⟩
   rw[hsz1]at hrow
   have hB:Below w.heap.size w w1:=hB1.trans ((Below.refl _ _).grown hgr (by rw[hsz1];omega) (fun j e=>by cases e;omega))
   rcases hE with ⟨rfl,t,⟨hb,hs,ht⟩,hWk⟩ | ⟨hn,rfl,hWk⟩
   ·have q1:w1.cell? ⟨w.heap.size+1,0,none⟩=some (.int .i64 t):=by rw[cell_of_row _ _ _ _ _ _ hb];rfl
    have q2:w1.cell? ⟨w.heap.size,0,none⟩=some (.slice ta shs.length tc):=by rw[cell_of_row _ _ _ _ _ _ hs.box];rfl
    by_cases hlt:t<shs.length
    ·rw[if_pos hlt]at hWk
     exact .inl ⟨v,t,rfl,q1,q2,by omega,Lib.hid ⟨hB,hrd w1 _ _ [] (.inl ⟨rfl,rfl⟩) hWk⟩⟩
    ·rw[if_neg hlt]at hWk
     exact .inr (.inl ⟨v,t,rfl,q1,q2,by omega,Lib.hid ⟨hB,hrd w1 _ _ xs (.inr hrow) hWk⟩⟩)
   ·exact .inr (.inr ⟨v,n,rfl,by omega,Lib.hid ⟨hB,hrd w1 _ _ [] (.inl ⟨rfl,rfl⟩) hWk⟩⟩)
  have HK:=Lib.hid hk2
  clear hw hsv r0 r1 hvs hv1 hg1 hg2 hk hk2 hB1 b0 b1 hgb hsz1 hrd
  go_enter Try.func110,Try.ntmps110
  have hmf: ∀(fn:Go.Fn) (first cap:Array Value) (w:World),(Instr.makeFunc fn first cap).run Try.prog w= .ok (.func fn first cap) w:=fun _ _ _ _=>rfl
  go_wp2_with (go_at_call 120;refine HK.out.mono ?_;rintro e w1 (⟨v,t,rfl,q1,q2,hlt,HF⟩ | ⟨v,t,rfl,q1,q2,hlt,HF⟩ | ⟨v,n,rfl,hn,HF⟩))
  ·refine bodyPost_ret (v:= .tuple #[.slice none 0 0,.int .i64 3]) (by simp[results,Try.results110,go_sem]) rfl ⟨_,rfl,HF.out.1,HF.out.2⟩
  ·refine bodyPost_ret (v:= .tuple #[v,.int .i64 0]) (by simp[results,Try.results110,go_sem]) rfl ⟨_,rfl,HF.out.1,HF.out.2⟩
  ·refine bodyPost_ret (v:= .tuple #[.slice none 0 0,.int .i64 n]) (by simp[results,Try.results110,go_sem]) rfl ⟨_,rfl,HF.out.1,HF.out.2⟩
end Vm
namespace Vm
open Go Go.Proofs Go.RowKit
set_option maxHeartbeats 1000000
set_option maxRecDepth 100000
end Vm
end
section

end
section
namespace Vm
open Go Go.Proofs
set_option maxRecDepth 100000
set_option maxHeartbeats 1000000
theorem Z2Y{h:Hp}(hh:h.ok):VC Try.prog 33 false [hpV h] (.bool (Y7 h)):=by
 rw[←(Ut h).1]
 exact qS Kv Ud hh
theorem Z3j{h:Hp}(hh:h.ok){k:Int}:VC Try.prog 22 false [hpV h,vi k] (.tup [.sl ((Qa h k).1.map obV),vi (Qa h k).2]):=by
 rw[←yA h k]
 exact JY Kv Ud hh
theorem Z1Z{h:Hp}(hh:h.ok):VC Try.prog 26 false [hpV h] (vi (qG h)):=by
 rw[←qo h]
 exact Kb Kv Ud hh
end Vm
end
section
namespace Vm
open Go Go.Proofs
set_option maxRecDepth 100000
def XK(l:List Ob):List (Int×Int):=(l.filter fun o=>o.gone).map fun o=>(o.size,o.ptrs)
theorem Lo{ws:List Int}{shs:List (Int×Int)}{old:Bool}: ∀(l:List Ob) (f a tk:Nat) (acc:List Ob),Tiles ws old a l→ws.length<f+a→0<f→shs.drop tk=XK l→YM ws shs old f a tk acc=(acc++l,0)
 | [],f,a,tk,acc,ht,hf,h0,hs=>by
   obtain⟨f,rfl⟩: ∃f',f=f'+1:=⟨f-1,by omega⟩
   have:ws.length≤a:=ht
   have h2:shs.length≤tk:=List.drop_eq_nil_iff.1 hs
   rw[YM,List.getElem?_eq_none this]
   simp only
   rw[if_neg (by omega),List.append_nil]
 |o::l,f,a,tk,acc,ht,hf,h0,hs=>by
  obtain⟨f,rfl⟩: ∃f',f=f'+1:=⟨f-1,by omega⟩
  obtain⟨h1,h2,h3⟩:=ht
  obtain⟨w,hw,hc⟩:=h2.word
  have hsh:=Z4.1 h2.shape
  have hfit:=h2.fits
  have hsl:=h2.slots
  rw[h1]at hw hfit hsl
  simp only[Int.toNat_natCast]at hw hsl
  have hrec: ∀tk':Nat,shs.drop tk'=XK l→YM ws shs old f (a+1+o.size.toNat) tk' (acc++ [o])=(acc++o::l,0):=fun tk' hs'=>by
   rw[Lo l f _ tk' _ h3 (by omega) (by omega) hs']
   simp
  have hobj: ∃tk',objR shs old a tk w=some (o,tk')∧shs.drop tk'=XK l:=by
   unfold objR
   cases hg:o.gone
   ·rw[hg]at hc
    simp only[Bool.false_eq_true,if_false]at hc
    rw[if_neg (fun h=>hc.1 h.1 h.2),hc.2.1]
    refine⟨tk,?_,?_⟩
    ·simp only[if_true]
     obtain⟨oa,os,op,og,ot⟩:=o
     simp only at hg h1 hc⊢
     rw[hg,h1,hc.2.2]
    ·rw[hs]
     simp[XK,hg]
   ·rw[hg]at hc
    simp only[if_true]at hc
    rw[if_pos ⟨hc.1,hc.2.1⟩]
    have hd:shs.drop tk=(o.size,o.ptrs)::XK l:=by rw[hs];simp[XK,hg]
    have hlt:tk<shs.length:=by
     have:=congrArg List.length hd
     simp at this
     omega
    rw[List.drop_eq_getElem_cons hlt]at hd
    have e1:=(List.cons.inj hd).1
    have e2:=(List.cons.inj hd).2
    rw[List.getElem?_eq_getElem hlt,e1]
    simp only[h2.shape,if_true]
    refine⟨tk+1,?_,e2⟩
    obtain⟨oa,os,op,og,ot⟩:=o
    simp only at hg h1 hc⊢
    rw[hg,h1,hc.2.2]
  obtain⟨tk',ho,hs'⟩:=hobj
  rw[YM,hw]
  simp only
  rw[ho]
  simp only
  rw[if_neg (by omega),if_neg (by rw[hsl];simp)]
  exact hrec tk' hs'
theorem VO{ws:List Int}{shs:List (Int×Int)}{old:Bool}{l:List Ob}(ht:Tiles ws old 0 l)(hs:shs=XK l):Zo ws shs old=(l,0):=by
 unfold Zo
 rw[Lo l (ws.length+1) 0 0 [] ht (by omega) (by omega) (by simpa using hs),List.nil_append]
def SK(h:Hp)(low l:List Ob):Prop:= ∀o∈l,o.gone=true→ ∃q,atR h 1 low o.target=some q∧q.size=o.size∧q.ptrs=o.ptrs
theorem WZ{h:Hp}{ws:List Int}{low:List Ob}: ∀(l:List Ob) (f i:Nat) (acc:List (Int×Int)),Tiles ws true i l→ws.length<f+i→0<f→SK h low l→Yh h ws low f i acc=some (acc++XK l)
 | [],f,i,acc,ht,hf,h0,hg=>by
   obtain⟨f,rfl⟩: ∃f',f=f'+1:=⟨f-1,by omega⟩
   have:ws.length≤i:=ht
   rw[Yh,List.getElem?_eq_none this]
   simp[XK]
 |o::l,f,i,acc,ht,hf,h0,hg=>by
  obtain⟨f,rfl⟩: ∃f',f=f'+1:=⟨f-1,by omega⟩
  obtain⟨h1,h2,h3⟩:=ht
  obtain⟨w,hw,hc⟩:=h2.word
  have hsh:=Z4.1 h2.shape
  have hfit:=h2.fits
  rw[h1]at hw hfit
  simp only[Int.toNat_natCast]at hw
  have hg':SK h low l:=fun q hq=>hg q (List.mem_cons_of_mem _ hq)
  rw[Yh,hw]
  simp only
  cases hgo:o.gone
  ·rw[hgo]at hc
   simp only[Bool.false_eq_true,if_false,true_implies]at hc
   rw[if_neg hc.1,hc.2.1]
   simp only[if_true]
   rw[WZ l f _ acc h3 (by omega) (by omega) hg']
   simp[XK,hgo]
  ·rw[hgo]at hc
   simp only[if_true,true_and]at hc
   rw[if_pos hc.1]
   obtain⟨q,hq,e1,e2⟩:=hg o (.head _) hgo
   rw[←hc.2,hq]
   simp only
   rw[e1,e2,WZ l f _ _ h3 (by omega) (by omega) hg']
   simp[XK,hgo]
theorem L1{h:Hp}{p:Pts}(h1:Tiles h.low false 0 p.low)(h2:Tiles h.high false 0 p.high)(h3:Tiles h.old true 0 p.old)(h4:Tiles h.far true 0 p.far)(g3:SK h p.low p.old)(g4:SK h p.low p.far):ZY h=some p:=by
 have ng: ∀ {ws:List Int} {a:Nat} {l:List Ob},Tiles ws false a l→XK l= []:=fun {ws a l} ht=>by
  unfold XK
  rw[List.map_eq_nil_iff,List.filter_eq_nil_iff]
  intro o ho hg
  obtain⟨w,_,hc⟩:=(ht.stands o ho).1.word
  rw[if_pos hg]at hc
  cases hc.1
 unfold ZY
 rw[VO h1 (ng h1).symm,VO h2 (ng h2).symm]
 unfold Ys
 simp only[ne_eq,not_true_eq_false,or_self,if_false]
 rw[WZ p.old _ 0 [] h3 (by omega) (by omega) g3,WZ p.far _ 0 [] h4 (by omega) (by omega) g4]
 simp only[List.nil_append,Option.getD_some]
 rw[VO h3 rfl,VO h4 rfl]
 simp
theorem La{h:Hp}{p:Pts}(hn:numR h=true)(hp:ZY h=some p)(hr:U0 h p=true):Y7 h=true:=by
 unfold Y7
 rw[hn,hp]
 simpa using hr
theorem Z0F{h:Hp}{k:Int}{l:List Ob}{o:Ob}(ho:o∈l)(hd: ∀q∈l,ZE h k q.at_=ZE h k o.at_→q=o):atR h k l (ZE h k o.at_)=some o:=by
 unfold atR
 induction l with
 |nil=>simp at ho
 |cons x l ih=>
  rw[List.find?_cons]
  by_cases hx:ZE h k x.at_=ZE h k o.at_
  ·rw[hd x (.head _) hx]
   simp
  ·have:(ZE h k x.at_==ZE h k o.at_)=false:=by simpa using hx
   rw[this]
   rcases List.mem_cons.1 ho with rfl|ho
   ·exact absurd rfl hx
   ·exact ih ho fun q hq=>hd q (List.mem_cons_of_mem _ hq)
theorem Uh{h:Hp}{k:Int}{l:List Ob}{a:Int}:(atR h k l a).isSome=true↔ ∃o∈l,ZE h k o.at_=a:=by
 unfold atR
 rw[List.find?_isSome]
 simp
end Vm
end
section
namespace Vm
open Go Go.Proofs
set_option maxRecDepth 100000
structure Tld (h:Hp) (p:Pts):Prop where
 lay:Za (layH h)=true
 tiles: ∀k:Int,1≤k∧k≤4→Tiles (Z8 h k) (decide (2<k)) 0 (p.at k)
def Gos(h:Hp)(p:Pts)(w one two:Int):Prop:=w=0∨ ∃k o,(k=one∨k=two)∧o∈p.at k∧w=refR (layH h) k o.at_
def Wt(h:Hp)(p:Pts)(k:Int)(i:Nat)(w:Int):Prop:=if 2<k then Gos h p w 3 4 else if k=1∧h.scan≤i then Gos h p w 1 2∨Gos h p w 3 4 else Gos h p w 1 2
section
variable {h:Hp} {p:Pts}
theorem Tld.ob(t:Tld h p){k:Int}(hk:1≤k∧k≤4){o:Ob}(ho:o∈p.at k): ∃a n m:Nat,o.at_=a∧o.size=n∧o.ptrs=m∧a+(n+1)≤(Z8 h k).length∧n≤255∧m≤n:=by
 have hs:=((t.tiles k hk).stands o ho).1
 have h1:=Z4.1 hs.shape
 obtain⟨a,ha⟩:=Int.eq_ofNat_of_zero_le hs.nat
 obtain⟨n,hn⟩:=Int.eq_ofNat_of_zero_le h1.1
 obtain⟨m,hm⟩:=Int.eq_ofNat_of_zero_le h1.2.2.1
 have:=hs.fits
 exact⟨a,n,m,ha,hn,hm,by omega,by omega,by omega⟩
theorem Tld.start(t:Tld h p){k:Int}(hk:1≤k∧k≤4){o:Ob}(ho:o∈p.at k):ZE h k o.at_=fstL (layH h) k+o.at_:=by
 obtain⟨a,n,m,ha,_,_,hl,_⟩:=t.ob hk ho
 unfold ZE
 rw[UB t.lay hk (by rw[X0 hk];omega)]
theorem Tld.same_at(t:Tld h p){k:Int}(hk:1≤k∧k≤4){o q:Ob}(ho:o∈p.at k)(hq:q∈p.at k)(e:q.at_=o.at_):q=o:=by
 rcases(t.tiles k hk).apart q hq o ho with h1|h1|h1
 ·exact h1
 ·have:=Z4.1 ((t.tiles k hk).stands q hq).1.shape;omega
 ·have:=Z4.1 ((t.tiles k hk).stands o ho).1.shape;omega
theorem Tld.find(t:Tld h p){k:Int}(hk:1≤k∧k≤4){o:Ob}(ho:o∈p.at k):atR h k (p.at k) (fstL (layH h) k+o.at_)=some o:=by
 rw[←t.start hk ho]
 refine Z0F ho fun q hq e=>t.same_at hk ho hq ?_
 rw[t.start hk ho,t.start hk hq]at e
 omega
theorem Tld.adr(t:Tld h p){k:Int}(hk:1≤k∧k≤4){o:Ob}(ho:o∈p.at k):adr (refR (layH h) k o.at_)=(fstL (layH h) k+o.at_,0):=by
 obtain⟨a,n,m,ha,_⟩:=t.ob hk ho
 exact XO t.lay (by omega)
theorem Tld.at_iff(t:Tld h p){k:Int}(hk:1≤k∧k≤4){w:Int}(h0:(Vm.adr w).2=0):(atR h k (p.at k) (Vm.adr w).1).isSome=true↔ ∃o∈p.at k,w=refR (layH h) k o.at_:=by
 rw[Uh]
 constructor
 ·rintro⟨o,ho,e⟩
  rw[t.start hk ho]at e
  exact⟨o,ho,j6 h0 e.symm⟩
 ·rintro⟨o,ho,rfl⟩
  exact⟨o,ho,by rw[t.adr hk ho,t.start hk ho]⟩
theorem Tld.goes_iff(t:Tld h p){i j:Int}(hi:1≤i∧i≤4)(hj:1≤j∧j≤4){w:Int}:YN h p w i j=true↔Gos h p w i j:=by
 unfold YN Gos
 by_cases h0:w=0
 ·simp[h0]
 by_cases h1:(Vm.adr w).2=0
 ·simp only[h0,h1,decide_true,decide_false,Bool.false_or,Bool.true_and,Bool.or_eq_true,false_or,t.at_iff hi h1,t.at_iff hj h1]
  constructor
  ·rintro(⟨o,ho,e⟩ | ⟨o,ho,e⟩)
   ·exact⟨i,o,.inl rfl,ho,e⟩
   ·exact⟨j,o,.inr rfl,ho,e⟩
  ·rintro⟨k,o,rfl|rfl,ho,e⟩
   ·exact .inl ⟨o,ho,e⟩
   ·exact .inr ⟨o,ho,e⟩
 ·simp only[h0,h1,decide_false,Bool.false_and,Bool.or_self,Bool.false_eq_true,false_or,false_iff]
  rintro⟨k,o,hk,ho,rfl⟩
  have hk4:1≤k∧k≤4:=by rcases hk with rfl|rfl<;>assumption
  exact h1 (by rw[t.adr hk4 ho])
theorem UK: ∀ {l:List Int} {ptrs:Int} {i:Nat},ZM l true ptrs i=true→ ∀w∈l,w=0
 | [],_,_,_,w,hw=>by simp at hw
 |y::l,ptrs,i,hs,w,hw=>by
  simp only[ZM,Bool.and_eq_true]at hs
  rcases List.mem_cons.1 hw with rfl|hw
  ·have h1:=hs.1
   simp at h1
   exact h1.1
  ·exact UK hs.2 w hw
theorem Tld.slot(t:Tld h p){k:Int}(hk:1≤k∧k≤4){o:Ob}(ho:o∈p.at k){j:Nat}(hj:(j:Int) <o.size): ∃w,(Z8 h k)[o.at_.toNat+1+j]? =some w∧(o.gone=true→w=0):=by
 obtain⟨a,n,m,ha,hn,hm,hl,_⟩:=t.ob hk ho
 have hlt:a+1+j< (Z8 h k).length:=by omega
 refine⟨(Z8 h k)[a+1+j],by rw[ha,Int.toNat_natCast];exact List.getElem?_eq_getElem hlt,fun hg=> ?_⟩
 have hs:=((t.tiles k hk).stands o ho).1.slots
 rw[hg]at hs
 refine UK hs _ ?_
 rw[ha,hn,Int.toNat_natCast,Int.toNat_natCast]
 refine List.mem_of_getElem? (i:=j) ?_
 rw[List.getElem?_take_of_lt (by omega),List.getElem?_drop]
 exact List.getElem?_eq_getElem hlt
end
structure Body (h:Hp) (p:Pts):Prop extends Tld h p where
 gone: ∀k:Int,3≤k∧k≤4→ ∀o∈p.at k,o.gone=true→ ∃q∈p.low,o.target=fstL (layH h) 1+q.at_∧q.size=o.size∧q.ptrs=o.ptrs
 ptr: ∀k:Int,1≤k∧k≤4→ ∀o∈p.at k,o.gone=false→ ∀j:Nat,(j:Int) <o.ptrs→ ∀w,(Z8 h k)[o.at_.toNat+1+j]? =some w→Wt h p k (o.at_.toNat+1+j) w
 room:(h.low.length:Int)+h.high.length+YY p≤h.cap
structure Rt (h:Hp) (p:Pts):Prop extends Body h p where
 nroots:h.roots.length≤16
 scan0:0≤h.scan
 scanL:h.scan≤h.low.length
 cyc:h.cycle=true→h.scan<h.low.length
 rest:h.cycle=false→h.scan=h.low.length∧h.old= []∧h.far= []
 once:h.cycle=true→ ∀o∈p.low,TY p (fstL (layH h) 1+o.at_)=1
 roots: ∀w∈h.roots,Gos h p w 1 2
section
variable {h:Hp} {p:Pts}
theorem QQ(t:Tld h p){k:Int}{i:Nat}{w:Int}(hw:(Z8 h k)[i]? =some w):Un h p k i=true↔Wt h p k i w:=by
 unfold Un Wt
 simp only[hw,Option.getD_some]
 split
 ·exact t.goes_iff (by omega) (by omega)
 split
 ·rw[Bool.or_eq_true,t.goes_iff (by omega) (by omega),t.goes_iff (by omega) (by omega)]
 ·exact t.goes_iff (by omega) (by omega)
theorem zM(k:Int)(i:Nat):Wt h p k i 0:=by
 unfold Wt
 split
 ·exact .inl rfl
 split
 ·exact .inl (.inl rfl)
 ·exact .inl rfl
theorem KU(t:Tld h p){k:Int}(hk:1≤k∧k≤4):XY h p k=true↔ ∀o∈p.at k,o.gone=false→ ∀j:Nat,(j:Int) <o.ptrs→ ∀w,(Z8 h k)[o.at_.toNat+1+j]? =some w→Wt h p k (o.at_.toNat+1+j) w:=by
 unfold XY Lm
 simp only[List.all_eq_true,List.mem_range]
 constructor
 ·intro hp o ho _ j hj w hw
  exact(QQ t hw).1 (hp o ho j (by omega))
 ·intro hp o ho j hj
  obtain⟨a,n,m,ha,hn,hm,hl,_⟩:=t.ob hk ho
  obtain⟨w,hw,hz⟩:=t.slot hk ho (j:=j) (by omega)
  refine(QQ t hw).2 ?_
  cases hg:o.gone
  ·exact hp o ho hg j (by omega) w hw
  ·rw[hz hg];exact zM _ _
theorem RightH.tld(r:RightH h p):Tld h p:=⟨r.lay,fun k hk=>r.tiles hk⟩
theorem RightH.rt(r:RightH h p):Rt h p:=by
 have t:=r.tld
 have hn:=r.num
 have ho:=r.ok
 unfold numR at hn
 unfold U0 at ho
 simp only[Bool.and_eq_true,decide_eq_true_eq]at hn ho
 obtain⟨⟨⟨⟨n1,n2⟩,n3⟩,n4⟩,n5⟩:=hn
 obtain⟨⟨⟨⟨⟨⟨o1,o2⟩,o3⟩,o4⟩,o5⟩,o6⟩,o7⟩:=ho
 have hptr: ∀k:Int,1≤k∧k≤4→XY h p k=true:=fun k hk=>by
  have:k=1∨k=2∨k=3∨k=4:=by omega
  rcases this with rfl|rfl|rfl|rfl<;>assumption
 refine⟨⟨t,fun k hk o ho hg=> ?_,fun k hk=>(KU t hk).1 (hptr k hk),o7⟩,n2,n3,n4,fun hc=> ?_,fun hc=> ?_,fun hc o ho=> ?_,fun w hw=> ?_⟩
 ·obtain⟨q,hq,e,e1,e2⟩:=r.gone_low hk ho hg
  exact⟨q,hq,by rw[←e,t.start (k:=1) (by omega) hq],e1,e2⟩
 ·rw[hc]at n5;simpa using n5
 ·rw[hc]at n5
  simp at n5
  exact⟨n5.1.1,n5.1.2,n5.2⟩
 ·rw[hc]at o1
  simp only[Bool.not_true,Bool.false_or,List.all_eq_true]at o1
  have:=o1 o ho
  unfold tgOk at this
  rw[t.start (k:=1) (by omega) ho]at this
  simpa using this
 ·exact(t.goes_iff (by omega) (by omega)).1 (List.all_eq_true.1 o2 w hw)
theorem Rt.parts(r:Rt h p):ZY h=some p:=by
 have g: ∀k:Int,3≤k∧k≤4→SK h p.low (p.at k):=fun k hk o ho hg=>by
  obtain⟨q,hq,e,e1,e2⟩:=r.gone k hk o ho hg
  exact⟨q,by rw[e];exact r.toTld.find (k:=1) (by omega) hq,e1,e2⟩
 exact L1 (r.tiles 1 (by omega)) (r.tiles 2 (by omega)) (r.tiles 3 (by omega)) (r.tiles 4 (by omega)) (g 3 (by omega)) (g 4 (by omega))
theorem Rt.right(r:Rt h p):Y7 h=true:=by
 have t:=r.toTld
 refine La ?_ r.parts ?_
 ·unfold numR
  simp only[Bool.and_eq_true,decide_eq_true_eq]
  refine⟨⟨⟨⟨r.lay,r.nroots⟩,r.scan0⟩,r.scanL⟩,?_⟩
  cases hc:h.cycle
  ·obtain⟨e1,e2,e3⟩:=r.rest hc
   simp[e1,e2,e3]
  ·simp[r.cyc hc]
 ·unfold U0
  simp only[Bool.and_eq_true,decide_eq_true_eq]
  have hp:=fun k hk=>(KU t hk).2 (r.ptr k hk)
  refine⟨⟨⟨⟨⟨⟨?_,?_⟩,hp 1 (by omega)⟩,hp 2 (by omega)⟩,hp 3 (by omega)⟩,hp 4 (by omega)⟩,r.room⟩
  ·cases hc:h.cycle
   ·rfl
   ·simp only[Bool.not_true,Bool.false_or,List.all_eq_true]
    intro o ho
    unfold tgOk
    rw[t.start (k:=1) (by omega) ho,decide_eq_true_eq]
    exact r.once hc o ho
  ·rw[List.all_eq_true]
   exact fun w hw=>(t.goes_iff (by omega) (by omega)).2 (r.roots w hw)
theorem TG:Y7 h=true↔ ∃p,Rt h p:=
 ⟨fun hr=>by obtain⟨p,r⟩:=qi hr;exact⟨p,r.rt⟩,fun⟨p,r⟩=>r.right⟩
theorem Rt.objs(r:Rt h p){k:Int}(hk:1≤k∧k≤4):Qa h k=(p.at k,0):=by
 unfold Qa
 rw[if_pos ⟨r.right,hk⟩,r.parts]
 rfl
theorem Rt.wait(r:Rt h p):qG h=YY p:=by
 unfold qG
 rw[if_pos r.right,r.parts]
 rfl
end
end Vm
end
section
namespace Vm
open Go Go.Proofs
set_option maxRecDepth 100000
def szL(l:List Ob):Nat:=(l.map fun o=>1+o.size.toNat).sum
theorem Tiles.sum{ws:List Int}{old:Bool}: ∀ {a:Nat} {l:List Ob},Tiles ws old a l→a≤ws.length→a+szL l=ws.length
 |a,[],h,ha=>by have:ws.length≤a:=h;simp[szL];omega
 |a,o::l,h,ha=>by
  have hs:=Z4.1 h.2.1.shape
  have hf:=h.2.1.fits
  rw[h.1]at hf
  have:=Tiles.sum h.2.2 (by omega)
  simp[szL]at this⊢
  omega
theorem Tiles.last{ws:List Int}{old:Bool}{l:List Ob}(h:Tiles ws old ws.length l):l= []:=by
 cases l with
 |nil=>rfl
 |cons o l=>
  have hs:=Z4.1 h.2.1.shape
  have hf:=h.2.1.fits
  rw[h.1]at hf
  omega
theorem Tiles.det{ws ws':List Int}{old:Bool}: ∀ {a:Nat} {l l':List Ob},Tiles ws old a l→Tiles ws' old a l'→(∀i,i<ws.length→ws'[i]? =ws[i]?)→ws.length≤ws'.length→
  (∀o∈l,∀q∈l',o.gone=true→q.gone=true→o.target=q.target→o.size=q.size∧o.ptrs=q.ptrs)→a≤ws.length→ ∃r,l'=l++r∧Tiles ws' old ws.length r
 |a,[],l',h,h',_,_,_,ha=>by
  have:ws.length≤a:=h
  have:a=ws.length:=by omega
  subst this
  exact⟨l',rfl,h'⟩
 |a,o::l,[],h,h',_,hl,_,ha=>by
  have hs:=Z4.1 h.2.1.shape
  have hf:=h.2.1.fits
  have e:=h.1
  have:ws'.length≤a:=h'
  omega
 |a,o::l,q::l',h,h',hw,hl,hg,ha=>by
  obtain⟨h1,h2,h3⟩:=h
  obtain⟨k1,k2,k3⟩:=h'
  have hs:=Z4.1 h2.shape
  have hf:=h2.fits
  obtain⟨w,hw1,hc⟩:=h2.word
  obtain⟨u,hu1,hd⟩:=k2.word
  rw[h1]at hw1 hf
  rw[k1]at hu1
  simp only[Int.toNat_natCast]at hw1 hu1
  rw[hw a (by omega),hw1]at hu1
  cases hu1
  have e:o=q:=by
   obtain⟨oa,os,op,og,ot⟩:=o
   obtain⟨qa,qs,qp,qg,qt⟩:=q
   simp only at*
   subst h1 k1
   cases og<;>cases qg<;>simp at hc hd
   ·rw[hc.2.1]at hd
    simp at hd
    simp[hc.2.2,hd]
   ·exact absurd hd.2.1 (hc.1 hd.1)
   ·exact absurd hc.2.1 (hd.1 hc.1)
   ·have:=hg _ (.head _) _ (.head _) rfl rfl (by rw[hc.2.2,hd.2.2])
    simp at this
    simp[hc.2.2,hd.2.2,this]
  subst e
  obtain⟨r,e1,e2⟩:=Tiles.det h3 k3 hw hl (fun x hx y hy=>hg x (.tail _ hx) y (.tail _ hy)) (by omega)
  exact⟨r,by rw[e1];rfl,e2⟩
theorem Tiles.uniq{ws:List Int}{old:Bool}{l l':List Ob}(h:Tiles ws old 0 l)(h':Tiles ws old 0 l')(hg: ∀o∈l,∀q∈l',o.gone=true→q.gone=true→o.target=q.target→o.size=q.size∧o.ptrs=q.ptrs):l'=l:=by
 obtain⟨r,e1,e2⟩:=h.det h' (fun _ _=>rfl) (Nat.le_refl _) hg (Nat.zero_le _)
 rw[e1,e2.last,List.append_nil]
theorem Tiles.no_gone{ws:List Int}{a:Nat}{l:List Ob}(h:Tiles ws false a l): ∀o∈l,o.gone=false:=fun o ho=>by
 obtain⟨w,_,hc⟩:=(h.stands o ho).1.word
 cases hg:o.gone
 ·rfl
 ·rw[if_pos hg]at hc;cases hc.1
theorem Tiles.uniq0{ws:List Int}{l l':List Ob}(h:Tiles ws false 0 l)(h':Tiles ws false 0 l'):l'=l:=h.uniq h' fun o ho q hq hg=>by rw[h.no_gone o ho]at hg;cases hg
section
variable {h:Hp} {p:Pts}
theorem Tld.low_at(t:Tld h p){o:Ob}(ho:o∈p.low):0≤o.at_∧o.at_<h.low.length:=by
 obtain⟨a,n,m,ha,_,_,hl,_⟩:=t.ob (k:=1) (by omega) ho
 simp only[Xy]at hl
 omega
theorem Tiles.pairwise{ws:List Int}{old:Bool}: ∀ {a:Nat} {l:List Ob},Tiles ws old a l→l.Pairwise fun x y=>x.at_<y.at_
 |_,[],_=> .nil
 |a,o::l,h=>by
  have hs:=Z4.1 h.2.1.shape
  refine .cons (fun y hy=> ?_) (Tiles.pairwise h.2.2)
  have:=(Tiles.stands h.2.2 y hy).2
  rw[h.1]
  omega
theorem Gos.odd(t:Tld h p){w i j:Int}(hi:1≤i∧i≤4)(hj:1≤j∧j≤4)(hg:Gos h p w i j):w=0∨ ∃k,1≤k∧k≤4∧(k=i∨k=j)∧ ∃o∈p.at k,(adr w).2=0∧(adr w).1=fstL (layH h) k+o.at_∧o.at_<sizL (layH h) k∧0≤o.at_:=by
 rcases hg with rfl| ⟨k,o,hk,ho,rfl⟩
 ·exact .inl rfl
 ·have hk4:1≤k∧k≤4:=by rcases hk with rfl|rfl<;>assumption
  obtain⟨a,n,m,ha,_,_,hl,_⟩:=t.ob hk4 ho
  exact .inr ⟨k,hk4.1,hk4.2,hk,o,ho,by rw[t.adr hk4 ho],by rw[t.adr hk4 ho],by rw[X0 hk4];omega,by omega⟩
end
end Vm
end
section
namespace Vm
open Go Go.Proofs
set_option maxRecDepth 100000
section
variable {h:Hp} {p:Pts}
theorem Body.fwd_here(r:Body h p){k:Int}(hk:1≤k∧k≤2){o:Ob}(ho:o∈p.at k):Vm.fwd h (refR (layH h) k o.at_)=(refR (layH h) k o.at_,h,0):=by
 obtain⟨a,n,m,ea,_,_,hl,_⟩:=r.toTld.ob (by omega) ho
 exact Vm.fwd_here r.lay hk ⟨by omega,by omega⟩
theorem Body.fwd_gone(r:Body h p){k:Int}(hk:3≤k∧k≤4){o:Ob}(ho:o∈p.at k)(hg:o.gone=true):Vm.fwd h (refR (layH h) k o.at_)=(2*o.target+1,h,0):=by
 obtain⟨a,n,m,ea,_,_,hl,_⟩:=r.toTld.ob (by omega) ho
 obtain⟨u,hu,hc⟩:=((r.tiles k (by omega)).stands o ho).1.word
 rw[if_pos hg]at hc
 rw[ea,Int.toNat_natCast]at hu
 rw[ea,Vm.fwd_gone r.lay hk hu hc.2.1,j6 hc.2.1 hc.2.2.symm]
theorem Body.fwd_wait(r:Body h p){k:Int}(hk:3≤k∧k≤4){o:Ob}(ho:o∈p.at k)(hg:o.gone=false){a n:Nat}(ea:o.at_=a)(en:o.size=n):
  Vm.fwd h (refR (layH h) k o.at_)=(refR (layH h) 1 h.low.length,movH h k a (n+1),0)∧((n+1:Nat):Int)≤Yo (layH h):=by
 obtain⟨a',n',m,ea',en',_,hl,_⟩:=r.toTld.ob (by omega) ho
 have:a'=a:=by omega
 subst this
 have:n'=n:=by omega
 subst this
 obtain⟨u,hu,hc⟩:=((r.tiles k (by omega)).stands o ho).1.word
 rw[if_neg (by simp[hg])]at hc
 rw[ea,Int.toNat_natCast]at hu
 have hrm:=r.room
 have hw:=qH hk ho
 unfold wtO at hw
 rw[hg,en]at hw
 simp at hw
 have e:Yo (layH h)=h.cap-h.low.length-h.high.length:=by unfold Yo;rw[if_pos r.lay];rfl
 have hm:((n'+1:Nat):Int)≤Yo (layH h):=by omega
 rw[ea]
 exact⟨Vm.fwd_wait r.lay hk hu (hc.1 (decide_eq_true (by omega))) (by rw[hc.2.1,en]) hl hm,hm⟩
end
theorem SX(h:Hp){k:Int}(hk:3≤k∧k≤4)(a n:Nat):(movH h k a n).low=h.low++((Z8 h k).take (a+n)).drop a∧(movH h k a n).high=h.high∧Z8 (movH h k a n) k=(zr (Z8 h k) a n).set a (refR (layH h) 1 h.low.length)∧Z8 (movH h k a n) (7-k)=Z8 h (7-k)∧
  (movH h k a n).roots=h.roots∧(movH h k a n).scan=h.scan∧(movH h k a n).cycle=h.cycle∧(movH h k a n).cap=h.cap∧(movH h k a n).base=h.base∧(movH h k a n).to=h.to:=by
 have:k=3∨k=4:=by omega
 rcases this with rfl|rfl<;>exact⟨rfl,rfl,rfl,rfl,rfl,rfl,rfl,rfl,rfl,rfl⟩
end Vm
end
section
namespace Vm
open Go Go.Proofs
set_option maxRecDepth 100000
set_option maxHeartbeats 1000000
theorem Us{h:Hp}{k j:Int}(hk:1≤k∧k≤4)(hj:1≤j∧j≤4)(l:List Int):Z8 (Yf h k l) j=if j=k then l else Z8 h j:=by
 have h1:k=1∨k=2∨k=3∨k=4:=by omega
 have h2:j=1∨j=2∨j=3∨j=4:=by omega
 rcases h1 with rfl|rfl|rfl|rfl<;>rcases h2 with rfl|rfl|rfl|rfl<;>rfl
def ndAt(b:Bt)(i:Nat):Nd:=(b.g.nodes[i]?).getD default
def Z9(b:Bt)(i:Nat):Pl:=(b.here[i]?).getD ⟨0,0⟩
def ZA(b:Bt)(i:Nat):Pl:=(b.old[i]?).getD ⟨0,0⟩
def hdrN(n:Nd):Int:=(US ((n.ptrs.length:Int)+n.data.length) n.ptrs.length).1
def Xe(b:Bt)(p:Pl)(n:Nd)(tw:Int):List Int:=hdrN n::(Y5 b p p.at_.toNat n.ptrs tw++n.data)
def VP(b:Bt)(p:Pl)(n:Nd):List Int:=refB b.h p::List.replicate (sizN n-1) 0
def blk(b:Bt)(x:Rw)(k:Int)(i:Nat):List Int:=
 if(Z9 b i).part=k then Xe b (Z9 b i) (ndAt b i) (IntKind.i64.wrap (x.slack+i))
 else if(ZA b i).part=k then(if(Z9 b i).part=0 then Xe b (ZA b i) (ndAt b i) 0 else VP b (Z9 b i) (ndAt b i))
 else []
def cat(b:Bt)(x:Rw)(k:Int)(i:Nat):List Int:=(List.range i).flatMap (blk b x k)
theorem Yn(b:Bt)(x:Rw)(k:Int)(i:Nat):cat b x k (i+1)=cat b x k i++blk b x k i:=by
 unfold cat
 rw[List.range_succ,List.flatMap_append]
 simp
theorem ZX(b:Bt)(p:Pl)(n:Nd)(tw:Int):(Xe b p n tw).length=sizN n:=by
 simp[Xe,Y5,sizN]
 omega
theorem Xn(b:Bt)(p:Pl)(n:Nd):(VP b p n).length=sizN n:=by
 simp[VP,sizN]
 omega
structure Placed (b:Bt) (x:Rw):Prop where
 ok:BOk b
 here: ∀i,i<b.g.nodes.length→(Z9 b i=⟨0,0⟩∧ ∃k:Int,(k=3∨k=4)∧(ZA b i).part=k)∨(((Z9 b i).part=1∨(Z9 b i).part=2)∧(Z9 b i).at_=((cat b x (Z9 b i).part i).length:Nat))
 old: ∀i,i<b.g.nodes.length→ZA b i=⟨0,0⟩∨(((ZA b i).part=3∨(ZA b i).part=4)∧(ZA b i).at_=((cat b x (ZA b i).part i).length:Nat)∧(Z9 b i).part≠2)
 zero: ∀k:Int,1≤k∧k≤4→Z8 b.h k=List.replicate (cat b x k b.g.nodes.length).length 0
section
variable {b d:Bt} {x:Rw}
theorem TX(hl:Like b d)(p:Pl):refB d.h p=refB b.h p:=by
 unfold refB
 rw[hl.lay]
theorem LI(hl:Like b d)(p:Pl)(to tw:Int):Vf d p to tw=Vf b p to tw:=by
 unfold Vf
 rw[hl.here,hl.old,hl.scan,TX hl,TX hl]
theorem SL(hl:Like b d)(p:Pl)(n:Nd)(tw:Int):Xe d p n tw=Xe b p n tw:=by
 unfold Xe Y5
 simp only[LI hl]
theorem JL{p:Pl}{a m:Nat}{n:Nd}{tw:Int}{F:List Int}(hp:Z8 d.h p.part=F++List.replicate m 0)(ha:F.length=a)(hat:p.at_.toNat=a)(hm:sizN n≤m):layL d p a n tw=F++Xe d p n tw++List.replicate (m-sizN n) 0:=by
 unfold layL
 simp only
 rw[hp]
 have e1:(F++List.replicate m (0:Int)).take a=F:=by rw[←ha];simp
 have e2:(F++List.replicate m (0:Int)).drop (a+sizN n)=List.replicate (m-sizN n) 0:=by
  rw[←ha,List.drop_append,List.drop_of_length_le (by omega)]
  simp
 rw[e1,e2]
 simp[Xe,hdrN,hat]
theorem Z1h{F:List Int}{a m s:Nat}{w:Int}(ha:F.length=a)(hs:1≤s)(hm:s≤m):(F++List.replicate m (0:Int)).set a w=F++(w::List.replicate (s-1) 0)++List.replicate (m-s) 0:=by
 rw[←ha,List.set_append_right _ _ (Nat.le_refl _),Nat.sub_self]
 obtain⟨m,rfl⟩: ∃m',m=m'+1:=⟨m-1,by omega⟩
 rw[List.replicate_succ,List.set_cons_zero,List.append_assoc]
 congr 1
 simp
 omega
theorem VV(b:Bt)(x:Rw)(k:Int){i j:Nat}(h:i≤j): ∃r,cat b x k j=cat b x k i++r:=by
 induction j with
 |zero=>exact⟨[],by have:i=0:=by omega
                    subst this;simp⟩
 |succ j ih=>
  by_cases hij:i=j+1
  ·subst hij;exact⟨[],by simp⟩
  ·obtain⟨r,hr⟩:=ih (by omega)
   exact⟨r++blk b x k j,by rw[Yn,hr,List.append_assoc]⟩
def Upto(b:Bt)(x:Rw)(i:Nat)(d:Bt):Prop:= ∀k:Int,1≤k∧k≤4→Z8 d.h k=cat b x k i++List.replicate ((cat b x k b.g.nodes.length).length- (cat b x k i).length) 0
theorem yw(b:Bt)(x:Rw)(k:Int){i:Nat}(hi:i<b.g.nodes.length):(cat b x k i).length+(blk b x k i).length≤(cat b x k b.g.nodes.length).length:=by
 obtain⟨r,hr⟩:=VV b x k (show i+1≤b.g.nodes.length by omega)
 rw[hr,Yn]
 simp
theorem yM(hpl:Placed b x){i:Nat}(hi:i<b.g.nodes.length)(hl:Like b d)(hu:Upto b x i d):Upto b x (i+1) (zk x d i):=by
 have en:(d.g.nodes[i]?).getD default=ndAt b i:=by rw[hl.g];rfl
 have ep:(d.here[i]?).getD ⟨0,0⟩=Z9 b i:=by rw[hl.here];rfl
 have eo:(d.old[i]?).getD ⟨0,0⟩=ZA b i:=by rw[hl.old];rfl
 unfold zk
 simp only[en,ep,eo]
 have hh:=hpl.here i hi
 have ho:=hpl.old i hi
 have hblk:=fun k=>yw b x k hi
 have hbk: ∀k,blk b x k i=if(Z9 b i).part=k then Xe b (Z9 b i) (ndAt b i) (IntKind.i64.wrap (x.slack+i))else if(ZA b i).part=k then(if(Z9 b i).part=0 then Xe b (ZA b i) (ndAt b i) 0 else VP b (Z9 b i) (ndAt b i))else []:=fun k=>rfl
 have l1:=ZX b (Z9 b i) (ndAt b i) (IntKind.i64.wrap (x.slack+i))
 have l2:=ZX b (ZA b i) (ndAt b i) 0
 have l3:=Xn b (Z9 b i) (ndAt b i)
 have e1:=SL hl (Z9 b i) (ndAt b i) (IntKind.i64.wrap (x.slack+i))
 have e2:=SL hl (ZA b i) (ndAt b i) 0
 generalize Z9 b i=p at*
 generalize ZA b i=o at*
 generalize ndAt b i=n at*
 have hs1:1≤sizN n:=by unfold sizN;omega
 rcases hh with ⟨rfl,ko,hko,hko2⟩ | ⟨hp,hat⟩
 ·
  have ho2:(o.part=3∨o.part=4)∧o.at_=((cat b x o.part i).length:Nat):=by
   rcases ho with rfl| ⟨h1,h2,_⟩
   ·simp at hko2;omega
   ·exact⟨h1,h2⟩
  have hA:UP x d i n ⟨0,0⟩=d:=by unfold UP;rw[if_neg (by simp)]
  have hO:UU d n ⟨0,0⟩ o=layB d o n 0:=by unfold UU;rw[if_pos ⟨by omega,rfl⟩]
  have hG: ∀q,Uz q ⟨0,0⟩ o=q:=fun q=>by unfold Uz;rw[if_neg (by simp)]
  rw[hA,hO,hG]
  intro k hk
  have hbO:blk b x o.part i=Xe b o n 0:=by rw[hbk,if_neg (by show ¬(0:Int)=o.part;omega),if_pos rfl,if_pos rfl]
  have hro:=hblk o.part
  rw[hbO,l2]at hro
  unfold layB
  simp only
  rw[Us (by omega) hk]
  by_cases hko:k=o.part
  ·rw[if_pos hko,hko,JL (hu o.part (by omega)) (by rw[ho2.2];simp) rfl (by omega),Yn,hbO,e2]
   congr 2
   simp[l2]
   omega
  ·rw[if_neg hko,Yn,hbk k,if_neg (by show ¬(0:Int)=k;omega),if_neg (fun h=>hko h.symm),List.append_nil]
   exact hu k hk
 ·have hp0: ¬p.part=0:=by omega
  have hA:UP x d i n p=layB d p n (IntKind.i64.wrap (x.slack+i)):=by unfold UP;rw[if_pos (by omega)]
  have hO: ∀q,UU q n p o=q:=fun q=>by unfold UU;rw[if_neg (by simp[hp0])]
  rw[hA,hO]
  have hbP:blk b x p.part i=Xe b p n (IntKind.i64.wrap (x.slack+i)):=by rw[hbk,if_pos rfl]
  have hrp:=hblk p.part
  rw[hbP,l1]at hrp
  have hlay: ∀k:Int,1≤k∧k≤4→Z8 (layB d p n (IntKind.i64.wrap (x.slack+i))).h k=if k=p.part then cat b x p.part (i+1)++List.replicate ((cat b x p.part b.g.nodes.length).length- (cat b x p.part (i+1)).length) 0 else Z8 d.h k:=by
   intro k hk
   unfold layB
   simp only
   rw[Us (by omega) hk]
   by_cases hkp:k=p.part
   ·rw[if_pos hkp,if_pos hkp,JL (hu p.part (by omega)) (by rw[hat];simp) rfl (by omega),Yn,hbP,e1]
    congr 2
    simp[l1]
    omega
   ·rw[if_neg hkp,if_neg hkp]
  have hlk:refB (layB d p n (IntKind.i64.wrap (x.slack+i))).h p=refB b.h p:=by
   unfold refB
   have:layH (layB d p n (IntKind.i64.wrap (x.slack+i))).h=layH b.h:=by
    rw[←hl.lay]
    unfold layB
    simp only
    refine TS ?_
    rw[JL (hu p.part (by omega)) (by rw[hat];simp) rfl (by omega),hu p.part (by omega),e1]
    simp[l1]
    omega
   rw[this]
  generalize layB d p n (IntKind.i64.wrap (x.slack+i))=q at*
  rcases ho with rfl| ⟨ho1,ho2,ho3⟩
  ·have hG:Uz q p ⟨0,0⟩=q:=by unfold Uz;rw[if_neg (by simp)]
   rw[hG]
   intro k hk
   rw[hlay k hk]
   by_cases hkp:k=p.part
   ·rw[if_pos hkp,hkp]
   ·rw[if_neg hkp,Yn,hbk k,if_neg (fun h=>hkp h.symm),if_neg (by show ¬(0:Int)=k;omega),List.append_nil]
    exact hu k hk
  ·have hG:Uz q p o= {q with h:=Yf q.h o.part ((Z8 q.h o.part).set o.at_.toNat (refB q.h p))}:=by unfold Uz;rw[if_pos ⟨by omega,by omega⟩]
   rw[hG]
   have hbO:blk b x o.part i=VP b p n:=by rw[hbk,if_neg (by omega),if_pos rfl,if_neg hp0]
   have hro:=hblk o.part
   rw[hbO,l3]at hro
   intro k hk
   simp only
   rw[Us (by omega) hk,hlay o.part (by omega),if_neg (show ¬o.part=p.part by omega),hu o.part (by omega),hlk]
   by_cases hko:k=o.part
   ·rw[if_pos hko,hko,Z1h (by rw[ho2];simp) hs1 (by omega),Yn,hbO]
    unfold VP
    congr 2
    simp
    omega
   ·rw[if_neg hko,hlay k hk]
    by_cases hkp:k=p.part
    ·rw[if_pos hkp,hkp]
    ·rw[if_neg hkp,Yn,hbk k,if_neg (fun h=>hkp h.symm),if_neg (fun h=>hko h.symm),List.append_nil]
     exact hu k hk
theorem Qm(hpl:Placed b x): ∀i,i≤b.g.nodes.length→Upto b x i (Uw x b i)
 |0,_=>by
  intro k hk
  rw[Uw,hpl.zero k hk]
  simp[cat]
 |i+1,hi=>by
  rw[Uw]
  exact yM hpl (by omega) (QB hpl.ok i (by omega)) (Qm hpl i (by omega))
theorem SA(hpl:Placed b x){k:Int}(hk:1≤k∧k≤4):Z8 (ZZ x b) k=cat b x k b.g.nodes.length:=by
 have h:=Qm hpl b.g.nodes.length (Nat.le_refl _) k hk
 rw[Nat.sub_self,List.replicate_zero,List.append_nil]at h
 rw[←h]
 rfl
end
end Vm
end
section
namespace Vm
open Go Go.Proofs
set_option maxRecDepth 100000
set_option maxHeartbeats 1000000
def Kh(x:Rw)(c:Bool)(g:Gr)(i:Nat):Pl:=if clsK x i c=0 then⟨2,(stN x c g i).n2⟩else if clsK x i c=1 then⟨1,(stN x c g i).n1⟩else⟨0,0⟩
def oldF(x:Rw)(c:Bool)(g:Gr)(i:Nat):Pl:=if(decide (0<clsK x i c)&&c)=true then(if clsF x i then⟨4,(stN x c g i).n4⟩else⟨3,(stN x c g i).n3⟩)else⟨0,0⟩
theorem Z1j{x:Rw}{c:Bool}{g:Gr}(hg: ∀n∈g.nodes,sizN n≤9): ∀j,j≤g.nodes.length→ ∀i,i<j→(stN x c g j).here[i]? =some (Kh x c g i)∧(stN x c g j).old[i]? =some (oldF x c g i)
 |0,_,i,hi=>by omega
 |j+1,hj,i,hi=>by
  obtain⟨_,_,l1,l2⟩:=WM (x:=x) (cycle:=c) hg j (by omega)
  rw[stN]
  simp only[ZP]
  by_cases hij:i<j
  ·have:=Z1j (x:=x) (c:=c) hg j (by omega) i hij
   rw[List.getElem?_append_left (by omega),List.getElem?_append_left (by omega)]
   exact this
  ·have:i=j:=by omega
   subst this
   rw[List.getElem?_append_right (by omega),List.getElem?_append_right (by omega),l1,l2,Nat.sub_self]
   exact⟨rfl,rfl⟩
def nk(s:St8)(k:Int):Nat:=if k=1 then s.n1 else if k=2 then s.n2 else if k=3 then s.n3 else s.n4
section
variable {x:Rw} {c:Bool}
theorem sz9(x:Rw): ∀n∈(mkG x.nodes x.roots).nodes,sizN n≤9:=fun n hn=>by
 obtain⟨_,_,hb3⟩:=Ui x.nodes x.roots
 have:=hb3 n hn
 unfold sizN
 omega
theorem XB(x:Rw)(c:Bool):(Zx x c).g=mkG x.nodes x.roots:=rfl
theorem Tk{i:Nat}(hi:i< (mkG x.nodes x.roots).nodes.length):Z9 (Zx x c) i=Kh x c (mkG x.nodes x.roots) i:=by
 unfold Z9
 show((stN x c (mkG x.nodes x.roots) (mkG x.nodes x.roots).nodes.length).here[i]?).getD _=_
 rw[(Z1j (sz9 x) _ (Nat.le_refl _) i hi).1]
 rfl
theorem KF{i:Nat}(hi:i< (mkG x.nodes x.roots).nodes.length):ZA (Zx x c) i=oldF x c (mkG x.nodes x.roots) i:=by
 unfold ZA
 show((stN x c (mkG x.nodes x.roots) (mkG x.nodes x.roots).nodes.length).old[i]?).getD _=_
 rw[(Z1j (sz9 x) _ (Nat.le_refl _) i hi).2]
 rfl
theorem RG: ∀i,i≤(mkG x.nodes x.roots).nodes.length→ ∀k:Int,1≤k∧k≤4→(cat (Zx x c) x k i).length=nk (stN x c (mkG x.nodes x.roots) i) k
 |0,_,k,hk=>by simp[cat,stN,nk]
 |i+1,hi,k,hk=>by
  have ih:=RG i (by omega) k hk
  rw[Yn,List.length_append,ih]
  have hn:ndAt (Zx x c) i=((mkG x.nodes x.roots).nodes[i]?).getD default:=rfl
  unfold blk
  rw[Tk (show i< (mkG x.nodes x.roots).nodes.length by omega),KF (show i< (mkG x.nodes x.roots).nodes.length by omega),hn,stN]
  generalize ((mkG x.nodes x.roots).nodes[i]?).getD default=n
  have hk4:k=1∨k=2∨k=3∨k=4:=by omega
  unfold Kh oldF
  generalize stN x c (mkG x.nodes x.roots) i=s
  rcases YB x i c with h0|h1| ⟨h2,rfl⟩
  ·rcases hk4 with rfl|rfl|rfl|rfl<;>simp[nk,ZP,h0,ZX]
  ·cases c<;>cases hf:clsF x i<;>rcases hk4 with rfl|rfl|rfl|rfl<;>simp[nk,ZP,h1,hf,ZX,Xn]
  ·cases hf:clsF x i<;>rcases hk4 with rfl|rfl|rfl|rfl<;>simp[nk,ZP,h2,hf,ZX,Xn]
theorem UE(hx:x.ok):Placed (Zx x c) x:=by
 refine⟨(VI hx c).1,fun i hi=> ?_,fun i hi=> ?_,fun k hk=> ?_⟩
 ·rw[XB]at hi
  rw[Tk hi,KF hi]
  have hl:=fun k hk=>RG (x:=x) (c:=c) i (by omega) k hk
  unfold Kh oldF
  rcases YB x i c with h0|h1| ⟨h2,rfl⟩
  ·right
   simp[h0,hl 2,nk]
  ·right
   simp[h1,hl 1,nk]
  ·left
   refine⟨by simp[h2],?_⟩
   cases hf:clsF x i
   ·exact⟨3,.inl rfl,by simp[h2]⟩
   ·exact⟨4,.inr rfl,by simp[h2]⟩
 ·rw[XB]at hi
  rw[Tk hi,KF hi]
  have hl:=fun k hk=>RG (x:=x) (c:=c) i (by omega) k hk
  unfold Kh oldF
  rcases YB x i c with h0|h1| ⟨h2,rfl⟩
  ·left
   simp[h0]
  ·cases c
   ·left;simp
   ·right
    cases hf:clsF x i
    ·simp[h1,hl 3,nk]
    ·simp[h1,hl 4,nk]
  ·right
   cases hf:clsF x i
   ·simp[h2,hl 3,nk]
   ·simp[h2,hl 4,nk]
 ·rw[XB,RG _ (Nat.le_refl _) k hk]
  have hk4:k=1∨k=2∨k=3∨k=4:=by omega
  rcases hk4 with rfl|rfl|rfl|rfl<;>rfl
end
end Vm
end
section
namespace Vm
open Go Go.Proofs
set_option maxRecDepth 100000
set_option maxHeartbeats 1000000
theorem Qe(h:Hp){k:Int}(hk:1≤k∧k≤4):sizL (layH h) k=(Z8 h k).length:=by
 have h1:k=1∨k=2∨k=3∨k=4:=by omega
 rcases h1 with rfl|rfl|rfl|rfl<;>rfl
theorem yg{s p:Int}(h:Zl s p=true):unpk (US s p).1=(s,p,0):=by
 have h2:=Z4.1 h
 unfold US
 rw[if_pos h]
 unfold unpk
 have e1:2*(s+65536*p) / 2%65536=s:=by omega
 have e2:2*(s+65536*p) / 131072=p:=by omega
 simp only[e1,e2,h]
 rw[if_pos ⟨by omega,trivial⟩]
theorem Jr(h:Hp)(p:Pl):Vv (refB h p)=true:=by
 unfold refB Vv
 split
 ·rfl
 unfold X4
 split
 ·rfl
 ·rename_i h1
  unfold adr
  simp only
  rw[if_neg (by omega),if_neg (by omega)]
  simp
theorem zO(b:Bt)(p:Pl)(to tw:Int):Vv (Vf b p to tw)=true:=by
 unfold Vf
 split
 ·rfl
 split
 ·exact Jr _ _
 split<;>exact Jr _ _
theorem YC{gone:Bool}{ptrs:Int}: ∀ {l:List Int} {i:Nat},(∀(j:Nat) (w:Int),l[j]? =some w→(gone=true→w=0)∧(((i+j:Nat):Int) <ptrs→Vv w=true))→ZM l gone ptrs i=true
 | [],_,_=>rfl
 |w::l,i,h=>by
  obtain⟨h1,h2⟩:=h 0 w rfl
  have ih:ZM l gone ptrs (i+1)=true:=YC fun j y hy=>by
   have:=h (j+1) y hy
   rw[show i+1+j=i+(j+1)by omega]
   exact this
  rw[ZM,ih]
  cases gone
  ·by_cases hp:(i:Int) <ptrs
   ·simp[h2 (by simpa using hp)]
   ·simp[hp]
  ·rw[h1 rfl]
   simp[Vv]
theorem Sd{b:Bt}{p:Pl}{n:Nd}{tw:Int}{F r:List Int}{old:Bool}(hat:p.at_=(F.length:Nat))(hn:sizN n≤9):Stands (F++Xe b p n tw++r) old ⟨p.at_,(n.ptrs.length:Int)+n.data.length,n.ptrs.length,false,0⟩:=by
 have hsh:Zl ((n.ptrs.length:Int)+n.data.length) n.ptrs.length=true:=by
  unfold sizN at hn
  exact Z4.2 (by omega)
 have hw:(F++Xe b p n tw++r)[F.length]? =some (hdrN n):=by
  rw[List.append_assoc,List.getElem?_append_right (Nat.le_refl _),Nat.sub_self]
  rfl
 have hu:=yg hsh
 refine⟨by show 0≤p.at_;omega,hsh,?_,?_,hdrN n,by rw[hat];simpa using hw,?_⟩
 ·have:=ZX b p n tw
  unfold sizN at this
  simp only[List.length_append,this,hat]
  omega
 ·simp only[hat,Int.toNat_natCast]
  have e:((F++Xe b p n tw++r).drop (F.length+1)).take ((n.ptrs.length:Int)+n.data.length).toNat=Y5 b p p.at_.toNat n.ptrs tw++n.data:=by
   have e1:((n.ptrs.length:Int)+n.data.length).toNat=(Y5 b p p.at_.toNat n.ptrs tw++n.data).length:=by simp[Y5];omega
   rw[e1,List.append_assoc,List.drop_append,List.drop_of_length_le (by omega),Nat.add_sub_cancel_left,List.nil_append]
   have e2:(Xe b p n tw++r).drop 1=(Y5 b p p.at_.toNat n.ptrs tw++n.data)++r:=rfl
   rw[e2,List.take_left]
  rw[e]
  refine YC fun j w hw=>⟨by simp,fun hlt=> ?_⟩
  have hlt':j<n.ptrs.length:=by simpa using hlt
  rw[List.getElem?_append_left (by simp[Y5];exact hlt')]at hw
  simp only[Y5,List.getElem?_map,Option.map_eq_some_iff]at hw
  obtain⟨q,_,rfl⟩:=hw
  exact zO _ _ _ _
 ·simp only[Bool.false_eq_true,if_false]
  exact⟨fun _=>Z0n (by unfold hdrN;rw[hu]),hu,trivial⟩
theorem JZ{b:Bt}{p o:Pl}{n:Nd}{F r:List Int}(hat:o.at_=(F.length:Nat))(hn:sizN n≤9)(ha:(adr (refB b.h p)).2=0):Stands (F++VP b p n++r) true ⟨o.at_,(n.ptrs.length:Int)+n.data.length,n.ptrs.length,true,(adr (refB b.h p)).1⟩:=by
 have hsh:Zl ((n.ptrs.length:Int)+n.data.length) n.ptrs.length=true:=by
  unfold sizN at hn
  exact Z4.2 (by omega)
 have hw:(F++VP b p n++r)[F.length]? =some (refB b.h p):=by
  rw[List.append_assoc,List.getElem?_append_right (Nat.le_refl _),Nat.sub_self]
  rfl
 refine⟨by show 0≤o.at_;omega,hsh,?_,?_,_,by rw[hat];simpa using hw,?_⟩
 ·have:=Xn b p n
  unfold sizN at this
  simp only[List.length_append,this,hat]
  omega
 ·simp only[hat,Int.toNat_natCast]
  have e:((F++VP b p n++r).drop (F.length+1)).take ((n.ptrs.length:Int)+n.data.length).toNat=List.replicate (sizN n-1) 0:=by
   have e1:((n.ptrs.length:Int)+n.data.length).toNat=(List.replicate (sizN n-1) (0:Int)).length:=by simp[sizN];omega
   rw[e1,List.append_assoc,List.drop_append,List.drop_of_length_le (by omega),Nat.add_sub_cancel_left,List.nil_append]
   have e2:(VP b p n++r).drop 1=List.replicate (sizN n-1) 0++r:=rfl
   rw[e2,List.take_left]
  rw[e]
  refine YC fun j w hw=> ?_
  have:=(List.mem_replicate.1 (List.mem_of_getElem? hw)).2
  subst this
  exact⟨fun _=>rfl,fun _=>rfl⟩
 ·simp only[if_true]
  exact⟨trivial,ha,trivial⟩
def obAt(b:Bt)(k:Int)(i:Nat):List Ob:=
 if(Z9 b i).part=k then [⟨(Z9 b i).at_,((ndAt b i).ptrs.length:Int)+(ndAt b i).data.length,(ndAt b i).ptrs.length,false,0⟩]
 else if(ZA b i).part=k then(if(Z9 b i).part=0 then [⟨(ZA b i).at_,((ndAt b i).ptrs.length:Int)+(ndAt b i).data.length,(ndAt b i).ptrs.length,false,0⟩]
  else [⟨(ZA b i).at_,((ndAt b i).ptrs.length:Int)+(ndAt b i).data.length,(ndAt b i).ptrs.length,true,(adr (refB b.h (Z9 b i))).1⟩])
 else []
def obs(b:Bt)(k:Int):List Ob:=(List.range b.g.nodes.length).flatMap (obAt b k)
section
variable {b:Bt} {x:Rw}
theorem Placed.nine(hpl:Placed b x)(h9: ∀n∈b.g.nodes,sizN n≤9){i:Nat}(hi:i<b.g.nodes.length):sizN (ndAt b i)≤9:=by
 unfold ndAt
 rw[List.getElem?_eq_getElem hi]
 exact h9 _ (List.getElem_mem hi)
theorem Placed.len(hpl:Placed b x){k:Int}(hk:1≤k∧k≤4):sizL (layH b.h) k=((cat b x k b.g.nodes.length).length:Nat):=by
 rw[Qe b.h hk,hpl.zero k hk]
 simp
theorem Placed.here_in(hpl:Placed b x){i:Nat}(hi:i<b.g.nodes.length)(hp:(Z9 b i).part≠0):((Z9 b i).part=1∨(Z9 b i).part=2)∧(Z9 b i).at_=((cat b x (Z9 b i).part i).length:Nat)∧(Z9 b i).at_+sizN (ndAt b i)≤sizL (layH b.h) (Z9 b i).part:=by
 rcases hpl.here i hi with ⟨h,_⟩ | ⟨h1,h2⟩
 ·rw[h]at hp;exact absurd rfl hp
 ·refine⟨h1,h2,?_⟩
  have:=yw b x (Z9 b i).part hi
  rw[hpl.len (by omega),h2]
  have e:blk b x (Z9 b i).part i=Xe b (Z9 b i) (ndAt b i) (IntKind.i64.wrap (x.slack+i)):=by unfold blk;rw[if_pos rfl]
  rw[e,ZX]at this
  omega
theorem Placed.old_in(hpl:Placed b x){i:Nat}(hi:i<b.g.nodes.length)(hp:(ZA b i).part≠0):((ZA b i).part=3∨(ZA b i).part=4)∧(ZA b i).at_=((cat b x (ZA b i).part i).length:Nat)∧(Z9 b i).part≠2∧(ZA b i).at_+sizN (ndAt b i)≤sizL (layH b.h) (ZA b i).part:=by
 rcases hpl.old i hi with h| ⟨h1,h2,h3⟩
 ·rw[h]at hp;exact absurd rfl hp
 ·refine⟨h1,h2,h3,?_⟩
  have:=yw b x (ZA b i).part hi
  rw[hpl.len (by omega),h2]
  have hh:(Z9 b i).part=0∨(Z9 b i).part=1:=by
   by_cases h0:(Z9 b i).part=0
   ·exact .inl h0
   ·have:=(hpl.here_in hi h0).1;omega
  have e:(blk b x (ZA b i).part i).length=sizN (ndAt b i):=by
   unfold blk
   rw[if_neg (by omega),if_pos rfl]
   split
   ·exact ZX _ _ _ _
   ·exact Xn _ _ _
  rw[e]at this
  omega
theorem Placed.ref_here(hpl:Placed b x)(hr:Za (layH b.h)=true){i:Nat}(hi:i<b.g.nodes.length)(hp:(Z9 b i).part≠0):refB b.h (Z9 b i)=refR (layH b.h) (Z9 b i).part (Z9 b i).at_:=by
 obtain⟨h1,h2,h3⟩:=hpl.here_in hi hp
 have hs:1≤sizN (ndAt b i):=by unfold sizN;omega
 unfold refB
 rw[if_neg hp,UB hr (by omega) ⟨by omega,by omega⟩]
 have:=Zy hr (Z9 b i).part
 unfold X4 refR
 rw[if_neg (by omega)]
theorem Placed.ref_old(hpl:Placed b x)(hr:Za (layH b.h)=true){i:Nat}(hi:i<b.g.nodes.length)(hp:(ZA b i).part≠0):refB b.h (ZA b i)=refR (layH b.h) (ZA b i).part (ZA b i).at_:=by
 obtain⟨h1,h2,_,h3⟩:=hpl.old_in hi hp
 have hs:1≤sizN (ndAt b i):=by unfold sizN;omega
 unfold refB
 rw[if_neg hp,UB hr (by omega) ⟨by omega,by omega⟩]
 have:=Zy hr (ZA b i).part
 unfold X4 refR
 rw[if_neg (by omega)]
theorem QX(hpl:Placed b x)(hr:Za (layH b.h)=true)(h9: ∀n∈b.g.nodes,sizN n≤9){k:Int}(hk:1≤k∧k≤4): ∀(m i:Nat),i+m=b.g.nodes.length→Tiles (cat b x k b.g.nodes.length) (decide (2<k)) (cat b x k i).length ((List.range' i m).flatMap (obAt b k))
 |0,i,hi=>by
  have:i=b.g.nodes.length:=by omega
  subst this
  exact Nat.le_refl _
 |m+1,i,hi=>by
  have ih:=QX hpl hr h9 hk m (i+1) (by omega)
  have hlt:i<b.g.nodes.length:=by omega
  have h9i:=hpl.nine h9 hlt
  obtain⟨r,hrr⟩:=VV b x k (show i+1≤b.g.nodes.length by omega)
  rw[List.range'_succ,List.flatMap_cons]
  have hs:=Yn b x k i
  by_cases h1:(Z9 b i).part=k
  ·have hb:blk b x k i=Xe b (Z9 b i) (ndAt b i) (IntKind.i64.wrap (x.slack+i)):=by unfold blk;rw[if_pos h1]
   have ho:obAt b k i= [⟨(Z9 b i).at_,((ndAt b i).ptrs.length:Int)+(ndAt b i).data.length,(ndAt b i).ptrs.length,false,0⟩]:=by unfold obAt;rw[if_pos h1]
   obtain⟨_,q2,_⟩:=hpl.here_in hlt (by omega)
   rw[h1]at q2
   rw[ho]
   refine⟨q2,?_,?_⟩
   ·rw[hrr,hs,hb]
    exact Sd q2 h9i
   ·rw[hs,hb,List.length_append,ZX]at ih
    have:(((ndAt b i).ptrs.length:Int)+(ndAt b i).data.length).toNat=sizN (ndAt b i) -1:=by unfold sizN;omega
    simp only[this]
    rw[show(cat b x k i).length+1+(sizN (ndAt b i) -1)=(cat b x k i).length+sizN (ndAt b i)by unfold sizN;omega]
    exact ih
  by_cases h2:(ZA b i).part=k
  ·obtain⟨q1,q2,q3,q4⟩:=hpl.old_in hlt (by omega)
   have hk3:2<k:=by omega
   rw[h2]at q2
   have hlen:(cat b x k (i+1)).length=(cat b x k i).length+1+(((ndAt b i).ptrs.length:Int)+(ndAt b i).data.length).toNat:=by
    have e:(blk b x k i).length=sizN (ndAt b i):=by
     unfold blk
     rw[if_neg h1,if_pos h2]
     split
     ·exact ZX _ _ _ _
     ·exact Xn _ _ _
    rw[hs,List.length_append,e]
    unfold sizN
    omega
   rw[hlen]at ih
   by_cases h3:(Z9 b i).part=0
   ·have hb:blk b x k i=Xe b (ZA b i) (ndAt b i) 0:=by unfold blk;rw[if_neg h1,if_pos h2,if_pos h3]
    have ho:obAt b k i= [⟨(ZA b i).at_,((ndAt b i).ptrs.length:Int)+(ndAt b i).data.length,(ndAt b i).ptrs.length,false,0⟩]:=by unfold obAt;rw[if_neg h1,if_pos h2,if_pos h3]
    rw[ho]
    refine⟨q2,?_,ih⟩
    rw[hrr,hs,hb]
    exact Sd q2 h9i
   ·have hb:blk b x k i=VP b (Z9 b i) (ndAt b i):=by unfold blk;rw[if_neg h1,if_pos h2,if_neg h3]
    have ho:obAt b k i= [⟨(ZA b i).at_,((ndAt b i).ptrs.length:Int)+(ndAt b i).data.length,(ndAt b i).ptrs.length,true,(adr (refB b.h (Z9 b i))).1⟩]:=by unfold obAt;rw[if_neg h1,if_pos h2,if_neg h3]
    rw[ho]
    refine⟨q2,?_,ih⟩
    rw[hrr,hs,hb,decide_eq_true hk3]
    refine JZ q2 h9i ?_
    obtain⟨u1,u2,_⟩:=hpl.here_in hlt h3
    rw[hpl.ref_here hr hlt h3,XO hr (by omega)]
  ·have hb:blk b x k i= []:=by unfold blk;rw[if_neg h1,if_neg h2]
   have ho:obAt b k i= []:=by unfold obAt;rw[if_neg h1,if_neg h2]
   rw[ho,List.nil_append]
   rw[hs,hb,List.append_nil]at ih
   exact ih
theorem Z0b(hpl:Placed b x)(hr:Za (layH b.h)=true)(h9: ∀n∈b.g.nodes,sizN n≤9){k:Int}(hk:1≤k∧k≤4):Tiles (Z8 (ZZ x b) k) (decide (2<k)) 0 (obs b k):=by
 rw[SA hpl hk]
 have:=QX hpl hr h9 hk b.g.nodes.length 0 (by omega)
 unfold obs
 rw[List.range_eq_range']
 exact this
theorem Ux{k:Int}{o:Ob}:o∈obs b k↔ ∃i,i<b.g.nodes.length∧o∈obAt b k i:=by
 unfold obs
 simp[List.mem_flatMap]
end
end Vm
end
section
namespace Vm
open Go Go.Proofs
set_option maxRecDepth 100000
theorem Wd{gone:Bool}{ptrs:Int}: ∀ {l:List Int} {i:Nat},ZM l gone ptrs i=true→ ∀(j:Nat) (w:Int),l[j]? =some w→(gone=true→w=0)∧(((i+j:Nat):Int) <ptrs→Vv w=true)
 | [],_,_,j,w,hw=>by simp at hw
 |y::l,i,hs,j,w,hw=>by
  simp only[ZM,Bool.and_eq_true]at hs
  cases j with
  |zero=>
   simp at hw
   subst hw
   obtain⟨⟨h1,h2⟩,_⟩:=hs
   refine⟨fun hg=> ?_,fun hp=> ?_⟩
   ·rw[hg]at h1;simpa using h1
   ·simpa[show(i:Int) <ptrs by omega]using h2
  |succ j=>
   have:=Wd hs.2 j w (by simpa using hw)
   rw[show i+1+j=i+(j+1)by omega]at this
   exact this
theorem Stands.congr{ws ws':List Int}{old:Bool}{o:Ob}(s:Stands ws old o)(hl:ws'.length=ws.length)(h0:ws'[o.at_.toNat]? =ws[o.at_.toNat]?)
  (h1: ∀j:Nat,(j:Int) <o.size→ws'[o.at_.toNat+1+j]? =ws[o.at_.toNat+1+j]? ∨(o.gone=false∧o.ptrs≤j)):Stands ws' old o:=by
 refine⟨s.nat,s.shape,by rw[hl];exact s.fits,YC fun j w hw=> ?_,by rw[h0];exact s.word⟩
 have hlt:j<o.size.toNat:=by
  have:=(List.getElem?_eq_some_iff.1 hw).1
  simp at this
  omega
 rw[List.getElem?_take_of_lt hlt,List.getElem?_drop]at hw
 rcases h1 j (by omega)with h1| ⟨hg,hp⟩
 ·rw[h1]at hw
  refine Wd s.slots j w ?_
  rw[List.getElem?_take_of_lt hlt,List.getElem?_drop]
  exact hw
 ·exact⟨fun h=>(by rw[hg]at h;cases h),fun h=>(by omega)⟩
theorem Tiles.congr{ws ws':List Int}{old:Bool}: ∀ {a:Nat} {l:List Ob},Tiles ws old a l→ws'.length=ws.length→(∀o∈l,Stands ws' old o)→Tiles ws' old a l
 |a,[],h,hl,_=>by show ws'.length≤a;rw[hl];exact h
 |a,o::l,h,hl,hs=>⟨h.1,hs o (.head _),Tiles.congr h.2.2 hl fun x hx=>hs x (.tail _ hx)⟩
section
variable {h g:Hp} {p:Pts}
theorem qC(hl:layH g=layH h){w i j:Int}:Gos g p w i j↔Gos h p w i j:=by
 unfold Gos
 rw[hl]
theorem Tiles.place{ws:List Int}{old:Bool}: ∀ {a:Nat} {l:List Ob},Tiles ws old a l→ ∀ {i:Nat} {o:Ob},l[i]? =some o→o.at_=((a+szL (l.take i):Nat):Int)
 |_,[],_,i,o,hi=>by simp at hi
 |a,x::l,ht,0,o,hi=>by simp at hi;subst hi;rw[ht.1];simp[szL]
 |a,x::l,ht,i+1,o,hi=>by
  have:=ht.2.2.place (i:=i) (o:=o) (by simpa using hi)
  rw[this]
  simp[szL]
  omega
theorem jZ{l:List Ob}{i:Nat}{o:Ob}(hi:l[i]? =some o):szL (l.take (i+1))=szL (l.take i)+(1+o.size.toNat):=by
 unfold szL
 rw[List.take_add_one,hi,List.map_append,List.sum_append];simp
end
end Vm
end
section
namespace Vm
open Go Go.Proofs
set_option maxRecDepth 100000
theorem Z2D{ws:List Int}{a:Nat}: ∀ {n j:Nat},j<n→a+n≤ws.length→(zr ws a n)[a+j]? =some 0
 |0,_,h,_=>by omega
 |n+1,j,h,hl=>by
  rw[zr]
  by_cases e:j=n
  ·subst e
   rw[List.getElem?_set_self (by rw[Lf];omega)]
  ·rw[List.getElem?_set_ne (by omega)]
   exact Z2D (by omega) (by omega)
theorem Stands.app{ws r:List Int}{old:Bool}{o:Ob}(s:Stands ws old o):Stands (ws++r) old o:=by
 have hs:=Z4.1 s.shape
 have hf:=s.fits
 have hn:=s.nat
 have e0:(ws++r)[o.at_.toNat]? =ws[o.at_.toNat]? :=List.getElem?_append_left (by omega)
 refine⟨s.nat,s.shape,by simp;omega,YC fun j w hw=> ?_,by rw[e0];exact s.word⟩
 have hlt:j<o.size.toNat:=by
  have:=(List.getElem?_eq_some_iff.1 hw).1
  simp at this
  omega
 rw[List.getElem?_take_of_lt hlt,List.getElem?_drop,List.getElem?_append_left (by omega)]at hw
 refine Wd s.slots j w ?_
 rw[List.getElem?_take_of_lt hlt,List.getElem?_drop]
 exact hw
theorem Tiles.append{ws r:List Int}{old:Bool}: ∀ {a:Nat} {l l':List Ob},Tiles ws old a l→a≤ws.length→Tiles (ws++r) old ws.length l'→Tiles (ws++r) old a (l++l')
 |a,[],l',h,ha,h'=>by
  have:ws.length≤a:=h
  have:a=ws.length:=by omega
  subst this
  exact h'
 |a,o::l,l',h,ha,h'=>by
  have hs:=Z4.1 h.2.1.shape
  have hf:=h.2.1.fits
  have e:=h.1
  exact⟨h.1,h.2.1.app,Tiles.append h.2.2 (by omega) h'⟩
theorem Tiles.map{ws ws':List Int}{old:Bool}{f:Ob→Ob}(hf: ∀o,(f o).at_=o.at_∧(f o).size=o.size)(hl:ws'.length=ws.length): ∀ {a:Nat} {l:List Ob},Tiles ws old a l→(∀o∈l,Stands ws' old (f o))→Tiles ws' old a (l.map f)
 |a,[],h,_=>by show ws'.length≤a;rw[hl];exact h
 |a,o::l,h,hs=>⟨by rw[(hf o).1];exact h.1,hs o (.head _),by rw[(hf o).2];exact Tiles.map hf hl h.2.2 fun x hx=>hs x (.tail _ hx)⟩
def goOb(a t:Int)(q:Ob):Ob:=if q.at_=a then {q with gone:=true,target:=t}else q
theorem Xx(a t:Int)(q:Ob):(goOb a t q).at_=q.at_∧(goOb a t q).size=q.size∧(goOb a t q).ptrs=q.ptrs:=by
 unfold goOb
 split<;>exact⟨rfl,rfl,rfl⟩
theorem Wp{a t:Int}{q:Ob}(h:q.at_≠a):goOb a t q=q:=if_neg h
theorem Wr{a t:Int}{q:Ob}(h:q.at_=a):goOb a t q= {q with gone:=true,target:=t}:=if_pos h
def Pts.mv(p:Pts)(k:Int)(o:Ob)(L:Nat)(t:Int):Pts:=⟨p.low++ [⟨L,o.size,o.ptrs,false,0⟩],p.high,if k=3 then p.old.map (goOb o.at_ t)else p.old,if k=3 then p.far else p.far.map (goOb o.at_ t)⟩
section
variable {h:Hp} {p:Pts}
theorem jt{k:Int}(hk:3≤k∧k≤4)(o:Ob)(L:Nat)(t:Int):(p.mv k o L t).at 1=p.low++ [⟨L,o.size,o.ptrs,false,0⟩]∧(p.mv k o L t).at 2=p.high∧(p.mv k o L t).at k=(p.at k).map (goOb o.at_ t)∧(p.mv k o L t).at (7-k)=p.at (7-k):=by
 have:k=3∨k=4:=by omega
 rcases this with rfl|rfl<;>exact⟨rfl,rfl,rfl,rfl⟩
theorem Z33{k:Int}(hk:3≤k∧k≤4){o:Ob}{L:Nat}{t:Int}{j:Int}(hj:1≤j∧j≤4){q:Ob}(hq:q∈p.at j): ∃q'∈(p.mv k o L t).at j,q'.at_=q.at_∧q'.size=q.size∧q'.ptrs=q.ptrs∧(q'.gone=false→q'=q)∧(j<3→q'=q):=by
 obtain⟨e1,e2,e3,e4⟩:=jt (p:=p) hk o L t
 by_cases j1:j=1
 ·subst j1
  exact⟨q,by rw[e1];exact List.mem_append_left _ hq,rfl,rfl,rfl,fun _=>rfl,fun _=>rfl⟩
 by_cases j2:j=2
 ·subst j2
  exact⟨q,by rw[e2];exact hq,rfl,rfl,rfl,fun _=>rfl,fun _=>rfl⟩
 by_cases jk:j=k
 ·subst jk
  refine⟨goOb o.at_ t q,by rw[e3];exact List.mem_map_of_mem hq,(Xx _ _ _).1,(Xx _ _ _).2.1,(Xx _ _ _).2.2,fun hg=> ?_,fun h=>by omega⟩
  by_cases e:q.at_=o.at_
  ·rw[Wr e]at hg;cases hg
  ·exact Wp e
 ·have:j=7-k:=by omega
  subst this
  exact⟨q,by rw[e4];exact hq,rfl,rfl,rfl,fun _=>rfl,fun h=>by omega⟩
theorem Z3c{g:Hp}{k:Int}(hk:3≤k∧k≤4){o:Ob}{L:Nat}{t:Int}(hr: ∀j b,refR (layH g) j b=refR (layH h) j b){w i j:Int}(hi:1≤i∧i≤4)(hj:1≤j∧j≤4)(hg:Gos h p w i j):Gos g (p.mv k o L t) w i j:=by
 rcases hg with rfl| ⟨m,q,hm,hq,rfl⟩
 ·exact .inl rfl
 ·obtain⟨q',hq',e,_⟩:=Z33 (p:=p) hk (o:=o) (L:=L) (t:=t) (j:=m) (by rcases hm with rfl|rfl<;>assumption) hq
  exact .inr ⟨m,q',hm,hq',by rw[hr,e]⟩
theorem Z24{l:List Ob}{o:Ob}{t:Int}(hn:l.Pairwise fun x y=>x.at_<y.at_)(ho:o∈l)(hg:o.gone=false):wtL (l.map (goOb o.at_ t))+(1+o.size.toNat)=wtL l:=by
 induction l with
 |nil=>simp at ho
 |cons x l ih=>
  rw[List.pairwise_cons]at hn
  simp only[wtL,List.map_cons,List.sum_cons]at ih⊢
  rcases List.mem_cons.1 ho with rfl|ho
  ·have:l.map (goOb o.at_ t)=l:=by
    conv=>rhs;rw[←List.map_id l]
    refine List.map_congr_left fun y hy=>Wp ?_
    have:=hn.1 y hy
    omega
   rw[this,Wr rfl]
   simp[wtO,hg]
   omega
  ·have:=hn.1 o ho
   have ih:=ih hn.2 ho
   rw[Wp (by omega)]
   omega
theorem Body.move(r:Body h p)(hsc:h.scan≤h.low.length){k:Int}(hk:3≤k∧k≤4){o:Ob}(ho:o∈p.at k)(hg:o.gone=false){a n:Nat}(ea:o.at_=a)(en:o.size=n):
  Body (movH h k a (n+1)) (p.mv k o h.low.length (fstL (layH h) 1+h.low.length)):=by
 obtain⟨a',n',m,ea',en',em,hal,hn5,hmn⟩:=r.toTld.ob (k:=k) (by omega) ho
 have:a'=a:=by omega
 subst this
 have:n'=n:=by omega
 subst this
 obtain⟨_,hm⟩:=r.fwd_wait hk ho hg ea en
 obtain⟨m1,m2,m3,m4,m5,m6,m7,m8,m9,m10⟩:=SX h hk a' (n'+1)
 have mlay:=Rp hk (g:=h) hal
 have mr:=LG r.lay hk hal hm
 have hr:=qM hk hal
 have hw: ∀ {j:Int} {b:Nat},3≤j∧j≤4→(j≠k∨b<a'∨a'+(n'+1)≤b)→(Z8 (movH h k a' (n'+1)) j)[b]? =(Z8 h j)[b]? :=fun hj hb=>QD hk (by omega) hj hb
 have hlen: ∀ {j:Int},3≤j∧j≤4→(Z8 (movH h k a' (n'+1)) j).length=(Z8 h j).length:=fun hj=>Ro hk hj
 have hfst:fstL (layH (movH h k a' (n'+1))) 1=fstL (layH h) 1:=by rw[mlay];rfl
 have hws: ∀i,i<n'+1→(((Z8 h k).take (a'+(n'+1))).drop a')[i]? =(Z8 h k)[a'+i]? :=fun i hi=>by
  rw[List.getElem?_drop,List.getElem?_take_of_lt (by omega)]
 have hwl:(((Z8 h k).take (a'+(n'+1))).drop a').length=n'+1:=by simp;omega
 obtain⟨e1,e2,e3,e4⟩:=jt (p:=p) hk o h.low.length (fstL (layH h) 1+h.low.length)
 have hst:=((r.tiles k (by omega)).stands o ho).1
 obtain⟨u,hu,hc⟩:=hst.word
 rw[if_neg (by simp[hg])]at hc
 rw[ea,Int.toNat_natCast]at hu
 generalize hgm:movH h k a' (n'+1)=g at*
 generalize hws':((Z8 h k).take (a'+(n'+1))).drop a'=ws at*
 have hap: ∀q∈p.at k,q.at_≠o.at_→ ∀i:Nat,(i:Int)≤q.size→q.at_.toNat+i<a'∨a'+(n'+1)≤q.at_.toNat+i:=by
  intro q hq hne i hi
  obtain⟨b,l,_,eb,el,_⟩:=r.toTld.ob (k:=k) (by omega) hq
  rcases(r.tiles k (by omega)).apart q hq o ho with e|e|e
  ·rw[e]at hne;exact absurd rfl hne
  ·left;omega
  ·right;omega
 have hsame: ∀q∈p.at k,q.at_≠o.at_→ ∀i:Nat,(i:Int)≤q.size→(Z8 g k)[q.at_.toNat+i]? =(Z8 h k)[q.at_.toNat+i]? :=fun q hq hne i hi=>hw hk (.inr (hap q hq hne i hi))
 have hother: ∀b,(Z8 g (7-k))[b]? =(Z8 h (7-k))[b]? :=fun b=>hw (by omega) (.inl (by omega))
 have hnew:Stands (h.low++ws) false ⟨h.low.length,o.size,o.ptrs,false,0⟩:=by
  refine⟨by simp,hst.shape,by simp;omega,YC fun j w hj=>⟨by simp,fun hp=> ?_⟩,u,?_,?_⟩
  ·have hlt:j<n':=by
    have:=(List.getElem?_eq_some_iff.1 hj).1
    simp[en]at this
    omega
   simp only[en,Int.toNat_natCast]at hj
   rw[List.getElem?_take_of_lt hlt,List.getElem?_drop,List.getElem?_append_right (by omega),show h.low.length+1+j-h.low.length=1+j by omega,hws _ (by omega)]at hj
   refine(Wd hst.slots j w ?_).2 hp
   rw[ea,en,Int.toNat_natCast,Int.toNat_natCast,List.getElem?_take_of_lt hlt,List.getElem?_drop,←hj,Nat.add_assoc]
  ·simp only[Int.toNat_natCast]
   rw[List.getElem?_append_right (Nat.le_refl _),Nat.sub_self,hws 0 (by omega),Nat.add_zero,hu]
  ·simp only[Bool.false_eq_true,if_false]
   exact⟨by simp,hc.2.1,trivial⟩
 have hpos:=Zy r.lay 1
 refine⟨⟨mr,fun j hj=> ?_⟩,fun j hj q hq hqg=> ?_,fun j hj q hq hqg i hi w hwi=> ?_,?_⟩
 ·by_cases j1:j=1
  ·subst j1
   rw[e1]
   simp only[Xy,m1]
   exact(r.tiles 1 (by omega)).append (Nat.zero_le _) ⟨rfl,hnew,by show(h.low++ws).length≤_;simp[en,hwl];omega⟩
  by_cases j2:j=2
  ·subst j2
   rw[e2]
   simp only[KE,m2]
   exact r.tiles 2 (by omega)
  by_cases jk:j=k
  ·subst jk
   rw[e3]
   refine(r.tiles j (by omega)).map (fun q=>⟨(Xx _ _ q).1,(Xx _ _ q).2.1⟩) (hlen hk) fun q hq=> ?_
   by_cases e:q.at_=o.at_
   ·have:q=o:=r.toTld.same_at (by omega) ho hq e
    subst this
    rw[Wr rfl]
    refine⟨hst.nat,hst.shape,by rw[hlen hk];exact hst.fits,YC fun i w hi=> ?_,refR (layH h) 1 h.low.length,?_,?_⟩
    ·have hlt:i<n':=by
      have:=(List.getElem?_eq_some_iff.1 hi).1
      simp[en]at this
      omega
     simp only[ea,en,Int.toNat_natCast]at hi
     rw[List.getElem?_take_of_lt hlt,List.getElem?_drop,m3,List.getElem?_set_ne (by omega),Nat.add_assoc,Z2D (by omega) hal]at hi
     cases hi
     exact⟨fun _=>rfl,fun _=>rfl⟩
    ·simp only[ea,Int.toNat_natCast]
     rw[m3,List.getElem?_set_self (by rw[Lf];omega)]
    ·simp only[if_true]
     rw[XO r.lay (by omega)]
     exact⟨decide_eq_true (by omega),rfl,rfl⟩
   ·rw[Wp e]
    refine((r.tiles j (by omega)).stands q hq).1.congr (hlen hk) (by simpa using hsame q hq e 0 (by have:=Z4.1 ((r.tiles j (by omega)).stands q hq).1.shape;omega)) fun i hi=> .inl ?_
    rw[Nat.add_assoc]
    exact hsame q hq e (1+i) (by omega)
  ·have:j=7-k:=by omega
   subst this
   rw[e4,m4]
   exact r.tiles (7-k) (by omega)
 ·by_cases jk:j=k
  ·subst jk
   rw[e3,List.mem_map]at hq
   obtain⟨x,hx,rfl⟩:=hq
   by_cases e:x.at_=o.at_
   ·have:x=o:=r.toTld.same_at (by omega) ho hx e
    subst this
    rw[Wr rfl]
    exact⟨_,List.mem_append_right _ (.head _),by rw[hfst],rfl,rfl⟩
   ·rw[Wp e]at hqg⊢
    obtain⟨y,hy,y1,y2,y3⟩:=r.gone j hj x hx hqg
    exact⟨y,List.mem_append_left _ hy,by rw[hfst];exact y1,y2,y3⟩
  ·have:j=7-k:=by omega
   subst this
   rw[e4]at hq
   obtain⟨y,hy,y1,y2,y3⟩:=r.gone _ hj q hq hqg
   exact⟨y,List.mem_append_left _ hy,by rw[hfst];exact y1,y2,y3⟩
 ·have gos: ∀ {w i j:Int},1≤i∧i≤4→1≤j∧j≤4→Gos h p w i j→Gos g (p.mv k o h.low.length (fstL (layH h) 1+h.low.length)) w i j:=fun hi hj=>Z3c hk hr hi hj
  have pat: ∀ {j:Int} {i:Nat} {w:Int},Wt h p j i w→Wt g (p.mv k o h.low.length (fstL (layH h) 1+h.low.length)) j i w:=fun {j i w} hp=>by
   unfold Wt at hp⊢
   rw[m6]
   by_cases c1:2<j
   ·rw[if_pos c1]at hp⊢;exact gos (by omega) (by omega) hp
   rw[if_neg c1]at hp⊢
   by_cases c2:j=1∧h.scan≤i
   ·rw[if_pos c2]at hp⊢
    exact hp.imp (gos (by omega) (by omega)) (gos (by omega) (by omega))
   ·rw[if_neg c2]at hp⊢;exact gos (by omega) (by omega) hp
  by_cases j1:j=1
  ·subst j1
   rw[e1]at hq
   rcases List.mem_append.1 hq with hq|hq
   ·obtain⟨b,l,l',eb,el,el',hbl,_⟩:=r.toTld.ob (k:=1) (by omega) hq
    simp only[Xy]at hbl hwi
    rw[m1,List.getElem?_append_left (by omega)]at hwi
    exact pat (r.ptr 1 (by omega) q hq hqg i hi w hwi)
   ·simp at hq
    subst hq
    simp only at hi hwi⊢
    simp only[Int.toNat_natCast,Xy,m1]at hwi⊢
    rw[List.getElem?_append_right (by omega),show h.low.length+1+i-h.low.length=1+i by omega,hws _ (by omega)]at hwi
    have:=r.ptr k (by omega) o ho hg i hi w (by rw[ea,Int.toNat_natCast,Nat.add_assoc];exact hwi)
    unfold Wt at this⊢
    rw[if_pos (by omega)]at this
    rw[if_neg (by omega),if_pos ⟨rfl,by rw[m6];omega⟩]
    exact .inr (gos (by omega) (by omega) this)
  by_cases j2:j=2
  ·subst j2
   rw[e2]at hq
   simp only[KE,m2]at hwi
   exact pat (r.ptr 2 (by omega) q hq hqg i hi w hwi)
  by_cases jk:j=k
  ·subst jk
   rw[e3,List.mem_map]at hq
   obtain⟨x,hx,rfl⟩:=hq
   by_cases e:x.at_=o.at_
   ·rw[Wr e]at hqg;cases hqg
   ·rw[Wp e]at hqg hi hwi⊢
    have hps:=(Z4.1 ((r.tiles j (by omega)).stands x hx).1.shape).2.2.2
    rw[Nat.add_assoc,hsame x hx e (1+i) (by omega),←Nat.add_assoc]at hwi
    exact pat (r.ptr j hj x hx hqg i hi w hwi)
  ·have:j=7-k:=by omega
   subst this
   rw[e4]at hq
   rw[m4]at hwi
   exact pat (r.ptr _ hj q hq hqg i hi w hwi)
 ·have hrm:=r.room
  have hwt:YY (p.mv k o h.low.length (fstL (layH h) 1+h.low.length))+(1+n')=YY p:=by
   have h1:=(r.tiles k (by omega)).pairwise
   have:=Z24 (t:=fstL (layH h) 1+h.low.length) h1 ho hg
   rw[en,Int.toNat_natCast]at this
   unfold YY
   have hk2:k=3∨k=4:=by omega
   rcases hk2 with rfl|rfl
   ·simp only[Pts.at3]at this
    simp only[Pts.mv,if_true]
    omega
   ·simp only[Pts.at4]at this
    simp only[Pts.mv,show ¬(4:Int)=3 by omega,if_false]
    omega
  rw[m1,m2,m8]
  simp only[List.length_append,hwl]
  omega
end
end Vm
end
section
namespace Vm
open Go Go.Proofs
set_option maxRecDepth 100000
def Once(h:Hp)(p:Pts):Prop:= ∀o∈p.low,TY p (fstL (layH h) 1+o.at_)=1
section
variable {h g:Hp} {p q:Pts}
theorem Z4y{l:List Ob}{o:Ob}{t b:Int}(hn:l.Pairwise fun x y=>x.at_<y.at_)(ho:o∈l)(hg:o.gone=false):tgL (l.map (goOb o.at_ t)) b=tgL l b+if t=b then 1 else 0:=by
 induction l with
 |nil=>simp at ho
 |cons x l ih=>
  rw[List.pairwise_cons]at hn
  have e: ∀(y:Ob) (r:List Ob),tgL (y::r) b=(if y.gone=true∧y.target=b then 1 else 0)+tgL r b:=fun y r=>by
   unfold tgL
   rw[List.filter_cons]
   by_cases c:y.gone=true∧y.target=b
   ·rw[if_pos c,if_pos (by simp[c]),List.length_cons,Nat.add_comm]
   ·rw[if_neg c,if_neg (by simpa using c),Nat.zero_add]
  rw[List.map_cons,e,e]
  rcases List.mem_cons.1 ho with rfl|ho
  ·have:l.map (goOb o.at_ t)=l:=by
    conv=>rhs;rw[←List.map_id l]
    refine List.map_congr_left fun y hy=>Wp ?_
    have:=hn.1 y hy
    omega
   rw[this,Wr rfl]
   simp[hg]
   omega
  ·have h1:=hn.1 o ho
   rw[ih hn.2 ho,Wp (by omega)]
   omega
theorem Z2k(r:Body h p){b:Int}(hb:h.low.length≤b):TY p (fstL (layH h) 1+b)=0:=by
 have key: ∀k:Int,3≤k∧k≤4→tgL (p.at k) (fstL (layH h) 1+b)=0:=fun k hk=>by
  unfold tgL
  rw[List.length_eq_zero_iff,List.filter_eq_nil_iff]
  intro o ho hg
  simp only[Bool.and_eq_true,decide_eq_true_eq]at hg
  obtain⟨y,hy,e,_⟩:=r.gone k hk o ho hg.1
  have:=r.toTld.low_at hy
  omega
 have h3:=key 3 (by omega)
 have h4:=key 4 (by omega)
 simp only[Pts.at3,Pts.at4]at h3 h4
 unfold TY
 omega
theorem Z1s(r:Body h p){k:Int}(hk:3≤k∧k≤4){o:Ob}(ho:o∈p.at k)(hg:o.gone=false){L:Nat}{t b:Int}:TY (p.mv k o L t) b=TY p b+if t=b then 1 else 0:=by
 have h1:=Z4y (t:=t) (b:=b) (r.tiles k (by omega)).pairwise ho hg
 unfold TY
 have hk2:k=3∨k=4:=by omega
 rcases hk2 with rfl|rfl
 ·simp only[Pts.at3]at h1
  simp only[Pts.mv,if_true]
  omega
 ·simp only[Pts.at4]at h1
  simp only[Pts.mv,show ¬(4:Int)=3 by omega,if_false]
  omega
structure Ext (h:Hp) (p:Pts) (g:Hp) (q:Pts):Prop where
 low: ∃ws,g.low=h.low++ws
 high:g.high=h.high
 base:g.base=h.base
 cap:g.cap=h.cap
 tos:g.to=h.to
 cycle:g.cycle=h.cycle
 scan:g.scan=h.scan
 roots:g.roots=h.roots
 oldL:g.old.length=h.old.length
 farL:g.far.length=h.far.length
 obsL: ∃r,q.low=p.low++r
 obsH:q.high=p.high
 obsO: ∀k:Int,3≤k∧k≤4→(q.at k).map (fun o=>(o.at_,o.size,o.ptrs))=(p.at k).map (fun o=>(o.at_,o.size,o.ptrs))
 gone: ∀k:Int,3≤k∧k≤4→ ∀(i:Nat) (o o':Ob),(p.at k)[i]? =some o→(q.at k)[i]? =some o'→(o.gone=true→o'=o)∧(o'.gone=false→o'=o∧ ∀j:Nat,(j:Int)≤o.size→(Z8 g k)[o.at_.toNat+j]? =(Z8 h k)[o.at_.toNat+j]?)
 room:(g.low.length:Int)+YY q=h.low.length+YY p
theorem Ext.refl(h:Hp)(p:Pts):Ext h p h p:=
 ⟨⟨[],by simp⟩,rfl,rfl,rfl,rfl,rfl,rfl,rfl,rfl,rfl,⟨[],by simp⟩,rfl,fun _ _=>rfl,fun k hk i o o' h1 h2=>by rw[h1]at h2;cases h2;exact⟨fun _=>rfl,fun _=>⟨rfl,fun _ _=>rfl⟩⟩,rfl⟩
theorem Ext.fst(e:Ext h p g q)(k a:Int)(hk:k=1∨k=3∨k=4∨k=2):refR (layH g) k a=refR (layH h) k a:=by
 unfold refR fstL layH
 simp only[e.base,e.cap,e.tos,e.high,e.farL]
theorem Ext.mem(e:Ext h p g q){j:Int}(hj:1≤j∧j≤4){o:Ob}(ho:o∈p.at j): ∃o'∈q.at j,o'.at_=o.at_∧o'.size=o.size∧o'.ptrs=o.ptrs:=by
 have h4:j=1∨j=2∨j=3∨j=4:=by omega
 rcases h4 with rfl|rfl|h3
 ·obtain⟨r,hr⟩:=e.obsL
  exact⟨o,by show o∈q.low;rw[hr];exact List.mem_append_left _ ho,rfl,rfl,rfl⟩
 ·exact⟨o,by show o∈q.high;rw[e.obsH];exact ho,rfl,rfl,rfl⟩
 ·have:=e.obsO j (by omega)
  have hm:(o.at_,o.size,o.ptrs)∈(q.at j).map (fun o=>(o.at_,o.size,o.ptrs)):=by rw[this];exact List.mem_map_of_mem ho
  obtain⟨o',h1,h2⟩:=List.mem_map.1 hm
  simp only[Prod.mk.injEq]at h2
  exact⟨o',h1,h2⟩
theorem Ext.gos(e:Ext h p g q){w i j:Int}(hi:1≤i∧i≤4)(hj:1≤j∧j≤4)(hg:Gos h p w i j):Gos g q w i j:=by
 rcases hg with rfl| ⟨m,o,hm,ho,rfl⟩
 ·exact .inl rfl
 ·have hm4:1≤m∧m≤4:=by rcases hm with rfl|rfl<;>assumption
  obtain⟨o',ho',e1,_⟩:=e.mem hm4 ho
  exact .inr ⟨m,o',hm,ho',by rw[e.fst _ _ (by omega),e1]⟩
theorem Body.ext(r:Body h p)(hsc:h.scan≤h.low.length){k:Int}(hk:3≤k∧k≤4){o:Ob}(ho:o∈p.at k)(hg:o.gone=false){a n:Nat}(ea:o.at_=a)(en:o.size=n):
  Ext h p (movH h k a (n+1)) (p.mv k o h.low.length (fstL (layH h) 1+h.low.length)):=by
 obtain⟨a',n',m,ea',en',em,hal,hn5,hmn⟩:=r.toTld.ob (k:=k) (by omega) ho
 have:a'=a:=by omega
 subst this
 have:n'=n:=by omega
 subst this
 obtain⟨m1,m2,m3,m4,m5,m6,m7,m8,m9,m10⟩:=SX h hk a' (n'+1)
 obtain⟨e1,e2,e3,e4⟩:=jt (p:=p) hk o h.low.length (fstL (layH h) 1+h.low.length)
 have l3:(movH h k a' (n'+1)).old.length=h.old.length:=Ro (j:=3) hk (by omega)
 have l4:(movH h k a' (n'+1)).far.length=h.far.length:=Ro (j:=4) hk (by omega)
 refine⟨⟨_,m1⟩,m2,m9,m8,m10,m7,m6,m5,l3,l4,⟨_,e1⟩,e2,fun j hj=> ?_,fun j hj i x x' h1 h2=> ?_,?_⟩
 ·by_cases jk:j=k
  ·subst jk
   rw[e3,List.map_map]
   refine List.map_congr_left fun x _=> ?_
   obtain⟨g1,g2,g3⟩:=Xx o.at_ (fstL (layH h) 1+h.low.length) x
   simp only[Function.comp,g1,g2,g3]
  ·have:j=7-k:=by omega
   subst this
   rw[e4]
 ·by_cases jk:j=k
  ·subst jk
   rw[e3,List.getElem?_map,h1]at h2
   simp at h2
   subst h2
   have hxm:=List.mem_of_getElem? h1
   by_cases e:x.at_=o.at_
   ·have:x=o:=r.toTld.same_at (by omega) ho hxm e
    subst this
    rw[Wr rfl]
    exact⟨fun h=>(by rw[hg]at h;cases h),fun h=>(by cases h)⟩
   ·rw[Wp e]
    refine⟨fun _=>rfl,fun _=>⟨rfl,fun i hi=>QD hk (by omega) hj (.inr ?_)⟩⟩
    obtain⟨b,l,_,eb,el,_⟩:=r.toTld.ob (k:=j) (by omega) hxm
    rcases(r.tiles j (by omega)).apart x hxm o ho with e'|e'|e'
    ·rw[e']at e;exact absurd rfl e
    ·left;omega
    ·right;omega
  ·have:j=7-k:=by omega
   subst this
   rw[e4,h1]at h2
   cases h2
   exact⟨fun _=>rfl,fun _=>⟨rfl,fun i _=>by rw[m4]⟩⟩
 ·have h1:=(r.tiles k (by omega)).pairwise
  have hw:=Z24 (t:=fstL (layH h) 1+h.low.length) h1 ho hg
  rw[en,Int.toNat_natCast]at hw
  have hlow:=Z07 hk hal
  unfold YY
  have hk2:k=3∨k=4:=by omega
  rcases hk2 with rfl|rfl
  ·simp only[Pts.at3]at hw
   simp only[Pts.mv,if_true]
   omega
  ·simp only[Pts.at4]at hw
   simp only[Pts.mv,show ¬(4:Int)=3 by omega,if_false]
   omega
theorem qh(r:Body h p)(ho1:Once h p)(hsc:h.scan≤h.low.length){k:Int}(hk:3≤k∧k≤4){o:Ob}(ho:o∈p.at k)(hg:o.gone=false){a n:Nat}(ea:o.at_=a)(en:o.size=n):
  Once (movH h k a (n+1)) (p.mv k o h.low.length (fstL (layH h) 1+h.low.length)):=by
 have e:=r.ext hsc hk ho hg ea en
 have hf:fstL (layH (movH h k a (n+1))) 1=fstL (layH h) 1:=by
  have:=e.fst 1 0 (.inl rfl)
  unfold refR at this
  omega
 intro x hx
 rw[Z1s r hk ho hg,hf]
 rcases List.mem_append.1 hx with hx|hx
 ·have:=r.toTld.low_at hx
  rw[ho1 x hx,if_neg (by omega)]
 ·simp at hx
  subst hx
  simp only
  rw[Z2k r (Int.le_refl _)]
  simp
def Res(g:Hp)(q:Pts)(w v:Int):Prop:=(w=0∧v=0)∨ ∃k o,(k=3∨k=4)∧o∈q.at k∧w=refR (layH g) k o.at_∧o.gone=true∧v=2*o.target+1
structure FwdTo (h:Hp) (p:Pts) (w v:Int) (g:Hp) (q:Pts):Prop where
 fwd:fwd h w=(v,g,0)
 body:Body g q
 once:Once g q
 ext:Ext h p g q
 tgo:Gos g q v 1 2
 zero:v=0↔w=0
 res:(Gos h p w 1 2∧v=w∧g=h∧q=p)∨Res g q w v
theorem Body.forward(r:Body h p)(ho1:Once h p)(hsc:h.scan≤h.low.length){w:Int}(hw:Gos h p w 1 2∨Gos h p w 3 4): ∃v g q,FwdTo h p w v g q:=by
 by_cases h0:w=0
 ·subst h0
  exact⟨0,h,p,Lc r.lay,r,ho1,.refl h p,.inl rfl,by simp,.inr (.inl ⟨rfl,rfl⟩)⟩
 have hw': ∃k o,1≤k∧k≤4∧o∈p.at k∧w=refR (layH h) k o.at_:=by
  rcases hw with (h1| ⟨k,o,hk,ho,e⟩) | (h1| ⟨k,o,hk,ho,e⟩)
  ·exact absurd h1 h0
  ·exact⟨k,o,by omega,by omega,ho,e⟩
  ·exact absurd h1 h0
  ·exact⟨k,o,by omega,by omega,ho,e⟩
 obtain⟨k,o,k1,k4,ho,rfl⟩:=hw'
 by_cases h2:k≤2
 ·exact⟨_,h,p,r.fwd_here ⟨k1,h2⟩ ho,r,ho1,.refl h p,.inr ⟨k,o,by omega,ho,rfl⟩,Iff.rfl,.inl ⟨.inr ⟨k,o,by omega,ho,rfl⟩,rfl,rfl,rfl⟩⟩
 have hk:3≤k∧k≤4:=by omega
 cases hg:o.gone
 ·obtain⟨a,n,m,ea,en,em,hal,_⟩:=r.toTld.ob ⟨k1,k4⟩ ho
  obtain⟨f1,_⟩:=r.fwd_wait hk ho hg ea en
  have e:=r.ext hsc hk ho hg ea en
  have b:=r.move hsc hk ho hg ea en
  have hin:(⟨h.low.length,o.size,o.ptrs,false,0⟩:Ob)∈(p.mv k o h.low.length (fstL (layH h) 1+h.low.length)).low:=List.mem_append_right _ (.head _)
  have hrf:refR (layH h) 1 h.low.length=refR (layH (movH h k a (n+1))) 1 h.low.length:=(e.fst 1 _ (.inl rfl)).symm
  exact⟨_,_,_,f1,b,qh r ho1 hsc hk ho hg ea en,e,.inr ⟨1,_,.inl rfl,hin,hrf⟩,iff_of_false (TV r.lay (by omega)) h0,.inr (.inr ⟨k,_,by omega,by rw[(jt hk o _ _).2.2.1];exact List.mem_map_of_mem ho,by rw[e.fst _ _ (by omega),(Xx _ _ _).1],by rw[Wr rfl],by rw[Wr rfl];rfl⟩)⟩
 ·obtain⟨y,hy,e,_⟩:=r.gone k hk o ho hg
  have hv:2*o.target+1=refR (layH h) 1 y.at_:=by unfold refR;omega
  have hyl:=r.toTld.low_at hy
  refine⟨_,h,p,r.fwd_gone hk ho hg,r,ho1,.refl h p,.inr ⟨1,y,.inl rfl,hy,hv⟩,?_,.inr (.inr ⟨k,o,by omega,ho,rfl,hg,rfl⟩)⟩
  rw[hv]
  exact iff_of_false (TV r.lay hyl.1) h0
end
end Vm
end
section
namespace Vm
open Go Go.Proofs
set_option maxRecDepth 100000
end Vm
end
