import Derived.RangeFuncNested
import Derived.RangeFuncBound
import Derived.RangeFuncLeaves
import Derived.Test.YtjkmonbmpoegjaaGreatChecked
import Derived.WalkKit
import Derived.WalkSpells
import Derived.WalkLawsBesides
import Derived.StillTailTactics
import Derived.Deep.RegionHeld3
import Derived.Deep.AppendLies
import Derived.Deep.Onto
import Derived.Deep.RegionLaw
import Derived.Deep.OwnRows
import Derived.Lib.Hide
import Derived.Lib.AppendZerosOnto
import Derived.Lib.SliceRun
import Derived.Laws.CopyOwn
import Derived.Recover
import Derived.OwnWalkIn
import Derived.TacticsInMore
import Derived.LoopNIn
import Derived.LoopIn
import Derived.Shelf.RegionOpen
import Derived.RecoverIn
import Derived.RangeFuncBox
import Derived.Maps.AppendAt
import Derived.Maps.OwnIn
import Derived.Laws.StructEq
import Derived.Test.YtjkmonbmpoegjaaGreatSScanTells4
set_option linter.unusedSimpArgs false
set_option linter.unusedVariables false
section
namespace Vm
open Go Go.Proofs
set_option maxRecDepth 100000
set_option maxHeartbeats 1000000
theorem zY{w:Int}(hw:U64 w):U64 (adr w).1:=by
 unfold U64 adr at*
 split
 ·simp
 split
 ·simp
 ·simp only;omega
theorem KD{l:Ly}{a:Int}(h:(Zu l a).2.2=0):Z7 l=true∧1≤(Zu l a).1∧(Zu l a).1≤4∧0≤(Zu l a).2.1∧(Zu l a).2.1<sizL l (Zu l a).1∧a=fstL l (Zu l a).1+(Zu l a).2.1:=by
 unfold Zu at*
 cases hr:Z7 l
 ·simp[hr]at h
 simp only[hr]at h⊢
 simp only[Bool.true_eq_false,if_false]at h⊢
 by_cases h1:inL l a 1=true
 ·rw[if_pos h1]
  have:=YI.1 h1
  simp only
  refine⟨trivial,by omega,by omega,by omega,by omega,by omega⟩
 rw[if_neg h1]at h⊢
 by_cases h2:inL l a 2=true
 ·rw[if_pos h2]
  have:=YI.1 h2
  simp only
  refine⟨trivial,by omega,by omega,by omega,by omega,by omega⟩
 rw[if_neg h2]at h⊢
 by_cases h3:inL l a 3=true
 ·rw[if_pos h3]
  have:=YI.1 h3
  simp only
  refine⟨trivial,by omega,by omega,by omega,by omega,by omega⟩
 rw[if_neg h3]at h⊢
 by_cases h4:inL l a 4=true
 ·rw[if_pos h4]
  have:=YI.1 h4
  simp only
  refine⟨trivial,by omega,by omega,by omega,by omega,by omega⟩
 rw[if_neg h4]at h
 simp at h
theorem Yy{h:Hp}{k:Int}(hk:1≤k∧k≤4):sizL (layH h) k=(Z5 h k).length:=by
 have:k=1∨k=2∨k=3∨k=4:=by omega
 rcases this with rfl|rfl|rfl|rfl<;>rfl
def Hp.zero:Hp:=⟨0,0,0,false,0,[],[],[],[],[]⟩
def zr(ws:List Int)(a:Nat):Nat→List Int
 |0=>ws
 |i+1=>(zr ws a i).set (a+i) 0
@[simp] theorem KS(ws:List Int)(a n:Nat):(zr ws a n).length=ws.length:=by
 induction n with
 |zero=>rfl
 |succ n ih=>simp[zr,ih]
def ZG(h:Hp)(part:Int)(a n:Nat):Hp:= {h with low:=h.low++((Z5 h part).take (a+n)).drop a}
def fwdC(h:Hp)(part:Int)(a n:Nat):Int×Hp×Int:=
 if(Z5 h part).length<a+n then(0,Hp.zero,2)
 else if Ye (layH h) <n then(0,Hp.zero,7)
 else
  let to:=(Xm (Zy (layH (ZG h part a n)) 1 h.low.length).1).1
  (to,Ym (ZG h part a n) part ((zr (Z5 h part) a n).set a to),0)
def fwO(r:Int×Hp×Int):V:= .tup [vu r.1,hpV r.2.1,vi r.2.2]
theorem Z0h{l:Ly}{k a:Int}:U64 (Zy l k a).1:=by
 unfold Zy
 cases hr:Z7 l
 ·simp[U64]
 simp only[Bool.true_eq_false,if_false]
 split
 ·simp[U64]
 split
 ·simp[U64]
 ·have:=Zx hr k
  simp only[U64]
  omega
theorem yC{a:Int}:U64 (Xm a).1:=by
 unfold Xm U64
 split
 ·simp
 ·simp only;omega
theorem qE: ∀l:List Int,Vm.flat (l.map vu)=l.map vu
 | []=>rfl
 |a::l=>by
  have:=qE l
  simp only[List.map_cons,Vm.flat]at this⊢
  simp[this]
theorem Z0V(l:List Int):flsV (.sl (l.map vu))=some (.sl (l.map vu)):=by
 unfold flsV
 simp only[qE]
 rw[if_pos]
 simp[V.flatc]
theorem yi{h:Hp}(hh:h.ok){part:Int}(hp:part=3∨part=4){a n:Nat}(ha:a≤1000000)(hn:n≤1000){sh:Int}:VC Tryz.prog 85 false [hpV h,.agg [vi part,vi (a:Int)],shV (n:Int) sh] (fwO (fwdC h part a (n+1))):=by
 refine Z3 Tryz.func85 follows (by kernel_rfl) c85 rfl ?_
 have k1:=Yq (h:=h) (n:=part)
 have hpl:=(Ze hh part).2
 have hpw:=(Ze hh part).1
 unfold fwdC
 obtain⟨m,hm⟩: ∃m,n+1=m:=⟨_,rfl⟩
 obtain⟨b,hb⟩: ∃b,a+m=b:=⟨_,rfl⟩
 have hm':(1:Int)+(n:Int)=((m:Nat):Int):=by omega
 have hb':(a:Int)+(m:Int)=(b:Int):=by omega
 have w1:=Z1 (1+(n:Int)) (by omega) (by omega)
 have w2:=Z1 ((a:Int)+(m:Int)) (by omega) (by omega)
 rw[hm']at w1
 rw[hb']at w2
 rw[hm,hb]
 have hmx:1≤m∧m≤1001:=by omega
 clear hm
 generalize hws:Z5 h part=ws at*
 have hlim:ws.length≤lim:=by unfold lim;omega
 simp[p85,shV]
 refine Z0 k1 (by simp[hpV]) ?_
 by_cases g1:ws.length<b
 ·simp[hm',hb',w1,w2,g1,fwO,hpV,Hp.zero,hlim]
 simp[hm',hb',w1,w2,g1,hlim]
 refine Z0 (Y9 (h:=h)) (by simp[hpV]) ?_
 simp
 refine Z0 (Jy hh.lay) (by simp) ?_
 by_cases g2:Ye (layH h) <m
 ·simp[g2,fwO,hpV,Hp.zero]
 have hl:=hh.low
 have hlim2:h.low.length≤lim:=by unfold lim;omega
 have hlim3:h.low.length+(b-a)≤lim:=by unfold lim;omega
 simp[g2,hm',hb',w2,show a≤b by omega,show b≤ws.length by omega,hlim2,hlim3]
 have hmo:ZG h part a m= {h with low:=h.low++(ws.take b).drop a}:=by unfold ZG;rw[hb,hws]
 have hmv:(ZG h part a m).ok:=by
  rw[hmo]
  have hrl:Z7 (layH h)=true:=by
   cases hr:Z7 (layH h)
   ·have:Ye (layH h)=0:=by unfold Ye;rw[hr];rfl
    omega
   ·rfl
  have hrm:Ye (layH h)=(layH h).cap- (layH h).low- (layH h).high:=by unfold Ye;rw[hrl];rfl
  have hri:=Zp.1 hrl
  have q1:(layH h).low=h.low.length:=rfl
  have q2:(layH h).high=h.high.length:=rfl
  exact⟨hh.base,hh.cap,hh.to,hh.scan,by simp;omega,hh.high,hh.old,hh.far,hh.roots,by
   intro w hw
   rcases List.mem_append.1 hw with hw|hw
   ·exact hh.lowW w hw
   ·exact hpw w (List.mem_of_mem_take (List.mem_of_mem_drop hw)),hh.highW,hh.oldW,hh.farW,hh.rootsW⟩
 have k2:=Y9 (h:=ZG h part a m)
 have e1:List.drop a (List.take b (ws.map vu))=((ws.take b).drop a).map vu:=by rw[←List.map_take,←List.map_drop]
 have hlen:((ws.take b).drop a).length=b-a:=by simp;omega
 have e2:flsV (.sl (((ws.take b).drop a).map vu))=some (.sl (((ws.take b).drop a).map vu)):=Z0V _
 have e3:appV 1 (.sl (h.low.map vu)) (.sl (((ws.take b).drop a).map vu))=some (.sl ((h.low++(ws.take b).drop a).map vu)):=by
  simp[-List.map_drop,-List.map_take,appV,hlen,hlim3]
 rw[e1,e2]
 simp[-List.map_drop,-List.map_take,-List.map_append,e3]
 unfold hpV at k2
 rw[hmo]at k2
 refine Z0 k2 (by simp;rfl) ?_
 rw[←hmo]
 generalize hL:h.low++(ws.take b).drop a=L at*
 simp
 refine Z0 (Vn hmv.lay (part:=1) (at_:=(h.low.length:Int))) (by simp) ?_
 simp
 refine Z0 (Ty Z0h) (by simp) ?_
 simp
 generalize (Xm (Zy (layH (ZG h part a m)) 1 (h.low.length:Int)).1).1=to at*
 refine ZX 18 m (fun i=> [(9,.v (.sl ((zr ws a i).map vu))),(18,.v (vi i))]) (fun _=>True) (by simp[zr]) (by simp) trivial ?_
 intro i hi _
 have hwi:=Z1 ((i:Int)+1) (by omega) (by omega)
 by_cases hlt:i<m
 ·have hwa:=Z1 ((a:Int)+(i:Int)) (by omega) (by omega)
  obtain⟨q,hq⟩: ∃q,a+i=q:=⟨_,rfl⟩
  have hq':(a:Int)+(i:Int)=(q:Int):=by omega
  rw[hq']at hwa
  have hql:q< (zr ws a i).length:=by simp;omega
  have hql':q<ws.length:=by simpa using hql
  simp[hlt,hwi,hq',hwa,hql,hql',zr,hq,yX]
 ·have:i=m:=by omega
  subst this
  have hal:a<ws.length:=by omega
  have k3:=Tw (h:=ZG h part a i) (n:=part) (l:=(zr ws a i).set a to)
  unfold hpV at k3
  rw[hmo]at k3
  simp[hal,yX]
  rw[←List.map_set]
  refine Z0 k3 (by simp) ?_
  simp[fwO,hmo,hpV]
def fwd(h:Hp)(w:Int):Int×Hp×Int:=
 if Z7 (layH h)=false then(0,Hp.zero,1)
 else if w=0 then(0,h,0)
 else if(adr w).2≠0 then(0,Hp.zero,3)
 else if(Zu (layH h) (adr w).1).2.2≠0 then(0,Hp.zero,6)
 else if(Zu (layH h) (adr w).1).1<3 then(w,h,0)
 else if(adr ((Z5 h (Zu (layH h) (adr w).1).1).getD (Zu (layH h) (adr w).1).2.1.toNat 0)).2=0 then((Z5 h (Zu (layH h) (adr w).1).1).getD (Zu (layH h) (adr w).1).2.1.toNat 0,h,0)
 else if(unpk ((Z5 h (Zu (layH h) (adr w).1).1).getD (Zu (layH h) (adr w).1).2.1.toNat 0)).2.2≠0 then(0,Hp.zero,3)
 else fwdC h (Zu (layH h) (adr w).1).1 (Zu (layH h) (adr w).1).2.1.toNat ((unpk ((Z5 h (Zu (layH h) (adr w).1).1).getD (Zu (layH h) (adr w).1).2.1.toNat 0)).1.toNat+1)
theorem RC{h:Hp}(hh:h.ok){w:Int}(hw:U64 w):VC Tryz.prog 57 false [hpV h,vu w] (fwO (fwd h w)):=by
 refine Z3 Tryz.func57 follows (by kernel_rfl) c57 rfl ?_
 unfold fwd
 simp[p57]
 refine Z0 (Y9 (h:=h)) (by simp[hpV]) ?_
 simp
 refine Z0 (YT hh.lay) (by simp) ?_
 cases hr:Z7 (layH h)
 ·simp[fwO,hpV,Hp.zero]
 by_cases h0:w=0
 ·simp[h0,fwO,hpV]
 simp[h0]
 refine Z0 (XJ hw) (by simp) ?_
 by_cases h1:(adr w).2=0
 case neg=>simp[h1,fwO,hpV,Hp.zero]
 have hau:=zY hw
 simp[h1]
 generalize (adr w).1=a at*
 refine Z0 (Y9 (h:=h)) (by simp[hpV]) ?_
 simp
 refine Z0 (JZ hh.lay hau) (by simp) ?_
 by_cases h2:(Zu (layH h) a).2.2=0
 case neg=>simp[h2,fwO,hpV,Hp.zero]
 have hf:=KD h2
 simp[h2]
 generalize hp:(Zu (layH h) a).1=part at*
 obtain⟨_,f1,f2,f3,f4,f5⟩:=hf
 rw[Yy ⟨f1,f2⟩]at f4
 obtain⟨k,hk⟩:=Int.eq_ofNat_of_zero_le f3
 rw[hk]at f4⊢
 by_cases h3:part<3
 ·simp[h3,fwO,hpV]
 have hkl:k< (Z5 h part).length:=by omega
 have hx:(Z5 h part)[k]? =some (Z5 h part)[k]:=List.getElem?_eq_getElem hkl
 have hv:=(Ze hh part).1 _ (List.getElem_mem hkl)
 simp[h3]
 refine Z0 (Yq (h:=h) (n:=part)) (by simp[hpV]) ?_
 have hk6:=(Ze hh part).2
 have c2:=fun n (hn:n≤1000) sh=>yi hh (part:=part) (by omega) (a:=k) (n:=n) (by omega) hn (sh:=sh)
 generalize hws:Z5 h part=ws at*
 generalize hvv:ws[k]=v at*
 simp[hkl,hvv,hx]
 refine Z0 (XJ hv) (by simp) ?_
 by_cases h4:(adr v).2=0
 ·simp[h4,fwO,hpV]
 simp[h4]
 refine Z0 (Uf hv) (by simp) ?_
 by_cases h5:(unpk v).2.2=0
 case neg=>simp[h5,fwO,hpV,Hp.zero]
 have hu:=Z2.1 (Uc h5)
 simp[h5,shV]
 obtain⟨n,hn⟩:=Int.eq_ofNat_of_zero_le hu.1
 have c3:=c2 n (by omega) (unpk v).2.1
 unfold shV at c3
 rw[hn]
 refine Z0 c3 (by simp[hpV]) ?_
 simp[fwO,hpV]
end Vm
namespace Vm
open Go Go.Proofs
set_option maxRecDepth 100000
set_option maxHeartbeats 1000000
@[simp] theorem Z5A(k:IntKind)(a b c d e f:Int):aiV (.agg [.int k a,.int k b,.int k c,.int k d,.int k e,.int k f]) (.int .i64 0) 6 1 false=some (.int k a):=rfl
@[simp] theorem Z5o(a b c d e f:Bool):aiV (.agg [.bool a,.bool b,.bool c,.bool d,.bool e,.bool f]) (.int .i64 0) 6 1 false=some (.bool a):=rfl
@[simp] theorem Z5J(k:IntKind)(a b c d e f:Int):aiV (.agg [.int k a,.int k b,.int k c,.int k d,.int k e,.int k f]) (.int .i64 1) 6 1 false=some (.int k b):=rfl
@[simp] theorem Z5a(a b c d e f:Bool):aiV (.agg [.bool a,.bool b,.bool c,.bool d,.bool e,.bool f]) (.int .i64 1) 6 1 false=some (.bool b):=rfl
@[simp] theorem Z5F(k:IntKind)(a b c d e f:Int):aiV (.agg [.int k a,.int k b,.int k c,.int k d,.int k e,.int k f]) (.int .i64 2) 6 1 false=some (.int k c):=rfl
@[simp] theorem Z5g(a b c d e f:Bool):aiV (.agg [.bool a,.bool b,.bool c,.bool d,.bool e,.bool f]) (.int .i64 2) 6 1 false=some (.bool c):=rfl
@[simp] theorem Z5I(k:IntKind)(a b c d e f:Int):aiV (.agg [.int k a,.int k b,.int k c,.int k d,.int k e,.int k f]) (.int .i64 3) 6 1 false=some (.int k d):=rfl
@[simp] theorem Z5c(a b c d e f:Bool):aiV (.agg [.bool a,.bool b,.bool c,.bool d,.bool e,.bool f]) (.int .i64 3) 6 1 false=some (.bool d):=rfl
@[simp] theorem Z5v(k:IntKind)(a b c d e f:Int):aiV (.agg [.int k a,.int k b,.int k c,.int k d,.int k e,.int k f]) (.int .i64 4) 6 1 false=some (.int k e):=rfl
@[simp] theorem Z5f(a b c d e f:Bool):aiV (.agg [.bool a,.bool b,.bool c,.bool d,.bool e,.bool f]) (.int .i64 4) 6 1 false=some (.bool e):=rfl
@[simp] theorem Z5w(k:IntKind)(a b c d e f:Int):aiV (.agg [.int k a,.int k b,.int k c,.int k d,.int k e,.int k f]) (.int .i64 5) 6 1 false=some (.int k f):=rfl
@[simp] theorem Z5h(a b c d e f:Bool):aiV (.agg [.bool a,.bool b,.bool c,.bool d,.bool e,.bool f]) (.int .i64 5) 6 1 false=some (.bool f):=rfl
end Vm
namespace Vm
open Go Go.Proofs
set_option maxRecDepth 100000
set_option maxHeartbeats 1000000
def Qf(h:Hp)(which x w:Int):Hp:=
 if pick (which.tdiv 4) 11=0 then {h with cycle:= !h.cycle}
 else if pick (which.tdiv 4) 11=1 then {h with scan:=x}
 else if pick (which.tdiv 4) 11=2 then {h with cap:=x}
 else if pick (which.tdiv 4) 11=3 then {h with to:=x}
 else if pick (which.tdiv 4) 11=4 then {h with roots:=h.roots++ [w]}
 else if pick (which.tdiv 4) 11=5 then Ym h (1+pick which 4) (Z5 h (1+pick which 4)++ [w])
 else if pick (which.tdiv 4) 11=6 then Ym h (1+pick which 4) ((Z5 h (1+pick which 4)).take (pick x ((Z5 h (1+pick which 4)).length+1)).toNat)
 else if Z5 h (1+pick which 4)= []then h
 else Ym h (1+pick which 4) ((Z5 h (1+pick which 4)).set (pick x (Z5 h (1+pick which 4)).length).toNat w)
theorem T9{h:Hp}(hh:h.ok){k:Int}{l:List Int}(h1:l.length≤1000000)(h2: ∀w∈l,U64 w):(Ym h k l).ok:=by
 obtain⟨a1,a2,a3,a4,a5,a6,a7,a8,a9,b1,b2,b3,b4,b5⟩:=hh
 unfold Ym
 split
 ·exact⟨a1,a2,a3,a4,h1,a6,a7,a8,a9,h2,b2,b3,b4,b5⟩
 split
 ·exact⟨a1,a2,a3,a4,a5,h1,a7,a8,a9,b1,h2,b3,b4,b5⟩
 split
 ·exact⟨a1,a2,a3,a4,a5,a6,h1,a8,a9,b1,b2,h2,b4,b5⟩
 ·exact⟨a1,a2,a3,a4,a5,a6,a7,h1,a9,b1,b2,b3,h2,b5⟩
theorem yG{h:Hp}(hh:h.ok)(hs: ∀k,(Z5 h k).length≤999999)(hro:h.roots.length≤999999){which x w:Int}(hx:Fit x)(hw:U64 w):(Qf h which x w).ok:=by
 have hp:=Ze hh (1+pick which 4)
 have hs:=hs (1+pick which 4)
 have hho:=hh
 obtain⟨a1,a2,a3,a4,a5,a6,a7,a8,a9,b1,b2,b3,b4,b5⟩:=hh
 unfold Qf
 split
 ·exact⟨a1,a2,a3,a4,a5,a6,a7,a8,a9,b1,b2,b3,b4,b5⟩
 split
 ·exact⟨a1,a2,a3,hx,a5,a6,a7,a8,a9,b1,b2,b3,b4,b5⟩
 split
 ·exact⟨a1,hx,a3,a4,a5,a6,a7,a8,a9,b1,b2,b3,b4,b5⟩
 split
 ·exact⟨a1,a2,hx,a4,a5,a6,a7,a8,a9,b1,b2,b3,b4,b5⟩
 split
 ·refine⟨a1,a2,a3,a4,a5,a6,a7,a8,by simp;omega,b1,b2,b3,b4,?_⟩
  intro v hv
  rcases List.mem_append.1 hv with hv|hv
  ·exact b5 v hv
  ·simp at hv;subst hv;exact hw
 split
 ·refine T9 hho (by simp;omega) ?_
  intro v hv
  rcases List.mem_append.1 hv with hv|hv
  ·exact hp.1 v hv
  ·simp at hv;subst hv;exact hw
 split
 ·exact T9 hho (by simp;omega) fun v hv=>hp.1 v (List.mem_of_mem_take hv)
 split
 ·exact hho
 ·refine T9 hho (by simp;omega) fun v hv=> ?_
  rcases List.mem_or_eq_of_mem_set hv with hv|hv
  ·exact hp.1 v hv
  ·subst hv;exact hw
theorem qn{c:Int}(h:Fit c):Fit (c.tdiv 4):=by
 unfold Fit at*
 rcases Int.le_total 0 c with h0|h0
 ·rw[Int.tdiv_eq_ediv_of_nonneg h0];omega
 ·have e:c= -(-c):=by omega
  have:c.tdiv 4= -((-c) / 4):=by
   conv=>lhs;rw[e]
   rw[Int.neg_tdiv,Int.tdiv_eq_ediv_of_nonneg (by omega)]
  omega
theorem qh{h:Hp}(hh:h.ok){which x w:Int}(hwh:Fit which)(hx:Fit x):VC Tryz.prog 9 false [hpV h,vi which,vi x,vu w] (hpV (Qf h which x w)):=by
 refine Z3 Tryz.func9 follows (by kernel_rfl) c9 rfl ?_
 have hpk:=YW (c:=which) (n:=4) (by omega)
 have hq:Fit (which.tdiv 4):=by
  exact qn hwh
 have hpl:=(Ze hh (1+pick which 4)).2
 unfold Qf
 simp[p9]
 refine Z0 (Yx hwh (n:=4) (by omega)) (by simp) ?_
 have w1:=Z1 (1+pick which 4) (by omega) (by omega)
 have w2:=Z1 (which.tdiv 4) (by unfold Fit at hq;omega) (by unfold Fit at hq;omega)
 simp[w1]
 refine Z0 (Yq (h:=h) (n:=1+pick which 4)) (by simp[hpV]) ?_
 have k5:=fun l=>Tw (h:=h) (n:=1+pick which 4) (l:=l)
 generalize Z5 h (1+pick which 4)=l at*
 generalize 1+pick which 4=part at*
 have hlim:l.length+1≤lim:=by unfold lim;omega
 have hlim':l.length≤lim:=by unfold lim;omega
 have hrl:h.roots.length+1≤lim:=by have:=hh.roots;unfold lim;omega
 have hrl':h.roots.length≤lim:=by omega
 simp[hlim',w2]
 refine Z0 (Yx hq (n:=11) (by omega)) (by simp) ?_
 generalize pick (which.tdiv 4) 11=q at*
 unfold hpV at k5
 by_cases h0:q=0
 ·simp[h0,hpV]
 by_cases h1:q=1
 ·simp[h1,hpV]
 by_cases h2:q=2
 ·simp[h2,hpV]
 by_cases h3:q=3
 ·simp[h3,hpV]
 by_cases h4:q=4
 ·simp[h4,hpV,hrl,hrl']
 by_cases h5:q=5
 ·have k6:=k5 (l++ [w])
  simp at k6
  simp[h5,hlim]
  refine Z0 k6 (by simp) ?_
  simp[hpV]
 by_cases h6:q=6
 ·have hpp:=YW (c:=x) (n:=(l.length:Int)+1) (by omega)
  have w3:=Z1 ((l.length:Int)+1) (by omega) (by omega)
  simp[h6,w3]
  refine Z0 (Yx hx (n:=(l.length:Int)+1) (by omega)) (by simp) ?_
  obtain⟨m,hm⟩:=Int.eq_ofNat_of_zero_le hpp.1
  rw[hm]at hpp⊢
  have k6:=k5 (l.take m)
  simp at k6
  simp[show m≤l.length by omega]
  refine Z0 k6 (by simp) ?_
  simp[hpV]
 simp[h0,h1,h2,h3,h4,h5,h6]
 by_cases h7:l= []
 ·simp[h7,hpV]
 ·have hpos:0<l.length:=List.length_pos_iff.2 h7
  have hpp:=YW (c:=x) (n:=(l.length:Int)) (by omega)
  simp[h7,hpos]
  refine Z0 (Yx hx (n:=(l.length:Int)) (by omega)) (by simp) ?_
  obtain⟨m,hm⟩:=Int.eq_ofNat_of_zero_le hpp.1
  rw[hm]at hpp⊢
  have k6:=k5 (l.set m w)
  simp at k6
  simp[show m<l.length by omega]
  refine Z0 k6 (by simp) ?_
  simp[hpV]
end Vm
end
section
namespace Vm
open Go Go.Proofs
set_option maxRecDepth 100000
theorem Sj{n:Nat}{x:V}(h:tyV Tryz.prog (n+1) 3 x): ∃m,x=vi m∧Fit m:=by
 obtain⟨m,rfl,h1,h2⟩:=Z0p Tryz.underlying3 h
 exact⟨m,rfl,h1,h2⟩
theorem jf{n:Nat}{x:V}(h:tyV Tryz.prog (n+1) 22 x): ∃m,x=vu m∧U64 m:=by
 obtain⟨m,rfl,h1,h2⟩:=Z0p Tryz.underlying22 h
 exact⟨m,rfl,h1,Int.lt_of_le_of_lt h2 (by decide)⟩
theorem yz{n:Nat}{x:V}(h:tyV Tryz.prog (n+2) 27 x): ∃l:List Int,x= .sl (l.map vi)∧l.length≤maxLen∧ ∀p∈l,Fit p:=
 R5 Tryz.underlying27 h fun y hy=>Sj hy
theorem SA{n:Nat}{x:V}(h:tyV Tryz.prog (n+2) 23 x): ∃l:List Int,x= .sl (l.map vu)∧l.length≤maxLen∧ ∀p∈l,U64 p:=
 R5 Tryz.underlying23 h fun y hy=>jf hy
def Nd.fits(x:Nd):Prop:=(x.ptrs.length≤maxLen∧ ∀p∈x.ptrs,Fit p)∧x.data.length≤maxLen∧ ∀p∈x.data,U64 p
theorem Z2m{n:Nat}{x:V}(h:tyV Tryz.prog (n+3) 139 x): ∃a:Nd,x=ndV a∧a.fits:=by
 obtain⟨ys,rfl,hl,hf⟩:=Tc Tryz.underlying139 h
 match ys,hl with
 | [a,b],_=>
   obtain⟨ps,rfl,h1,h2⟩:=yz (hf 0 _ a rfl rfl)
   obtain⟨ds,rfl,h3,h4⟩:=SA (hf 1 _ b rfl rfl)
   exact⟨⟨ps,ds⟩,rfl,⟨h1,h2⟩,h3,h4⟩
theorem Z0P{n:Nat}{x:V}(h:tyV Tryz.prog (n+4) 26 x): ∃l:List Nd,x= .sl (l.map ndV)∧l.length≤maxLen∧ ∀a∈l,a.fits:=
 R5 Tryz.underlying26 h fun y hy=>Z2m hy
theorem Z4L{n:Nat}{x:V}(h:tyV Tryz.prog (n+5) 29 x): ∃r:Rw,x=rwV r∧r.ok:=by
 obtain⟨ys,rfl,hl,hf⟩:=Tc Tryz.underlying29 h
 match ys,hl with
 | [a,b,c,d,e,f,g],_=>
   obtain⟨ns,rfl,_,h0⟩:=Z0P (hf 0 _ a rfl rfl)
   obtain⟨rs,rfl,_,h1⟩:=yz (hf 1 _ b rfl rfl)
   obtain⟨cs,rfl,_,h2⟩:=yz (hf 2 _ c rfl rfl)
   obtain⟨d,rfl,h3⟩:=jf (hf 3 _ d rfl rfl)
   obtain⟨e,rfl,h4⟩:=Sj (hf 4 _ e rfl rfl)
   obtain⟨f,rfl,h5⟩:=Sj (hf 5 _ f rfl rfl)
   obtain⟨g,rfl,h6⟩:=Sj (hf 6 _ g rfl rfl)
   exact⟨⟨ns,rs,cs,d,e,f,g⟩,rfl,fun n hn p hp=>(h0 n hn).1.2 p hp,fun n hn p hp=>(h0 n hn).2.2 p hp,h1,h2,h3,h4,h5,h6⟩
theorem own:ownKnob Tryz.prog.godebug=none:=by kernel_rfl
theorem laidOut:laidOutB Tryz.prog=true:=by kernel_rfl
end Vm
end
section
namespace Vm
open Go Go.Proofs
set_option maxRecDepth 100000
set_option maxHeartbeats 1000000
theorem Hp.zero_ok:Hp.zero.ok:=by
 refine⟨?_,?_,?_,?_,?_,?_,?_,?_,?_,?_,?_,?_,?_,?_⟩<;>simp[Hp.zero,U64,Fit]
theorem KP{h:Hp}(hh:h.ok){part:Int}{a n:Nat}(h1:a+n≤(Z5 h part).length)(h2:(n:Int)≤Ye (layH h))(hn:0<n):(ZG h part a n).ok:=by
 have hrl:Z7 (layH h)=true:=by
  cases hr:Z7 (layH h)
  ·have:Ye (layH h)=0:=by unfold Ye;rw[hr];rfl
   omega
  ·rfl
 have hrm:Ye (layH h)=(layH h).cap- (layH h).low- (layH h).high:=by unfold Ye;rw[hrl];rfl
 have hri:=Zp.1 hrl
 have q1:(layH h).low=h.low.length:=rfl
 have q2:(layH h).high=h.high.length:=rfl
 refine⟨hh.base,hh.cap,hh.to,hh.scan,?_,hh.high,hh.old,hh.far,hh.roots,?_,hh.highW,hh.oldW,hh.farW,hh.rootsW⟩
 ·simp only[ZG,List.length_append,List.length_drop,List.length_take]
  omega
 ·intro w hw
  simp only[ZG]at hw
  rcases List.mem_append.1 hw with hw|hw
  ·exact hh.lowW w hw
  ·exact(Ze hh part).1 w (List.mem_of_mem_take (List.mem_of_mem_drop hw))
theorem zr_u{ws:List Int}{a:Nat}(h: ∀w∈ws,U64 w): ∀n,∀w∈zr ws a n,U64 w
 |0=>h
 |n+1=>by
  intro w hw
  rcases List.mem_or_eq_of_mem_set hw with hw|hw
  ·exact zr_u h n w hw
  ·subst hw;unfold U64;omega
theorem Z1f{h:Hp}(hh:h.ok){part:Int}{a n:Nat}(hn:0<n):(fwdC h part a n).2.1.ok∧U64 (fwdC h part a n).1:=by
 unfold fwdC
 split
 ·exact⟨Hp.zero_ok,by simp[U64]⟩
 split
 ·exact⟨Hp.zero_ok,by simp[U64]⟩
 ·rename_i g1 g2
  have hp:=Ze hh part
  refine⟨T9 (KP hh (by omega) (by omega) hn) (by simp;omega) ?_,yC⟩
  intro w hw
  rcases List.mem_or_eq_of_mem_set hw with hw|hw
  ·exact zr_u hp.1 _ w hw
  ·subst hw;exact yC
theorem zB{h:Hp}(hh:h.ok){w:Int}(hw:U64 w):(fwd h w).2.1.ok∧U64 (fwd h w).1:=by
 unfold fwd
 split
 ·exact⟨Hp.zero_ok,by simp[U64]⟩
 split
 ·exact⟨hh,by simp[U64]⟩
 split
 ·exact⟨Hp.zero_ok,by simp[U64]⟩
 split
 ·exact⟨Hp.zero_ok,by simp[U64]⟩
 split
 ·exact⟨hh,hw⟩
 split
 ·refine⟨hh,?_⟩
  generalize (Zu (layH h) (adr w).1).2.1.toNat=k
  have hp:=(Ze hh (Zu (layH h) (adr w).1).1).1
  generalize Z5 h (Zu (layH h) (adr w).1).1=ws at*
  by_cases hk:k<ws.length
  ·have e:ws.getD k 0=ws[k]:=by simp[List.getD,hk]
   simp only[e]
   exact hp _ (List.getElem_mem hk)
  ·have e:ws.getD k 0=0:=by simp[List.getD,hk]
   simp only[e]
   unfold U64;omega
 split
 ·exact⟨Hp.zero_ok,by simp[U64]⟩
 ·exact Z1f hh (by omega)
theorem jp{x:Rw}(hx:x.ok):(JP x).ok∧Z7 (layH (JP x))=true∧(JP x).roots.length≤5:=by
 have key: ∀c,(Ur x (XU x c)).ok∧Z7 (layH (Ur x (XU x c)))=true∧(Ur x (XU x c)).roots.length≤5:=fun c=>by
  obtain⟨h1,h2,h3⟩:=RN hx c
  obtain⟨k1,k2,_,_⟩:=Z03 (x:=x) h1 h2
  refine⟨k1,by rw[k2];exact h3,?_⟩
  simp only[Ur,List.length_map]
  exact h1.rl
 unfold JP qd
 split
 ·exact key false
 ·exact key true
theorem zL{h:Hp}(hr:Z7 (layH h)=true)(k:Int):(Z5 h k).length≤4096:=by
 have:=Zp.1 hr
 have q1:(layH h).low=h.low.length:=rfl
 have q2:(layH h).high=h.high.length:=rfl
 have q3:(layH h).old=h.old.length:=rfl
 have q4:(layH h).far=h.far.length:=rfl
 unfold Z5
 split
 ·omega
 split
 ·omega
 split<;>omega
end Vm
end
section
namespace Vm
open Go
open Go.Proofs
set_option maxRecDepth 100000
def p26:Fn:=⟨5,[0,1,2,3,4],
(.seq
(.reg ⟨[],[],[(1,.m [(.fld (.sz (.s 0) 10) 0),(.fld (.sz (.s 0) 10) 1),(.fld (.sz (.s 0) 10) 2),(.fld (.sz (.s 0) 10) 3),(.fld (.sz (.s 0) 10) 4),(.fld (.sz (.s 0) 10) 5),(.fld (.sz (.s 0) 10) 6),(.fld (.sz (.s 0) 10) 7),(.fld (.sz (.s 0) 10) 8),(.fld (.sz (.s 0) 10) 9)]),(2,.v (.c (.bool false)))]⟩)
(.seq
(.reg ⟨[.call 5 [] (.id 43) false false [(.mm 1 0 10)]],[],[(3,.v (.ext (.s 5) 0)),(4,.v (.ext (.s 5) 1))]⟩)
(.seq
(.reg ⟨[],[],[(2,.v (.s 4))]⟩)
.ret))),
[(2,.v)]⟩
theorem c26:Z8 Tryz.prog fresh sig [.fz] [] Tryz.f26=some p26:=by kernel_rfl
def p43:Fn:=⟨12,[0,1,2,3,13,4,16,15,17,6,14,24],
(.seq
(.reg ⟨[],[],[(1,.m [(.fld (.sz (.s 0) 10) 0),(.fld (.sz (.s 0) 10) 1),(.fld (.sz (.s 0) 10) 2),(.fld (.sz (.s 0) 10) 3),(.fld (.sz (.s 0) 10) 4),(.fld (.sz (.s 0) 10) 5),(.fld (.sz (.s 0) 10) 6),(.fld (.sz (.s 0) 10) 7),(.fld (.sz (.s 0) 10) 8),(.fld (.sz (.s 0) 10) 9)]),(2,.v (.c (.nul 0))),(3,.v (.c (.bool false)))]⟩)
(.seq
(.reg ⟨[.call 12 [] (.id 33) false false [(.mm 1 0 10)]],[([],(.ag [(.fld (.mm 1 0 10) 0),(.fld (.mm 1 0 10) 1),(.fld (.mm 1 0 10) 2),(.fld (.mm 1 0 10) 3),(.fld (.mm 1 0 10) 4),(.fld (.mm 1 0 10) 5),(.fld (.mm 1 0 10) 6),(.fld (.mm 1 0 10) 7),(.fld (.mm 1 0 10) 8),(.fld (.mm 1 0 10) 9),(.fld (.sz (.s 12) 7) 0),(.fld (.sz (.s 12) 7) 1),(.fld (.sz (.s 12) 7) 2),(.fld (.sz (.s 12) 7) 3),(.fld (.sz (.s 12) 7) 4),(.fld (.sz (.s 12) 7) 5),(.fld (.sz (.s 12) 7) 6),(.c (.sl [])),(.c (.sl [])),(.c (.sl [])),(.c (.sl [])),(.c (.mp 0 [] [])),(.c (.mp 0 [] []))]))],[(5,.m [(.fld (.mm 1 0 10) 0),(.fld (.mm 1 0 10) 1),(.fld (.mm 1 0 10) 2),(.fld (.mm 1 0 10) 3),(.fld (.mm 1 0 10) 4),(.fld (.mm 1 0 10) 5),(.fld (.mm 1 0 10) 6),(.fld (.mm 1 0 10) 7),(.fld (.mm 1 0 10) 8),(.fld (.mm 1 0 10) 9),(.fld (.sz (.s 12) 7) 0),(.fld (.sz (.s 12) 7) 1),(.fld (.sz (.s 12) 7) 2),(.fld (.sz (.s 12) 7) 3),(.fld (.sz (.s 12) 7) 4),(.fld (.sz (.s 12) 7) 5),(.fld (.sz (.s 12) 7) 6),(.c (.sl [])),(.c (.sl [])),(.c (.sl [])),(.c (.sl [])),(.c (.mp 0 [] [])),(.c (.mp 0 [] []))])]⟩)
(.seq
(.seq
(.reg ⟨[.call 10 [] (.id 69) false false []],[],[(6,.v (.c (.int .i64 (0)))),(7,.v (.len (.s 10)))]⟩)
(.block 0
 (.loop [0,1,2,3,5,6,7,10]
  (.seq
  (.reg ⟨[],[],[(8,.v (.bin .lss (.s 6) (.s 7)))]⟩)
  (.seq
  (.cond (.s 8)
   .skip
   (.exit 0))
  (.seq
  (.block 1
   (.seq
   (.reg ⟨[],[],[(9,.m [(.fld (.flds (.idx (.s 10) (.s 6) 1) 0 1) 0)])]⟩)
   (.seq
   (.reg ⟨[.callm 13 [] (.e (.m 9 0)) [(.mem [.fz,.fz,.fz,.fz,.fz,.fz,.fz,.fz,.fz,.fz,.fz,.fz,.fz,.fz,.fz,.fz,.fz,.fz,.fz,.fz,.fz,(.own 127),(.own 128)])] [(.ag [(.m 5 0),(.m 5 1),(.m 5 2),(.m 5 3),(.m 5 4),(.m 5 5),(.m 5 6),(.m 5 7),(.m 5 8),(.m 5 9),(.m 5 10),(.m 5 11),(.m 5 12),(.m 5 13),(.m 5 14),(.m 5 15),(.m 5 16),(.m 5 17),(.m 5 18),(.m 5 19),(.m 5 20),(.m 5 21),(.m 5 22)])]],[],[(5,.m [(.fld (.ext (.s 13) 1) 0),(.fld (.ext (.s 13) 1) 1),(.fld (.ext (.s 13) 1) 2),(.fld (.ext (.s 13) 1) 3),(.fld (.ext (.s 13) 1) 4),(.fld (.ext (.s 13) 1) 5),(.fld (.ext (.s 13) 1) 6),(.fld (.ext (.s 13) 1) 7),(.fld (.ext (.s 13) 1) 8),(.fld (.ext (.s 13) 1) 9),(.fld (.ext (.s 13) 1) 10),(.fld (.ext (.s 13) 1) 11),(.fld (.ext (.s 13) 1) 12),(.fld (.ext (.s 13) 1) 13),(.fld (.ext (.s 13) 1) 14),(.fld (.ext (.s 13) 1) 15),(.fld (.ext (.s 13) 1) 16),(.fld (.ext (.s 13) 1) 17),(.fld (.ext (.s 13) 1) 18),(.fld (.ext (.s 13) 1) 19),(.fld (.ext (.s 13) 1) 20),(.fld (.ext (.s 13) 1) 21),(.fld (.ext (.s 13) 1) 22)]),(11,.v (.un .not (.ext (.s 13) 0)))]⟩)
   (.cond (.s 11)
    (.seq
    (.reg ⟨[],[],[(2,.v (.c (.nul 0))),(3,.v (.c (.bool false)))]⟩)
    .ret)
    .skip))))
  (.reg ⟨[],[],[(6,.v (.bin .add (.s 6) (.c (.int .i64 (1)))))]⟩)))))))
(.seq
(.reg ⟨[],[],[(2,.v (.pt none [(.m 5 0),(.m 5 1),(.m 5 2),(.m 5 3),(.m 5 4),(.m 5 5),(.m 5 6),(.m 5 7),(.m 5 8),(.m 5 9),(.m 5 10),(.m 5 11),(.m 5 12),(.m 5 13),(.m 5 14),(.m 5 15),(.m 5 16),(.m 5 17),(.m 5 18),(.m 5 19),(.m 5 20),(.m 5 21),(.m 5 22)])),(3,.v (.c (.bool true))),(5,.no)]⟩)
.ret)))),
[(2,.v),(3,.v)]⟩
theorem c43:Z8 Tryz.prog fresh sig [.fz] [] Tryz.f43=some p43:=by kernel_rfl
def p69:Fn:=⟨1,[0],
(.seq
(.reg ⟨[],[],[(0,.v (.c (.sl [])))]⟩)
(.seq
(.reg ⟨[],[],[(0,.v (.lit [(.ag [(.c (.fn 89))]),(.ag [(.c (.fn 90))]),(.ag [(.c (.fn 91))]),(.ag [(.c (.fn 92))]),(.ag [(.c (.fn 93))]),(.ag [(.c (.fn 94))]),(.ag [(.c (.fn 95))]),(.ag [(.c (.fn 96))])]))]⟩)
.ret)),
[(0,.v)]⟩
theorem c69:Z8 Tryz.prog fresh sig [] [] Tryz.f69=some p69:=by kernel_rfl
def p89:Fn:=⟨2,[0,2],
(.seq
(.reg ⟨[],[],[(1,.v (.c (.bool false)))]⟩)
(.seq
(.reg ⟨[.call 2 [] (.id 58) false false [(.flds (.star (.s 0)) 10 7)],.lt 3 [] (.s 2),.lt 4 [] (.ite (.s 3) (.bin .leq (.len (.fld (.star (.s 0)) 9)) (.c (.int .i64 (16)))) (.c (.bool false))),.lt 5 [] (.ite (.s 4) (.bin .geq (.fld (.star (.s 0)) 4) (.c (.int .i64 (0)))) (.c (.bool false)))],[([(3,true)],(.bin .leq (.len (.fld (.star (.s 0)) 9)) (.c (.int .i64 (16))))),([(4,true)],(.bin .geq (.fld (.star (.s 0)) 4) (.c (.int .i64 (0))))),([(5,true)],(.bin .leq (.fld (.star (.s 0)) 4) (.len (.fld (.star (.s 0)) 5))))],[(1,.v (.ite (.s 5) (.bin .leq (.fld (.star (.s 0)) 4) (.len (.fld (.star (.s 0)) 5))) (.c (.bool false))))]⟩)
.ret)),
[(1,.v)]⟩
theorem c89:Z8 Tryz.prog fresh sig [.fz] [] Tryz.f89=some p89:=by kernel_rfl
def p90:Fn:=⟨3,[0,2,7],
(.seq
(.reg ⟨[],[],[(1,.v (.c (.bool false)))]⟩)
(.seq
(.seq
(.reg ⟨[],[],[(2,.v (.fld (.star (.s 0)) 3))]⟩)
(.cond (.s 2)
 (.seq
 (.reg ⟨[],[],[(1,.v (.bin .lss (.fld (.star (.s 0)) 4) (.len (.fld (.star (.s 0)) 5))))]⟩)
 .ret)
 .skip))
(.seq
(.reg ⟨[.lt 3 [] (.bin .eql (.len (.fld (.star (.s 0)) 7)) (.c (.int .i64 (0)))),.lt 4 [] (.ite (.s 3) (.bin .eql (.len (.fld (.star (.s 0)) 8)) (.c (.int .i64 (0)))) (.c (.bool false)))],[([(3,true)],(.bin .eql (.len (.fld (.star (.s 0)) 8)) (.c (.int .i64 (0))))),([(4,true)],(.bin .eql (.fld (.star (.s 0)) 4) (.len (.fld (.star (.s 0)) 5))))],[(1,.v (.ite (.s 4) (.bin .eql (.fld (.star (.s 0)) 4) (.len (.fld (.star (.s 0)) 5))) (.c (.bool false))))]⟩)
.ret))),
[(1,.v)]⟩
theorem c90:Z8 Tryz.prog fresh sig [.fz] [] Tryz.f90=some p90:=by kernel_rfl
def p91:Fn:=⟨11,[0,2,3,8,9,4,5,6,7,18,39],
(.seq
(.reg ⟨[],[],[(1,.v (.c (.bool false)))]⟩)
(.seq
(.reg ⟨[],[],[(2,.v (.c (.bool true)))]⟩)
(.seq
.skip
(.seq
(.seq
(.reg ⟨[],[],[(3,.v (.c (.int .i64 (0))))]⟩)
(.block 0
 (.loop [0,1,2,3]
  (.seq
  (.reg ⟨[],[],[(4,.v (.bin .lss (.s 3) (.c (.int .i64 (4)))))]⟩)
  (.seq
  (.cond (.s 4)
   .skip
   (.exit 0))
  (.seq
  (.block 1
   (.seq
   (.reg ⟨[],[],[(5,.v (.s 3))]⟩)
   (.seq
   (.reg ⟨[],[],[(6,.v (.bin .add (.s 5) (.c (.int .i64 (1)))))]⟩)
   (.seq
   (.reg ⟨[],[],[(7,.v (.c (.sl [])))]⟩)
   (.seq
   (.reg ⟨[],[],[(8,.v (.c (.int .i64 (0))))]⟩)
   (.seq
   (.seq
   (.reg ⟨[.lt 11 [] (.bin .eql (.s 6) (.c (.int .i64 (1))))],[([(11,false)],(.bin .eql (.s 6) (.c (.int .i64 (2)))))],[(9,.v (.ite (.s 11) (.c (.bool true)) (.bin .eql (.s 6) (.c (.int .i64 (2))))))]⟩)
   (.cond (.s 9)
    (.reg ⟨[.call 12 [] (.id 102) false false [(.pt none [(.m 0 0),(.m 0 1),(.m 0 2),(.m 0 3),(.m 0 4),(.m 0 5),(.m 0 6),(.m 0 7),(.m 0 8),(.m 0 9),(.m 0 10),(.m 0 11),(.m 0 12),(.m 0 13),(.m 0 14),(.m 0 15),(.m 0 16),(.m 0 17),(.m 0 18),(.m 0 19),(.m 0 20),(.m 0 21),(.m 0 22)]),(.s 6)],.call 13 [] (.id 101) true false [(.s 12)]],[],[(7,.v (.ext (.s 13) 0)),(8,.v (.ext (.s 13) 1))]⟩)
    (.reg ⟨[.call 14 [] (.id 102) false false [(.pt none [(.m 0 0),(.m 0 1),(.m 0 2),(.m 0 3),(.m 0 4),(.m 0 5),(.m 0 6),(.m 0 7),(.m 0 8),(.m 0 9),(.m 0 10),(.m 0 11),(.m 0 12),(.m 0 13),(.m 0 14),(.m 0 15),(.m 0 16),(.m 0 17),(.m 0 18),(.m 0 19),(.m 0 20),(.m 0 21),(.m 0 22)]),(.s 6)],.call 15 [] (.id 102) false false [(.pt none [(.m 0 0),(.m 0 1),(.m 0 2),(.m 0 3),(.m 0 4),(.m 0 5),(.m 0 6),(.m 0 7),(.m 0 8),(.m 0 9),(.m 0 10),(.m 0 11),(.m 0 12),(.m 0 13),(.m 0 14),(.m 0 15),(.m 0 16),(.m 0 17),(.m 0 18),(.m 0 19),(.m 0 20),(.m 0 21),(.m 0 22)]),(.s 6)],.call 16 [] (.id 104) false false [(.pt none [(.m 0 0),(.m 0 1),(.m 0 2),(.m 0 3),(.m 0 4),(.m 0 5),(.m 0 6),(.m 0 7),(.m 0 8),(.m 0 9),(.m 0 10),(.m 0 11),(.m 0 12),(.m 0 13),(.m 0 14),(.m 0 15),(.m 0 16),(.m 0 17),(.m 0 18),(.m 0 19),(.m 0 20),(.m 0 21),(.m 0 22)]),(.s 15)],.call 17 [] (.id 103) true false [(.s 14),(.s 16)]],[],[(7,.v (.ext (.s 17) 0)),(8,.v (.ext (.s 17) 1))]⟩)))
   (.seq
   (.seq
   (.reg ⟨[],[],[(10,.v (.bin .neq (.s 8) (.c (.int .i64 (0)))))]⟩)
   (.cond (.s 10)
    (.seq
    (.reg ⟨[],[],[(2,.v (.c (.bool false)))]⟩)
    (.exit 0))
    .skip))
   (.reg ⟨[.callm 18 [] (.id 105) [(.mem [.fz,.fz,.fz,.fz,.fz,.fz,.fz,.fz,.fz,.fz,.fz,.fz,.fz,.fz,.fz,.fz,.fz,.fz,.fz,.fz,.fz,(.own 127),(.own 128)]),.fz,.fz] [(.ag [(.m 0 0),(.m 0 1),(.m 0 2),(.m 0 3),(.m 0 4),(.m 0 5),(.m 0 6),(.m 0 7),(.m 0 8),(.m 0 9),(.m 0 10),(.m 0 11),(.m 0 12),(.m 0 13),(.m 0 14),(.m 0 15),(.m 0 16),(.m 0 17),(.m 0 18),(.m 0 19),(.m 0 20),(.m 0 21),(.m 0 22)]),(.s 6),(.s 7)]],[],[(0,.m [(.fld (.ext (.s 18) 1) 0),(.fld (.ext (.s 18) 1) 1),(.fld (.ext (.s 18) 1) 2),(.fld (.ext (.s 18) 1) 3),(.fld (.ext (.s 18) 1) 4),(.fld (.ext (.s 18) 1) 5),(.fld (.ext (.s 18) 1) 6),(.fld (.ext (.s 18) 1) 7),(.fld (.ext (.s 18) 1) 8),(.fld (.ext (.s 18) 1) 9),(.fld (.ext (.s 18) 1) 10),(.fld (.ext (.s 18) 1) 11),(.fld (.ext (.s 18) 1) 12),(.fld (.ext (.s 18) 1) 13),(.fld (.ext (.s 18) 1) 14),(.fld (.ext (.s 18) 1) 15),(.fld (.ext (.s 18) 1) 16),(.fld (.ext (.s 18) 1) 17),(.fld (.ext (.s 18) 1) 18),(.fld (.ext (.s 18) 1) 19),(.fld (.ext (.s 18) 1) 20),(.fld (.ext (.s 18) 1) 21),(.fld (.ext (.s 18) 1) 22)])]⟩))))))))
  (.reg ⟨[],[],[(3,.v (.bin .add (.s 3) (.c (.int .i64 (1)))))]⟩)))))))
(.seq
(.reg ⟨[],[],[(1,.v (.s 2))]⟩)
.ret))))),
[(1,.v)]⟩
theorem c91:Z8 Tryz.prog fresh sig [(.mem [.fz,.fz,.fz,.fz,.fz,.fz,.fz,.fz,.fz,.fz,.fz,.fz,.fz,.fz,.fz,.fz,.fz,.fz,.fz,.fz,.fz,(.own 127),(.own 128)])] [(0,(.mem [.fz,.fz,.fz,.fz,.fz,.fz,.fz,.fz,.fz,.fz,.fz,.fz,.fz,.fz,.fz,.fz,.fz,.fz,.fz,.fz,.fz,(.own 127),(.own 128)]))] Tryz.f91=some p91:=by kernel_rfl
def p92:Fn:=⟨13,[0,2,12,3,4,15,26,25,27,6,24,32,46],
(.seq
(.reg ⟨[],[],[(1,.v (.c (.bool false)))]⟩)
(.seq
(.seq
(.reg ⟨[],[],[(2,.v (.un .not (.fld (.star (.s 0)) 3)))]⟩)
(.cond (.s 2)
 (.seq
 (.reg ⟨[],[],[(1,.v (.c (.bool true)))]⟩)
 .ret)
 .skip))
(.seq
(.reg ⟨[],[],[(3,.v (.c (.mp 0 [] [])))]⟩)
(.seq
(.seq
(.reg ⟨[],[],[(4,.v (.c (.int .i64 (3))))]⟩)
(.block 0
 (.loop [0,1,2,3,4]
  (.seq
  (.seq
  (.reg ⟨[],[],[(5,.v (.bin .leq (.s 4) (.c (.int .i64 (4)))))]⟩)
  (.cond (.s 5)
   .skip
   (.exit 0)))
  (.seq
  (.block 1
   (.seq
   (.reg ⟨[],[],[(6,.v (.c (.int .i64 (0)))),(7,.v (.len (.fld (.ai (.flds (.star (.s 0)) 17 4) (.bin .sub (.s 4) (.c (.int .i64 (1)))) 4 1 true) 0))),(10,.v (.fld (.ai (.flds (.star (.s 0)) 17 4) (.bin .sub (.s 4) (.c (.int .i64 (1)))) 4 1 true) 0))]⟩)
   (.block 2
    (.loop [0,1,2,3,4,5,6,7,10]
     (.seq
     (.reg ⟨[],[],[(8,.v (.bin .lss (.s 6) (.s 7)))]⟩)
     (.seq
     (.cond (.s 8)
      .skip
      (.exit 2))
     (.seq
     (.block 3
      (.seq
      (.reg ⟨[],[],[(9,.m [(.fld (.flds (.idx (.s 10) (.s 6) 5) 0 5) 0),(.fld (.flds (.idx (.s 10) (.s 6) 5) 0 5) 1),(.fld (.flds (.idx (.s 10) (.s 6) 5) 0 5) 2),(.fld (.flds (.idx (.s 10) (.s 6) 5) 0 5) 3),(.fld (.flds (.idx (.s 10) (.s 6) 5) 0 5) 4)])]⟩)
      (.seq
      (.seq
      (.reg ⟨[],[],[(11,.v (.un .not (.m 9 3)))]⟩)
      (.cond (.s 11)
       (.exit 3)
       .skip))
      (.seq
      (.seq
      (.reg ⟨[.lt 13 [] (.bin .neq (.lk (.i .u64) (.fld (.star (.s 0)) 21) (.m 9 4) (.int .i64 (0)) false) (.c (.int .i64 (1))))],[([(13,false)],(.fl (.lk (.i .u64) (.s 3) (.m 9 4) (.bool false) false)))],[(12,.v (.ite (.s 13) (.c (.bool true)) (.fl (.lk (.i .u64) (.s 3) (.m 9 4) (.bool false) false))))]⟩)
      (.cond (.s 12)
       (.seq
       (.reg ⟨[],[],[(1,.v (.c (.bool false)))]⟩)
       .ret)
       .skip))
      (.reg ⟨[],[],[(3,.v (.mput (.i .u64) (.s 3) (.m 9 4) (.c (.bool true))))]⟩)))))
     (.reg ⟨[],[],[(6,.v (.bin .add (.s 6) (.c (.int .i64 (1)))))]⟩))))))))
  (.reg ⟨[],[],[(4,.v (.bin .add (.s 4) (.c (.int .i64 (1)))))]⟩))))))
(.seq
(.reg ⟨[],[],[(1,.v (.bin .eql (.mlen (.s 3)) (.len (.fld (.ai (.flds (.star (.s 0)) 17 4) (.c (.int .i64 (0))) 4 1 true) 0))))]⟩)
.ret))))),
[(1,.v)]⟩
theorem c92:Z8 Tryz.prog fresh sig [.fz] [] Tryz.f92=some p92:=by kernel_rfl
def p93:Fn:=⟨9,[0,1,2,11,10,12,4,9,18],
(.seq
(.reg ⟨[],[],[(1,.m [(.one (.s 0))]),(2,.v (.c (.bool false)))]⟩)
(.seq
(.seq
(.reg ⟨[],[],[(3,.v (.c (.int .i64 (0)))),(4,.v (.len (.fld (.star (.m 1 0)) 9))),(7,.v (.fld (.star (.m 1 0)) 9))]⟩)
(.block 0
 (.loop [0,1,2,3,4,7]
  (.seq
  (.reg ⟨[],[],[(5,.v (.bin .lss (.s 3) (.s 4)))]⟩)
  (.seq
  (.cond (.s 5)
   .skip
   (.exit 0))
  (.seq
  (.block 1
   (.seq
   (.reg ⟨[],[],[(6,.v (.fld (.idx (.s 7) (.s 3) 1) 0))]⟩)
   (.seq
   (.reg ⟨[.call 9 [] (.id 106) false false [(.m 1 0),(.s 6),(.c (.int .i64 (1))),(.c (.int .i64 (2)))]],[],[(8,.v (.un .not (.s 9)))]⟩)
   (.cond (.s 8)
    (.seq
    (.reg ⟨[],[],[(2,.v (.c (.bool false)))]⟩)
    .ret)
    .skip))))
  (.reg ⟨[],[],[(3,.v (.bin .add (.s 3) (.c (.int .i64 (1)))))]⟩)))))))
(.seq
(.reg ⟨[.call 10 [] (.id 107) false true [(.m 1 0),(.c (.int .i64 (2))),(.pt (some 108) [(.pt none [(.m 1 0)])])],.lt 11 [] (.s 10),.call 12 [(11,true)] (.id 107) false true [(.m 1 0),(.c (.int .i64 (1))),(.pt (some 109) [(.pt none [(.m 1 0)])])]],[],[(2,.v (.ite (.s 11) (.s 12) (.c (.bool false))))]⟩)
.ret))),
[(2,.v)]⟩
theorem c93:Z8 Tryz.prog fresh sig [.fz] [] Tryz.f93=some p93:=by kernel_rfl
def p94:Fn:=⟨3,[0,1,2],
(.seq
(.reg ⟨[],[],[(1,.m [(.one (.s 0))]),(2,.v (.c (.bool false)))]⟩)
(.seq
(.reg ⟨[.call 3 [] (.id 107) false true [(.m 1 0),(.c (.int .i64 (1))),(.pt (some 110) [(.pt none [(.m 1 0)])])]],[],[(2,.v (.s 3))]⟩)
.ret)),
[(2,.v)]⟩
theorem c94:Z8 Tryz.prog fresh sig [.fz] [] Tryz.f94=some p94:=by kernel_rfl
def p95:Fn:=⟨4,[0,1,2,3],
(.seq
(.reg ⟨[],[],[(1,.m [(.one (.s 0))]),(2,.v (.c (.bool false)))]⟩)
(.seq
(.reg ⟨[],[],[(3,.no)]⟩)
(.seq
(.reg ⟨[.call 4 [] (.id 107) false true [(.m 1 0),(.c (.int .i64 (3))),(.pt (some 111) [(.pt none [(.m 1 0)])])],.lt 5 [] (.s 4),.call 6 [(5,true)] (.id 107) false true [(.m 1 0),(.c (.int .i64 (4))),(.pt (some 111) [(.pt none [(.m 1 0)])])]],[],[(2,.v (.ite (.s 5) (.s 6) (.c (.bool false)))),(3,.no)]⟩)
.ret))),
[(2,.v)]⟩
theorem c95:Z8 Tryz.prog fresh sig [.fz] [] Tryz.f95=some p95:=by kernel_rfl
def p96:Fn:=⟨2,[0,2],
(.seq
(.reg ⟨[],[],[(1,.v (.c (.bool false)))]⟩)
(.seq
(.reg ⟨[.call 2 [] (.id 112) false false [(.s 0)]],[],[(1,.v (.bin .leq (.bin .add (.bin .add (.len (.fld (.star (.s 0)) 5)) (.len (.fld (.star (.s 0)) 6))) (.s 2)) (.fld (.star (.s 0)) 1)))]⟩)
.ret)),
[(1,.v)]⟩
theorem c96:Z8 Tryz.prog fresh sig [.fz] [] Tryz.f96=some p96:=by kernel_rfl
def p102:Fn:=⟨3,[0,1,4],
(.seq
(.reg ⟨[],[],[(2,.v (.c (.sl [])))]⟩)
(.seq
(.reg ⟨[],[],[(2,.v (.ai (.ag [(.fld (.star (.s 0)) 5),(.fld (.star (.s 0)) 6),(.fld (.star (.s 0)) 7),(.fld (.star (.s 0)) 8)]) (.bin .sub (.s 1) (.c (.int .i64 (1)))) 4 1 false))]⟩)
.ret)),
[(2,.v)]⟩
theorem c102:Z8 Tryz.prog fresh sig [.fz,.fz] [] Tryz.f102=some p102:=by kernel_rfl
def p104:Fn:=⟨14,[0,1,4,5,6,15,7,8,9,25,10,11,36,52],
(.seq
(.reg ⟨[],[],[(2,.v (.c (.sl [])))]⟩)
(.seq
(.reg ⟨[],[],[(3,.v (.c (.sl [])))]⟩)
(.seq
(.seq
(.reg ⟨[],[],[(4,.v (.c (.int .i64 (0))))]⟩)
(.block 0
 (.loop [0,1,2,3,4]
  (.seq
  (.seq
  (.reg ⟨[],[],[(5,.v (.bin .lss (.s 4) (.len (.s 1))))]⟩)
  (.cond (.s 5)
   .skip
   (.exit 0)))
  (.block 1
   (.seq
   (.reg ⟨[],[],[(6,.m [(.c (.int .i64 (0))),(.c (.int .i64 (0)))])]⟩)
   (.seq
   (.seq
   (.reg ⟨[.call 14 [] (.id 59) false false [(.fld (.idx (.s 1) (.s 4) 1) 0)]],[],[(7,.v (.ext (.s 14) 0)),(8,.v (.ext (.s 14) 1))]⟩)
   (.seq
   (.reg ⟨[],[],[(9,.v (.bin .eql (.s 8) (.c (.int .i64 (0)))))]⟩)
   (.cond (.s 9)
    (.seq
    (.reg ⟨[],[],[(10,.m [(.fld (.sz (.ext (.lk (.i .u64) (.fld (.star (.s 0)) 22) (.s 7) (.agg [(.int .i64 (0)),(.int .i64 (0))]) true) 0) 2) 0),(.fld (.sz (.ext (.lk (.i .u64) (.fld (.star (.s 0)) 22) (.s 7) (.agg [(.int .i64 (0)),(.int .i64 (0))]) true) 0) 2) 1)]),(11,.v (.ext (.lk (.i .u64) (.fld (.star (.s 0)) 22) (.s 7) (.agg [(.int .i64 (0)),(.int .i64 (0))]) true) 1))]⟩)
    (.seq
    (.seq
    (.reg ⟨[],[],[(12,.v (.un .not (.s 11)))]⟩)
    (.cond (.s 12)
     (.seq
     (.reg ⟨[],[],[(2,.v (.s 3)),(3,.no)]⟩)
     .ret)
     .skip))
    (.seq
    (.reg ⟨[],[],[(6,.m [(.fld (.mm 10 0 2) 0),(.fld (.mm 10 0 2) 1)])]⟩)
    (.reg ⟨[],[],[(3,.v (.app (.s 3) (.lit [(.mm 6 0 2)]) 2))]⟩))))
    (.seq
    (.reg ⟨[.call 15 [] (.id 72) false false [(.fld (.idx (.s 1) (.s 4) 1) 0)]],[],[(6,.m [(.fld (.sz (.ext (.s 15) 0) 2) 0),(.fld (.sz (.ext (.s 15) 0) 2) 1)]),(8,.v (.ext (.s 15) 1))]⟩)
    (.seq
    (.reg ⟨[],[],[(13,.v (.bin .neq (.s 8) (.c (.int .i64 (0)))))]⟩)
    (.cond (.s 13)
     (.seq
     (.reg ⟨[],[],[(2,.v (.s 3)),(3,.no)]⟩)
     .ret)
     .skip))))))
   (.reg ⟨[],[],[(4,.v (.bin .add (.s 4) (.bin .add (.c (.int .i64 (1))) (.m 6 0))))]⟩))))))))
(.seq
(.reg ⟨[],[],[(2,.v (.s 3)),(3,.no)]⟩)
.ret)))),
[(2,.v)]⟩
theorem c104:Z8 Tryz.prog fresh sig [.fz,.fz] [] Tryz.f104=some p104:=by kernel_rfl
def p105:Fn:=⟨11,[0,1,2,19,18,20,7,17,8,9,42],
(.seq
(.reg ⟨[],[([],(.ai (.c (.agg [(.bool true),(.bool true),(.bool true),(.bool true)])) (.bin .sub (.s 1) (.c (.int .i64 (1)))) 4 1 false))],[(0,.m [(.m 0 0),(.m 0 1),(.m 0 2),(.m 0 3),(.m 0 4),(.m 0 5),(.m 0 6),(.m 0 7),(.m 0 8),(.m 0 9),(.m 0 10),(.m 0 11),(.m 0 12),(.m 0 13),(.m 0 14),(.m 0 15),(.m 0 16),(.fld (.aput (.mm 0 17 4) (.bin .sub (.s 1) (.c (.int .i64 (1)))) 4 1 (.one (.s 2))) 0),(.fld (.aput (.mm 0 17 4) (.bin .sub (.s 1) (.c (.int .i64 (1)))) 4 1 (.one (.s 2))) 1),(.fld (.aput (.mm 0 17 4) (.bin .sub (.s 1) (.c (.int .i64 (1)))) 4 1 (.one (.s 2))) 2),(.fld (.aput (.mm 0 17 4) (.bin .sub (.s 1) (.c (.int .i64 (1)))) 4 1 (.one (.s 2))) 3),(.m 0 21),(.m 0 22)])]⟩)
(.seq
(.reg ⟨[],[],[(3,.v (.c (.int .i64 (0)))),(4,.v (.len (.s 2))),(7,.v (.s 2))]⟩)
(.block 0
 (.loop [0,1,2,3,4,7]
  (.seq
  (.reg ⟨[],[],[(5,.v (.bin .lss (.s 3) (.s 4)))]⟩)
  (.seq
  (.cond (.s 5)
   .skip
   (.exit 0))
  (.seq
  (.block 1
   (.seq
   (.reg ⟨[],[],[(6,.m [(.fld (.flds (.idx (.s 7) (.s 3) 5) 0 5) 0),(.fld (.flds (.idx (.s 7) (.s 3) 5) 0 5) 1),(.fld (.flds (.idx (.s 7) (.s 3) 5) 0 5) 2),(.fld (.flds (.idx (.s 7) (.s 3) 5) 0 5) 3),(.fld (.flds (.idx (.s 7) (.s 3) 5) 0 5) 4)])]⟩)
   (.seq
   (.reg ⟨[.call 11 [] (.id 61) false false [(.mm 0 10 7),(.ag [(.one (.s 1)),(.m 6 0)])]],[],[(8,.v (.ext (.s 11) 0)),(9,.v (.ext (.s 11) 1))]⟩)
   (.seq
   (.reg ⟨[],[],[(0,.m [(.m 0 0),(.m 0 1),(.m 0 2),(.m 0 3),(.m 0 4),(.m 0 5),(.m 0 6),(.m 0 7),(.m 0 8),(.m 0 9),(.m 0 10),(.m 0 11),(.m 0 12),(.m 0 13),(.m 0 14),(.m 0 15),(.m 0 16),(.m 0 17),(.m 0 18),(.m 0 19),(.m 0 20),(.mput (.i .u64) (.m 0 21) (.s 8) (.s 1)),(.m 0 22)])]⟩)
   (.seq
   (.reg ⟨[],[],[(10,.v (.bin .eql (.s 1) (.c (.int .i64 (1)))))]⟩)
   (.cond (.s 10)
    (.reg ⟨[],[],[(0,.m [(.m 0 0),(.m 0 1),(.m 0 2),(.m 0 3),(.m 0 4),(.m 0 5),(.m 0 6),(.m 0 7),(.m 0 8),(.m 0 9),(.m 0 10),(.m 0 11),(.m 0 12),(.m 0 13),(.m 0 14),(.m 0 15),(.m 0 16),(.m 0 17),(.m 0 18),(.m 0 19),(.m 0 20),(.m 0 21),(.mput (.i .u64) (.m 0 22) (.s 8) (.mm 6 1 2))])]⟩)
    .skip))))))
  (.reg ⟨[],[],[(3,.v (.bin .add (.s 3) (.c (.int .i64 (1)))))]⟩)))))))),
[]⟩
theorem c105:Z8 Tryz.prog fresh sig [(.mem [.fz,.fz,.fz,.fz,.fz,.fz,.fz,.fz,.fz,.fz,.fz,.fz,.fz,.fz,.fz,.fz,.fz,.fz,.fz,.fz,.fz,(.own 127),(.own 128)]),.fz,.fz] [(0,(.mem [.fz,.fz,.fz,.fz,.fz,.fz,.fz,.fz,.fz,.fz,.fz,.fz,.fz,.fz,.fz,.fz,.fz,.fz,.fz,.fz,.fz,(.own 127),(.own 128)]))] Tryz.f105=some p105:=by kernel_rfl
def p106:Fn:=⟨11,[0,1,2,3,8,14,9,10,21,11,12],
(.seq
(.reg ⟨[],[],[(4,.v (.c (.bool false)))]⟩)
(.seq
(.seq
(.reg ⟨[],[],[(5,.v (.bin .eql (.s 1) (.c (.int .u64 (0)))))]⟩)
(.cond (.s 5)
 (.seq
 (.reg ⟨[],[],[(4,.v (.c (.bool true)))]⟩)
 .ret)
 .skip))
(.seq
(.reg ⟨[.call 11 [] (.id 59) false false [(.s 1)]],[],[(6,.v (.ext (.s 11) 0)),(7,.v (.ext (.s 11) 1))]⟩)
(.seq
(.seq
(.reg ⟨[],[],[(8,.v (.bin .neq (.s 7) (.c (.int .i64 (0)))))]⟩)
(.cond (.s 8)
 (.seq
 (.reg ⟨[],[],[(4,.v (.c (.bool false)))]⟩)
 .ret)
 .skip))
(.seq
(.reg ⟨[],[],[(9,.v (.ext (.lk (.i .u64) (.fld (.star (.s 0)) 21) (.s 6) (.int .i64 (0)) true) 0)),(10,.v (.ext (.lk (.i .u64) (.fld (.star (.s 0)) 21) (.s 6) (.int .i64 (0)) true) 1))]⟩)
(.seq
(.reg ⟨[.lt 12 [] (.s 10),.lt 13 [] (.ite (.s 12) (.bin .geq (.s 9) (.s 2)) (.c (.bool false)))],[([(12,true)],(.bin .geq (.s 9) (.s 2))),([(13,true)],(.bin .leq (.s 9) (.s 3)))],[(4,.v (.ite (.s 13) (.bin .leq (.s 9) (.s 3)) (.c (.bool false))))]⟩)
.ret)))))),
[(4,.v)]⟩
theorem c106:Z8 Tryz.prog fresh sig [.fz,.fz,.fz,.fz] [] Tryz.f106=some p106:=by kernel_rfl
def p107:Fn:=⟨17,[0,1,2,6,7,23,22,24,9,21,28,32,31,33,10,11,47],
(.seq
(.reg ⟨[],[],[(3,.v (.c (.bool false)))]⟩)
(.seq
(.reg ⟨[.call 17 [] (.id 102) false false [(.s 0),(.s 1)]],[],[(4,.v (.s 17))]⟩)
(.seq
(.seq
(.reg ⟨[],[],[(5,.v (.c (.int .i64 (0)))),(6,.v (.len (.fld (.ai (.flds (.star (.s 0)) 17 4) (.bin .sub (.s 1) (.c (.int .i64 (1)))) 4 1 true) 0))),(9,.v (.fld (.ai (.flds (.star (.s 0)) 17 4) (.bin .sub (.s 1) (.c (.int .i64 (1)))) 4 1 true) 0))]⟩)
(.block 0
 (.loop [0,1,2,3,4,5,6,9]
  (.seq
  (.reg ⟨[],[],[(7,.v (.bin .lss (.s 5) (.s 6)))]⟩)
  (.seq
  (.cond (.s 7)
   .skip
   (.exit 0))
  (.seq
  (.block 1
   (.seq
   (.reg ⟨[],[],[(8,.m [(.fld (.flds (.idx (.s 9) (.s 5) 5) 0 5) 0),(.fld (.flds (.idx (.s 9) (.s 5) 5) 0 5) 1),(.fld (.flds (.idx (.s 9) (.s 5) 5) 0 5) 2),(.fld (.flds (.idx (.s 9) (.s 5) 5) 0 5) 3),(.fld (.flds (.idx (.s 9) (.s 5) 5) 0 5) 4)])]⟩)
   (.seq
   (.seq
   (.reg ⟨[],[],[(10,.v (.m 8 3))]⟩)
   (.cond (.s 10)
    (.exit 1)
    .skip))
   (.seq
   (.reg ⟨[],[],[(11,.v (.c (.int .i64 (0)))),(12,.v (.m 8 2))]⟩)
   (.block 2
    (.loop [0,1,2,3,4,5,6,7,8,9,10,11,12]
     (.seq
     (.reg ⟨[],[],[(13,.v (.bin .lss (.s 11) (.s 12)))]⟩)
     (.seq
     (.cond (.s 13)
      .skip
      (.exit 2))
     (.seq
     (.block 3
      (.seq
      (.reg ⟨[],[],[(14,.v (.s 11))]⟩)
      (.seq
      (.reg ⟨[],[],[(15,.v (.bin .add (.bin .add (.m 8 0) (.c (.int .i64 (1)))) (.s 14)))]⟩)
      (.seq
      (.reg ⟨[.call 18 [] (.e (.s 2)) false false [(.s 15),(.fld (.idx (.s 4) (.s 15) 1) 0)]],[],[(16,.v (.un .not (.s 18)))]⟩)
      (.cond (.s 16)
       (.seq
       (.reg ⟨[],[],[(3,.v (.c (.bool false)))]⟩)
       .ret)
       .skip)))))
     (.reg ⟨[],[],[(11,.v (.bin .add (.s 11) (.c (.int .i64 (1)))))]⟩))))))))))
  (.reg ⟨[],[],[(5,.v (.bin .add (.s 5) (.c (.int .i64 (1)))))]⟩)))))))
(.seq
(.reg ⟨[],[],[(3,.v (.c (.bool true)))]⟩)
.ret)))),
[(3,.v)]⟩
theorem c107:Z8 Tryz.prog fresh sig [.fz,.fz,.fz] [] Tryz.f107=some p107:=by kernel_rfl
def p108:Fn:=⟨4,[0,1,2,5],
(.seq
(.reg ⟨[],[],[(3,.v (.c (.bool false)))]⟩)
(.seq
(.reg ⟨[.call 4 [] (.id 106) false false [(.fld (.star (.s 2)) 0),(.s 1),(.c (.int .i64 (1))),(.c (.int .i64 (2)))]],[],[(3,.v (.s 4))]⟩)
.ret)),
[(3,.v)]⟩
theorem c108:Z8 Tryz.prog fresh sig [.fz,.fz,.fz] [] Tryz.f108=some p108:=by kernel_rfl
def p109:Fn:=⟨4,[0,1,2,5],
(.seq
(.reg ⟨[],[],[(3,.v (.c (.bool false)))]⟩)
(.seq
(.reg ⟨[.lt 4 [] (.bin .geq (.s 0) (.fld (.star (.fld (.star (.s 2)) 0)) 4)),.call 5 [(4,false)] (.id 106) false false [(.fld (.star (.s 2)) 0),(.s 1),(.c (.int .i64 (1))),(.c (.int .i64 (2)))]],[],[(3,.v (.ite (.s 4) (.c (.bool true)) (.s 5)))]⟩)
.ret)),
[(3,.v)]⟩
theorem c109:Z8 Tryz.prog fresh sig [.fz,.fz,.fz] [] Tryz.f109=some p109:=by kernel_rfl
def p110:Fn:=⟨4,[0,1,2,5],
(.seq
(.reg ⟨[],[],[(3,.v (.c (.bool false)))]⟩)
(.seq
(.reg ⟨[.lt 4 [] (.bin .lss (.s 0) (.fld (.star (.fld (.star (.s 2)) 0)) 4)),.call 5 [(4,false)] (.id 106) false false [(.fld (.star (.s 2)) 0),(.s 1),(.c (.int .i64 (1))),(.c (.int .i64 (4)))]],[],[(3,.v (.ite (.s 4) (.c (.bool true)) (.s 5)))]⟩)
.ret)),
[(3,.v)]⟩
theorem c110:Z8 Tryz.prog fresh sig [.fz,.fz,.fz] [] Tryz.f110=some p110:=by kernel_rfl
def p111:Fn:=⟨4,[0,1,2,5],
(.seq
(.reg ⟨[],[],[(3,.v (.c (.bool false)))]⟩)
(.seq
(.reg ⟨[.call 4 [] (.id 106) false false [(.fld (.star (.s 2)) 0),(.s 1),(.c (.int .i64 (3))),(.c (.int .i64 (4)))]],[],[(3,.v (.s 4))]⟩)
.ret)),
[(3,.v)]⟩
theorem c111:Z8 Tryz.prog fresh sig [.fz,.fz,.fz] [] Tryz.f111=some p111:=by kernel_rfl
def p112:Fn:=⟨11,[0,2,3,4,8,19,18,20,6,17,25],
(.seq
(.reg ⟨[],[],[(1,.v (.c (.int .i64 (0))))]⟩)
(.seq
(.reg ⟨[],[],[(2,.v (.c (.int .i64 (0))))]⟩)
(.seq
(.seq
(.reg ⟨[],[],[(3,.v (.c (.int .i64 (3))))]⟩)
(.block 0
 (.loop [0,1,2,3]
  (.seq
  (.seq
  (.reg ⟨[],[],[(4,.v (.bin .leq (.s 3) (.c (.int .i64 (4)))))]⟩)
  (.cond (.s 4)
   .skip
   (.exit 0)))
  (.seq
  (.block 1
   (.seq
   (.reg ⟨[],[],[(5,.v (.c (.int .i64 (0)))),(6,.v (.len (.fld (.ai (.flds (.star (.s 0)) 17 4) (.bin .sub (.s 3) (.c (.int .i64 (1)))) 4 1 true) 0))),(9,.v (.fld (.ai (.flds (.star (.s 0)) 17 4) (.bin .sub (.s 3) (.c (.int .i64 (1)))) 4 1 true) 0))]⟩)
   (.block 2
    (.loop [0,1,2,3,4,5,6,9]
     (.seq
     (.reg ⟨[],[],[(7,.v (.bin .lss (.s 5) (.s 6)))]⟩)
     (.seq
     (.cond (.s 7)
      .skip
      (.exit 2))
     (.seq
     (.block 3
      (.seq
      (.reg ⟨[],[],[(8,.m [(.fld (.flds (.idx (.s 9) (.s 5) 5) 0 5) 0),(.fld (.flds (.idx (.s 9) (.s 5) 5) 0 5) 1),(.fld (.flds (.idx (.s 9) (.s 5) 5) 0 5) 2),(.fld (.flds (.idx (.s 9) (.s 5) 5) 0 5) 3),(.fld (.flds (.idx (.s 9) (.s 5) 5) 0 5) 4)])]⟩)
      (.seq
      (.reg ⟨[],[],[(10,.v (.un .not (.m 8 3)))]⟩)
      (.cond (.s 10)
       (.reg ⟨[],[],[(2,.v (.bin .add (.s 2) (.bin .add (.c (.int .i64 (1))) (.m 8 1))))]⟩)
       .skip))))
     (.reg ⟨[],[],[(5,.v (.bin .add (.s 5) (.c (.int .i64 (1)))))]⟩))))))))
  (.reg ⟨[],[],[(3,.v (.bin .add (.s 3) (.c (.int .i64 (1)))))]⟩))))))
(.seq
(.reg ⟨[],[],[(1,.v (.s 2))]⟩)
.ret)))),
[(1,.v)]⟩
theorem c112:Z8 Tryz.prog fresh sig [.fz] [] Tryz.f112=some p112:=by kernel_rfl
end Vm
end
section
namespace Vm
open Go Go.Proofs
set_option maxRecDepth 100000
set_option maxHeartbeats 1000000
def putA{α:Type}(l:List (Int×α))(k:Int)(v:α):List (Int×α):=match l.findIdx? (·.1==k)with
 |some i=>l.set i (k,v)
 |none=>l++ [(k,v)]
def getA{α:Type}(l:List (Int×α))(k:Int):Option α:=(l.find? (·.1==k)).map (·.2)
def mpA{α:Type}(f:α→V)(l:List (Int×α)):V:= .mp 0 (l.map fun x=>vu x.1) (l.map fun x=>f x.2)
theorem RF{α:Type}{k:Int}: ∀ {l:List (Int×α)},Q5 (vu k) (l.map fun x=>vu x.1)=some (l.findIdx? (·.1==k))
 | []=>rfl
 |y::l=>by
  simp only[List.map_cons,Q5,jF,if_true,List.findIdx?_cons]
  by_cases h:k=y.1
  ·simp[h]
  ·have h2:(k==y.1)=false:=by simpa using h
   have h3:(y.1==k)=false:=by simpa using Ne.symm h
   simp[h2,h3,RF]
theorem Xa{α:Type}{p:α→Bool}: ∀ {l:List α},l.find? p=(l.findIdx? p).bind fun i=>l[i]?
 | []=>rfl
 |x::l=>by
  rw[List.find?_cons,List.findIdx?_cons]
  cases h:p x
  ·simp only[Bool.false_eq_true,if_false]
   rw[Xa (l:=l)]
   cases l.findIdx? p<;>simp
  ·simp
theorem jG{α:Type}{f:α→V}{l:List (Int×α)}{k:Int}{z:V}{ok:Bool}:lkV (.i .u64) (mpA f l) (vu k) z ok=match getA l k with
  |some x=>some (if ok then .tup [f x,.bool true]else f x)
  |none=>some (if ok then .tup [z,.bool false]else z):=by
 unfold lkV mpA getA
 simp only[isK,decide_true,Bool.true_eq_false,if_false,RF,Xa]
 cases h:l.findIdx? (·.1==k)with
 |none=>rfl
 |some i=>
  have hlt:i<l.length:=(List.findIdx?_eq_some_iff_getElem.1 h).1
  simp[hlt]
theorem JX{α:Type}{f:α→V}{l:List (Int×α)}{k:Int}{x:α}:Rv (.i .u64) (mpA f l) (vu k) (f x)=some (mpA f (putA l k x)):=by
 unfold Rv mpA putA
 simp only[isK,decide_true,Bool.true_eq_false,if_false,RF]
 cases h:l.findIdx? (·.1==k)with
 |none=>simp
 |some i=>
  have hh:=List.findIdx?_eq_some_iff_getElem.1 h
  obtain⟨hlt,hk,_⟩:=hh
  have hk':(l[i]).1=k:=by simpa using hk
  simp only[Option.some.injEq,V.mp.injEq,true_and]
  constructor
  ·rw[List.map_set]
   apply List.ext_getElem?
   intro j
   rw[List.getElem?_set]
   split
   ·rename_i e
    subst e
    simp[hlt,hk']
   ·rfl
  ·rw[List.map_set]
@[simp] theorem Z5e{α:Type}(f:α→V)(l:List (Int×α)):oneV (mpA f l)=some (mpA f l):=rfl
@[simp] theorem Z4D{α:Type}(f:α→V)(l:List (Int×α)):(mpA f l).cells= [mpA f l]:=rfl
@[simp] theorem Z5y{α:Type}(f:α→V)(l:List (Int×α)):(mpA f l).one=true:=rfl
@[simp] theorem Z5s{α:Type}(f:α→V)(l:List (Int×α)):Qe (mpA f l)=some (vi l.length):=by simp[mpA]
theorem R8{α:Type}{l:List (Int×α)}{k j:Int}{x:α}:getA (putA l k x) j=if k=j then some x else getA l j:=by
 unfold getA putA
 cases h:l.findIdx? (·.1==k)with
 |none=>
  have hn: ∀y∈l,¬y.1=k:=by
   intro y hy e
   have:=List.findIdx?_eq_none_iff.1 h y hy
   simp[e]at this
  simp only[List.find?_append]
  by_cases e:k=j
  ·subst e
   have:l.find? (·.1==k)=none:=by
    rw[List.find?_eq_none]
    intro y hy
    simpa using hn y hy
   simp[this]
  ·have h3:(k==j)=false:=by simpa using e
   simp[e,h3]
 |some i=>
  obtain⟨hlt,hk,hmin⟩:=List.findIdx?_eq_some_iff_getElem.1 h
  have hk':(l[i]).1=k:=by simpa using hk
  simp only
  by_cases e:k=j
  ·subst e
   rw[if_pos rfl,Xa]
   have:(l.set i (k,x)).findIdx? (·.1==k)=some i:=by
    rw[List.findIdx?_eq_some_iff_getElem]
    refine⟨by simpa using hlt,by simp,?_⟩
    intro q hq
    rw[List.getElem_set_ne (by omega)]
    exact hmin q hq
   rw[this]
   simp[hlt]
  ·rw[if_neg e,Xa,Xa]
   have:(l.set i (k,x)).findIdx? (·.1==j)=l.findIdx? (·.1==j):=by
    apply Option.ext
    intro q
    rw[List.findIdx?_eq_some_iff_getElem,List.findIdx?_eq_some_iff_getElem]
    have hj:((k,x).1==j)=false:=by simpa using e
    have hj':((l[i]).1==j)=false:=by rw[hk'];simpa using e
    constructor
    ·rintro⟨h1,h2,h3⟩
     have h1':q<l.length:=by simpa using h1
     by_cases eq:q=i
     ·subst eq;simp at h2;exact(e h2).elim
     ·rw[List.getElem_set_ne (Ne.symm eq)]at h2
      refine⟨h1',h2,fun r hr=> ?_⟩
      by_cases er:r=i
      ·subst er;simp[hj']
      ·have:=h3 r hr
       rw[List.getElem_set_ne (Ne.symm er)]at this
       exact this
    ·rintro⟨h1,h2,h3⟩
     by_cases eq:q=i
     ·subst eq;rw[hj']at h2;cases h2
     ·refine⟨by simpa using h1,by rw[List.getElem_set_ne (Ne.symm eq)];exact h2,fun r hr=> ?_⟩
      by_cases er:r=i
      ·subst er;simp[hj]
      ·rw[List.getElem_set_ne (Ne.symm er)];exact h3 r hr
   rw[this]
   cases hq:l.findIdx? (·.1==j)with
   |none=>rfl
   |some q=>
    obtain⟨h1,h2,_⟩:=List.findIdx?_eq_some_iff_getElem.1 hq
    have:q≠i:=by
     intro eq;subst eq
     rw[hk']at h2
     exact e (by simpa using h2)
    simp[List.getElem?_set_ne (Ne.symm this)]
structure Ck where
 h:Hp
 o1:List Ob
 o2:List Ob
 o3:List Ob
 o4:List Ob
 pm:List (Int×Int)
 lm:List (Int×(Int×Int))
def Ck.obs(s:Ck)(k:Int):List Ob:=if k=1 then s.o1 else if k=2 then s.o2 else if k=3 then s.o3 else s.o4
def ckL(s:Ck):List V:= [vu s.h.base,vi s.h.cap,vi s.h.to,.bool s.h.cycle,vi s.h.scan,.sl (s.h.low.map vu),.sl (s.h.high.map vu),.sl (s.h.old.map vu),.sl (s.h.far.map vu),.sl (s.h.roots.map vu),
 vu s.h.base,vi s.h.cap,vi s.h.to,vi s.h.low.length,vi s.h.high.length,vi s.h.old.length,vi s.h.far.length,
 .sl (s.o1.map obV),.sl (s.o2.map obV),.sl (s.o3.map obV),.sl (s.o4.map obV),mpA vi s.pm,mpA shP s.lm]
def ckP(s:Ck):V:= .ptr (ckL s)
theorem K3:IntKind.i64.wrap 0=0:=by decide
theorem Sk:IntKind.i64.wrap 1=1:=by decide
theorem Um:IntKind.i64.wrap 2=2:=by decide
theorem UO:IntKind.i64.wrap 3=3:=by decide
theorem L1{s:Ck}{k:Int}(hk:1≤k∧k≤4):VC Tryz.prog 102 false [ckP s,vi k] (.sl ((Z5 s.h k).map vu)):=by
 refine Z3 Tryz.func102 follows (by kernel_rfl) c102 rfl ?_
 have:k=1∨k=2∨k=3∨k=4:=by omega
 rcases this with rfl|rfl|rfl|rfl<;>simp[p102,ckP,ckL,Z5,aiV,K3,Sk,Um,UO]
def Zm(s:Ck)(w first last:Int):Bool:=decide (w=0)||(decide ((adr w).2=0)&&match getA s.pm (adr w).1 with
 |some k=>decide (first≤k)&&decide (k≤last)
 |none=>false)
theorem WP{s:Ck}{w first last:Int}(hw:U64 w):VC Tryz.prog 106 false [ckP s,vu w,vi first,vi last] (.bool (Zm s w first last)):=by
 refine Z3 Tryz.func106 follows (by kernel_rfl) c106 rfl ?_
 unfold Zm
 by_cases h0:w=0
 ·simp[p106,h0]
 simp[p106,h0,ckP,ckL]
 refine Z0 (Ks hw) (by simp) ?_
 by_cases h1:(adr w).2=0
 case neg=>simp[h1]
 simp[h1,jG]
 cases hg:getA s.pm (adr w).1 with
 |none=>simp
 |some k=>
  by_cases h2:first≤k
  ·by_cases h3:k≤last<;>simp[h2,h3]
  ·simp[h2]
def Ys(h:Hp)(k:Int):List (Int×Int)→List Ob→List (Int×Int)
 |m,[]=>m
 |m,o::l=>Ys h k (putA m (Zy (layH h) k o.at_).1 k) l
def ZM(h:Hp)(k:Int):List (Int×(Int×Int))→List Ob→List (Int×(Int×Int))
 |m,[]=>m
 |m,o::l=>ZM h k (if k=1 then putA m (Zy (layH h) k o.at_).1 (o.size,o.ptrs)else m) l
def Ck.put(s:Ck)(k:Int)(l:List Ob):Ck:=if k=1 then {s with o1:=l}else if k=2 then {s with o2:=l}else if k=3 then {s with o3:=l}else {s with o4:=l}
def X0(s:Ck)(k:Int)(l:List Ob):Ck:= {s.put k l with pm:=Ys s.h k s.pm l,lm:=ZM s.h k s.lm l}
theorem Xl{h:Hp}{k:Int}: ∀ {l:List Ob} {i:Nat} {o:Ob} {m:List (Int×Int)},l[i]? =some o→Ys h k m (l.take (i+1))=putA (Ys h k m (l.take i)) (Zy (layH h) k o.at_).1 k
 | [],_,_,_,h=>by simp at h
 |x::l,0,o,m,h=>by simp at h;subst h;simp[Ys]
 |x::l,i+1,o,m,h=>by
  simp only[List.take_succ_cons,Ys]
  exact Xl (by simpa using h)
theorem Xd{h:Hp}{k:Int}: ∀ {l:List Ob} {i:Nat} {o:Ob} {m:List (Int×(Int×Int))},l[i]? =some o→ZM h k m (l.take (i+1))=if k=1 then putA (ZM h k m (l.take i)) (Zy (layH h) k o.at_).1 (o.size,o.ptrs)else ZM h k m (l.take i)
 | [],_,_,_,h=>by simp at h
 |x::l,0,o,m,h=>by simp at h;subst h;simp[ZM]
 |x::l,i+1,o,m,h=>by
  simp only[List.take_succ_cons,ZM]
  exact Xd (by simpa using h)
abbrev ckK:List CK:= [.fz,.fz,.fz,.fz,.fz,.fz,.fz,.fz,.fz,.fz,.fz,.fz,.fz,.fz,.fz,.fz,.fz,.fz,.fz,.fz,.fz,.own 127,.own 128]
@[simp] theorem Z4J(s:Ck)(k:Int)(l:List Ob):(s.put k l).h=s.h:=by
 unfold Ck.put
 split
 ·rfl
 split
 ·rfl
 split<;>rfl
theorem Rz{l:List (Int×Int)}{k x:Int}:Rv (.i .u64) (mpA vi l) (vu k) (vi x)=some (mpA vi (putA l k x)):=JX
theorem Tb{l:List (Int×(Int×Int))}{k a b:Int}:Rv (.i .u64) (mpA shP l) (vu k) (.agg [vi a,vi b])=some (mpA shP (putA l k (a,b))):=JX (f:=shP) (x:=(a,b))
theorem T3{s:Ck}(hh:s.h.ok){k:Int}(hk:1≤k∧k≤4){l:List Ob}(hl:l.length≤1000000):VCM Tryz.prog 105 [.mem ckK,.fz,.fz] [.agg (ckL s),vi k,.sl (l.map obV)] (.tup [.tup [],.agg (ckL (X0 s k l))]):=by
 refine Qi Tryz.func105 follows (by kernel_rfl) c105 (by kernel_rfl) ?_
 have k4:k=1∨k=2∨k=3∨k=4:=by omega
 have hlim:l.length≤lim:=by unfold lim;omega
 have h0: ∀k,({s.put k l with pm:=s.pm,lm:=s.lm}:Ck)=s.put k l:=by
  intro k
  unfold Ck.put
  split
  ·rfl
  split
  ·rfl
  split<;>rfl
 have ka:=fun(k at_:Int)=>KF hh.lay (part:=k) (at_:=at_)
 unfold layH lyV at ka
 rcases k4 with rfl|rfl|rfl|rfl
 ·simp[p105,ckL,aiV,S6,K3,Sk,Um,UO,setCells]
  refine ZX 3 l.length (fun i=> [(0,.m (ckL {s.put 1 l with pm:=Ys s.h 1 s.pm (l.take i),lm:=ZM s.h 1 s.lm (l.take i)})),(3,.v (vi i))]) (fun _=>True) (by simp[ckL,Ck.put,Ys,ZM]) (by simp) trivial ?_
  intro i hi _
  have hwi:=Z1 ((i:Int)+1) (by omega) (by omega)
  by_cases hlt:i<l.length
  ·have hx:l[i]? =some l[i]:=List.getElem?_eq_getElem hlt
   have e1:=Xl (h:=s.h) (k:=1) (m:=s.pm) hx
   have e2:=Xd (h:=s.h) (k:=1) (m:=s.lm) hx
   have ko:=ka 1 (l[i]).at_
   simp[hlt,hx,hwi,ckL,idxV]
   refine Z0 ko (by simp) ?_
   simp[Rz,Tb,e1,e2,hwi,hlt]
   first|done|rfl|exact⟨rfl,rfl⟩
  ·have:i=l.length:=by omega
   subst this
   simp[ckL,X0,List.take_of_length_le]
 ·simp[p105,ckL,aiV,S6,K3,Sk,Um,UO,setCells]
  refine ZX 3 l.length (fun i=> [(0,.m (ckL {s.put 2 l with pm:=Ys s.h 2 s.pm (l.take i),lm:=ZM s.h 2 s.lm (l.take i)})),(3,.v (vi i))]) (fun _=>True) (by simp[ckL,Ck.put,Ys,ZM]) (by simp) trivial ?_
  intro i hi _
  have hwi:=Z1 ((i:Int)+1) (by omega) (by omega)
  by_cases hlt:i<l.length
  ·have hx:l[i]? =some l[i]:=List.getElem?_eq_getElem hlt
   have e1:=Xl (h:=s.h) (k:=2) (m:=s.pm) hx
   have e2:=Xd (h:=s.h) (k:=2) (m:=s.lm) hx
   have ko:=ka 2 (l[i]).at_
   simp[hlt,hx,hwi,ckL,idxV]
   refine Z0 ko (by simp) ?_
   simp[Rz,Tb,e1,e2,hwi,hlt]
   first|done|rfl|exact⟨rfl,rfl⟩
  ·have:i=l.length:=by omega
   subst this
   simp[ckL,X0,List.take_of_length_le]
 ·simp[p105,ckL,aiV,S6,K3,Sk,Um,UO,setCells]
  refine ZX 3 l.length (fun i=> [(0,.m (ckL {s.put 3 l with pm:=Ys s.h 3 s.pm (l.take i),lm:=ZM s.h 3 s.lm (l.take i)})),(3,.v (vi i))]) (fun _=>True) (by simp[ckL,Ck.put,Ys,ZM]) (by simp) trivial ?_
  intro i hi _
  have hwi:=Z1 ((i:Int)+1) (by omega) (by omega)
  by_cases hlt:i<l.length
  ·have hx:l[i]? =some l[i]:=List.getElem?_eq_getElem hlt
   have e1:=Xl (h:=s.h) (k:=3) (m:=s.pm) hx
   have e2:=Xd (h:=s.h) (k:=3) (m:=s.lm) hx
   have ko:=ka 3 (l[i]).at_
   simp[hlt,hx,hwi,ckL,idxV]
   refine Z0 ko (by simp) ?_
   simp[Rz,Tb,e1,e2,hwi,hlt]
   first|done|rfl|exact⟨rfl,rfl⟩
  ·have:i=l.length:=by omega
   subst this
   simp[ckL,X0,List.take_of_length_le]
 ·simp[p105,ckL,aiV,S6,K3,Sk,Um,UO,setCells]
  refine ZX 3 l.length (fun i=> [(0,.m (ckL {s.put 4 l with pm:=Ys s.h 4 s.pm (l.take i),lm:=ZM s.h 4 s.lm (l.take i)})),(3,.v (vi i))]) (fun _=>True) (by simp[ckL,Ck.put,Ys,ZM]) (by simp) trivial ?_
  intro i hi _
  have hwi:=Z1 ((i:Int)+1) (by omega) (by omega)
  by_cases hlt:i<l.length
  ·have hx:l[i]? =some l[i]:=List.getElem?_eq_getElem hlt
   have e1:=Xl (h:=s.h) (k:=4) (m:=s.pm) hx
   have e2:=Xd (h:=s.h) (k:=4) (m:=s.lm) hx
   have ko:=ka 4 (l[i]).at_
   simp[hlt,hx,hwi,ckL,idxV]
   refine Z0 ko (by simp) ?_
   simp[Rz,Tb,e1,e2,hwi,hlt]
   first|done|rfl|exact⟨rfl,rfl⟩
  ·have:i=l.length:=by omega
   subst this
   simp[ckL,X0,List.take_of_length_le]
end Vm
namespace Vm
open Go Go.Proofs
set_option maxRecDepth 100000
set_option maxHeartbeats 1000000
def boxP(s:Ck):V:= .ptr [ckP s]
theorem Jh{s:Ck}{a w:Int}(hw:U64 w):VC Tryz.prog 108 false [vi a,vu w,boxP s] (.bool (Zm s w 1 2)):=by
 refine Z3 Tryz.func108 follows (by kernel_rfl) c108 rfl ?_
 have k:=WP (s:=s) (first:=1) (last:=2) hw
 unfold boxP ckP at*
 simp[p108,oneV,V.one]
 refine Z0 k (by simp) ?_
 simp
theorem JQ{s:Ck}{a w:Int}(hw:U64 w):VC Tryz.prog 109 false [vi a,vu w,boxP s] (.bool (decide (s.h.scan≤a)||Zm s w 1 2)):=by
 refine Z3 Tryz.func109 follows (by kernel_rfl) c109 rfl ?_
 have k:=WP (s:=s) (first:=1) (last:=2) hw
 unfold boxP ckP at*
 by_cases h:s.h.scan≤a
 ·simp[p109,oneV,V.one,ckL,h]
 ·simp[p109,oneV,V.one,ckL,h]
  refine Z0 k (by simp[ckL]) ?_
  simp[h]
theorem RB{s:Ck}{a w:Int}(hw:U64 w):VC Tryz.prog 110 false [vi a,vu w,boxP s] (.bool (decide (a<s.h.scan)||Zm s w 1 4)):=by
 refine Z3 Tryz.func110 follows (by kernel_rfl) c110 rfl ?_
 have k:=WP (s:=s) (first:=1) (last:=4) hw
 unfold boxP ckP at*
 by_cases h:a<s.h.scan
 ·simp[p110,oneV,V.one,ckL,h]
 ·simp[p110,oneV,V.one,ckL,h]
  refine Z0 k (by simp[ckL]) ?_
  simp[h]
theorem La{s:Ck}{a w:Int}(hw:U64 w):VC Tryz.prog 111 false [vi a,vu w,boxP s] (.bool (Zm s w 3 4)):=by
 refine Z3 Tryz.func111 follows (by kernel_rfl) c111 rfl ?_
 have k:=WP (s:=s) (first:=3) (last:=4) hw
 unfold boxP ckP at*
 simp[p111,oneV,V.one]
 refine Z0 k (by simp) ?_
 simp
structure Ck.ok (s:Ck):Prop where
 h:s.h.ok
 ob: ∀k,∀o∈s.obs k,ObIn (Z5 s.h k).length o∧U64 o.target
 len: ∀k,(s.obs k).length≤1000000
def XC(ws:List Int)(k:Nat):Int:=(ws[k]?).getD 0
def obQ(s:Ck)(k:Int)(q:Int→Int→Bool)(o:Ob):Bool:=o.gone||(List.range o.ptrs.toNat).all fun j=>q ((o.at_.toNat+1+j:Nat):Int) (XC (Z5 s.h k) (o.at_.toNat+1+j))
def Wm(s:Ck)(k:Int)(q:Int→Int→Bool):Bool:=(s.obs k).all (obQ s k q)
theorem YO{s:Ck}(hs:s.ok){k:Int}(hk:1≤k∧k≤4){f:FuncId}{cs:List V}{q:Int→Int→Bool}(hq: ∀a w,U64 w→VC Tryz.prog f false ([vi a,vu w]++cs) (.bool (q a w))):
  VC Tryz.prog 107 false [ckP s,vi k,.clo f cs] (.bool (Wm s k q)):=by
 refine Z3 Tryz.func107 follows (by kernel_rfl) c107 rfl ?_
 simp[-List.all_eq_true,-List.all_eq_false,p107]
 refine Z0 (L1 hk) (by simp) ?_
 have hpt:fldV (.agg [.sl (s.o1.map obV),.sl (s.o2.map obV),.sl (s.o3.map obV),.sl (s.o4.map obV)]) 0=some (.sl (s.o1.map obV)):=rfl
 have hlen:=hs.len k
 have hob:=hs.ob k
 have hw:=(Ze hs.h k).1
 have hpl:=(Ze hs.h k).2
 have hai:aiV (.agg [.sl (s.o1.map obV),.sl (s.o2.map obV),.sl (s.o3.map obV),.sl (s.o4.map obV)]) (.int .i64 (IntKind.i64.wrap (k-1))) 4 1 true=some (.agg [.sl ((s.obs k).map obV)]):=by
  have:k=1∨k=2∨k=3∨k=4:=by omega
  rcases this with rfl|rfl|rfl|rfl<;>simp[aiV,Ck.obs,K3,Sk,Um,UO]
 unfold Wm
 generalize hL:s.obs k=L at*
 generalize hW:Z5 s.h k=ws at*
 simp[-List.all_eq_true,-List.all_eq_false,ckP,ckL,hai]
 refine Yn 5 L.length (fun i=>(L.take i).all (obQ s k q)=true) (by simp) (by simp) (by simp) ?_
 intro i hi hall
 have hwi:=Z1 ((i:Int)+1) (by omega) (by omega)
 by_cases hlt:i<L.length
 ·have hx:L[i]? =some L[i]:=List.getElem?_eq_getElem hlt
  obtain⟨⟨⟨a,ha,hfit⟩,hsh⟩,_⟩:=hob _ (List.getElem_mem hlt)
  generalize L[i]=o at*
  obtain⟨s1,s2,s3,s4⟩:=Z2.1 hsh
  obtain⟨m,hm⟩:=Int.eq_ofNat_of_zero_le s3
  have hwa:=Z1 ((a:Int)+1) (by omega) (by omega)
  have hnext:obQ s k q o=true→(L.take (i+1)).all (obQ s k q)=true:=fun h=>by rw[VJ hx,hall,h];rfl
  have hex:obQ s k q o=false→L.all (obQ s k q)=false:=fun hno=>Sa hx hno
  cases hg:o.gone
  ·have hobp:obQ s k q o=(List.range m).all fun j=>q ((a+1+j:Nat):Int) (XC ws (a+1+j)):=by
    unfold obQ
    rw[hm,ha,hW,hg]
    rfl
   simp[-List.all_eq_true,-List.all_eq_false,hlt,hx,Zh hx,idxV,hg,ha,hm]
   refine Yn 11 m (fun j=>((List.range j).all fun j=>q ((a+1+j:Nat):Int) (XC ws (a+1+j)))=true) (by simp) (by simp) (by simp) ?_
   intro j hj hal
   have hwj:=Z1 ((j:Int)+1) (by omega) (by omega)
   by_cases hjm:j<m
   ·obtain⟨w,hmw,hu⟩: ∃w,ws[a+1+j]? =some w∧U64 w:=⟨_,List.getElem?_eq_getElem (by omega),hw _ (List.getElem_mem _)⟩
    have hww:XC ws (a+1+j)=w:=by unfold XC;rw[hmw];rfl
    have hsucc:((List.range (j+1)).all fun j=>q ((a+1+j:Nat):Int) (XC ws (a+1+j)))=(((List.range j).all fun j=>q ((a+1+j:Nat):Int) (XC ws (a+1+j)))&&q ((a+1+j:Nat):Int) w):=by
     rw[List.range_succ,List.all_append];simp[hww]
    have hno:q ((a+1+j:Nat):Int) w=false→L.all (obQ s k q)=false:=fun hno=>hex (by
     rw[hobp]
     exact Sa (List.getElem?_range hjm) (by rw[hww];exact hno))
    obtain⟨n,hn⟩: ∃n,a+1+j=n:=⟨_,rfl⟩
    have hn1:(a:Int)+1+(j:Int)=(n:Int):=by omega
    have hwn:=Z1 (n:Int) (by omega) (by omega)
    rw[hn]at hmw hsucc hno
    have kq:=hq (n:Int) w hu
    simp[-List.all_eq_true,-List.all_eq_false,hjm,hwa,hn1,hwn,hmw,Zh hmw,idxV]
    refine Z0 kq (by simp) ?_
    cases hv:q (n:Int) w
    ·simp[-List.all_eq_true,-List.all_eq_false,hno hv]
    ·rw[hv]at hsucc
     rw[hal]at hsucc
     simp[-List.all_eq_true,-List.all_eq_false,hwj,hjm]
     simpa[-List.all_eq_true,-List.all_eq_false]using hsucc
   ·have:j=m:=by omega
    subst this
    simp[-List.all_eq_true,-List.all_eq_false,hwi,hlt,hnext (by rw[hobp];exact hal)]
  ·have hobp:obQ s k q o=true:=by unfold obQ;rw[hg];rfl
   simp[-List.all_eq_true,-List.all_eq_false,hlt,hx,Zh hx,idxV,hg,ha,hm,hwi,hnext hobp]
 ·have:i=L.length:=by omega
  subst this
  rw[List.take_length]at hall
  simp[-List.all_eq_true,-List.all_eq_false,hall]
@[simp] theorem Z53(l:List V):(V.ptr l).one=true:=rfl
@[simp] theorem Z47(l:List V):oneV (.ptr l)=some (.ptr l):=rfl
@[simp] theorem Z56(f:FuncId)(l:List V):(V.clo f l).one=true:=rfl
@[simp] theorem Z3W(f:FuncId)(l:List V):oneV (.clo f l)=some (.clo f l):=rfl
@[simp] theorem Z4e(s:Ck):oneV (ckP s)=some (ckP s):=rfl
@[simp] theorem Z59(s:Ck):(ckP s).one=true:=rfl
@[simp] theorem Z2Z(s:Ck):Tu (ckP s)=some (.agg (ckL s)):=rfl
@[simp] theorem Z48(s:Ck):(ckL s)[4]? =some (vi s.h.scan):=rfl
@[simp] theorem Z2z(s:Ck):(ckL s)[3]? =some (.bool s.h.cycle):=rfl
@[simp] theorem Z2p(s:Ck):(ckL s)[9]? =some (.sl (s.h.roots.map vu)):=rfl
@[simp] theorem Z4x(s:Ck):(ckL s)[5]? =some (.sl (s.h.low.map vu)):=rfl
@[simp] theorem Z3N(s:Ck):(ckL s)[6]? =some (.sl (s.h.high.map vu)):=rfl
@[simp] theorem Z4H(s:Ck):(ckL s)[7]? =some (.sl (s.h.old.map vu)):=rfl
@[simp] theorem Z4K(s:Ck):(ckL s)[8]? =some (.sl (s.h.far.map vu)):=rfl
@[simp] theorem Z4g(s:Ck):(ckL s)[1]? =some (vi s.h.cap):=rfl
def Xz(s:Ck):Bool:=s.h.roots.all (fun w=>Zm s w 1 2)&&(Wm s 2 (fun _ w=>Zm s w 1 2)&&Wm s 1 (fun a w=>decide (s.h.scan≤a)||Zm s w 1 2))
theorem LY{s:Ck}(hs:s.ok):VC Tryz.prog 93 false [ckP s] (.bool (Xz s)):=by
 refine Z3 Tryz.func93 follows (by kernel_rfl) c93 rfl ?_
 have k1:=YO hs (k:=2) (by omega) (f:=108) (cs:= [boxP s]) (q:=fun _ w=>Zm s w 1 2) (fun a w hw=>Jh hw)
 have k2:=YO hs (k:=1) (by omega) (f:=109) (cs:= [boxP s]) (q:=fun a w=>decide (s.h.scan≤a)||Zm s w 1 2) (fun a w hw=>JQ hw)
 have k0:=fun w (hw:U64 w)=>WP (s:=s) (first:=1) (last:=2) hw
 have hrl:=hs.h.roots
 have hrw:=hs.h.rootsW
 unfold Xz
 unfold boxP at k1 k2
 generalize Wm s 2 (fun _ w=>Zm s w 1 2)=b1 at*
 generalize Wm s 1 (fun a w=>decide (s.h.scan≤a)||Zm s w 1 2)=b2 at*
 simp[-List.all_eq_true,-List.all_eq_false,p93]
 refine Yn 3 s.h.roots.length (fun i=>(s.h.roots.take i).all (fun w=>Zm s w 1 2)=true) (by simp) (by simp) (by simp) ?_
 intro i hi hall
 have hwi:=Z1 ((i:Int)+1) (by omega) (by omega)
 by_cases hlt:i<s.h.roots.length
 ·have hx:s.h.roots[i]? =some s.h.roots[i]:=List.getElem?_eq_getElem hlt
  have hu:=hrw _ (List.getElem_mem hlt)
  generalize s.h.roots[i]=w at*
  have hex:Zm s w 1 2=false→s.h.roots.all (fun w=>Zm s w 1 2)=false:=fun hno=>Sa hx hno
  have hnext:=VJ (q:=fun w=>Zm s w 1 2) hx
  rw[hall]at hnext
  simp[-List.all_eq_true,-List.all_eq_false,hlt,hx,Zh hx,idxV]
  refine Z0 (k0 w hu) (by simp) ?_
  cases hv:Zm s w 1 2
  ·simp[-List.all_eq_true,-List.all_eq_false,hex hv]
  ·rw[hv]at hnext
   simp[-List.all_eq_true,-List.all_eq_false,hwi,hlt,hnext]
 ·have:i=s.h.roots.length:=by omega
  subst this
  rw[List.take_length]at hall
  simp[-List.all_eq_true,-List.all_eq_false,hall]
  refine Z0 k1 (by simp[flV,V.flatc]) ?_
  cases b1
  ·simp
  ·simp
   refine Z0 k2 (by simp[flV,V.flatc]) ?_
   simp
def Yu(s:Ck):Bool:=Wm s 1 (fun a w=>decide (a<s.h.scan)||Zm s w 1 4)
theorem Qr{s:Ck}(hs:s.ok):VC Tryz.prog 94 false [ckP s] (.bool (Yu s)):=by
 refine Z3 Tryz.func94 follows (by kernel_rfl) c94 rfl ?_
 have k1:=YO hs (k:=1) (by omega) (f:=110) (cs:= [boxP s]) (q:=fun a w=>decide (a<s.h.scan)||Zm s w 1 4) (fun a w hw=>RB hw)
 unfold Yu
 unfold boxP at k1
 simp[p94]
 refine Z0 k1 (by simp[flV,V.flatc]) ?_
 simp
def Q4(s:Ck):Bool:=Wm s 3 (fun _ w=>Zm s w 3 4)&&Wm s 4 (fun _ w=>Zm s w 3 4)
theorem Z0W{s:Ck}(hs:s.ok):VC Tryz.prog 95 false [ckP s] (.bool (Q4 s)):=by
 refine Z3 Tryz.func95 follows (by kernel_rfl) c95 rfl ?_
 have k1:=YO hs (k:=3) (by omega) (f:=111) (cs:= [boxP s]) (q:=fun _ w=>Zm s w 3 4) (fun a w hw=>La hw)
 have k2:=YO hs (k:=4) (by omega) (f:=111) (cs:= [boxP s]) (q:=fun _ w=>Zm s w 3 4) (fun a w hw=>La hw)
 unfold Q4
 unfold boxP at k1 k2
 generalize Wm s 3 (fun _ w=>Zm s w 3 4)=b1 at*
 generalize Wm s 4 (fun _ w=>Zm s w 3 4)=b2 at*
 simp[p95]
 refine Z0 k1 (by simp[flV,V.flatc]) ?_
 cases b1
 ·simp
 ·simp
  refine Z0 k2 (by simp[flV,V.flatc]) ?_
  simp
end Vm
namespace Vm
open Go Go.Proofs
set_option maxRecDepth 100000
set_option maxHeartbeats 1000000
def Xr(s:Ck):Bool:=Z7 (layH s.h)&&(decide (s.h.roots.length≤16)&&(decide (0≤s.h.scan)&&decide (s.h.scan≤s.h.low.length)))
theorem Lr{s:Ck}(hs:s.h.ok):VC Tryz.prog 89 false [ckP s] (.bool (Xr s)):=by
 refine Z3 Tryz.func89 follows (by kernel_rfl) c89 rfl ?_
 have k:=WL hs.lay
 unfold Xr
 unfold layH lyV at k
 simp[p89]
 simp[ckL]
 refine Z0 k (by simp) ?_
 have e:Z7 {base:=s.h.base,cap:=s.h.cap,to:=s.h.to,low:=(s.h.low.length:Int),high:=(s.h.high.length:Int),old:=(s.h.old.length:Int),far:=(s.h.far.length:Int)}=Z7 (layH s.h):=rfl
 rw[e]
 cases Z7 (layH s.h)
 ·simp
 by_cases h1:s.h.roots.length≤16
 ·have h1':(s.h.roots.length:Int)≤16:=by omega
  by_cases h2:0≤s.h.scan<;>by_cases h3:s.h.scan≤s.h.low.length<;>simp[h1,h1',h2,h3]
 ·have h1': ¬(s.h.roots.length:Int)≤16:=by omega
  simp[h1,h1']
def Wj(s:Ck):Bool:=if s.h.cycle then decide (s.h.scan<s.h.low.length)else decide (s.h.old.length=0)&&(decide (s.h.far.length=0)&&decide (s.h.scan=s.h.low.length))
theorem LS{s:Ck}:VC Tryz.prog 90 false [ckP s] (.bool (Wj s)):=by
 refine Z3 Tryz.func90 follows (by kernel_rfl) c90 rfl ?_
 unfold Wj
 cases hc:s.h.cycle
 ·by_cases h1:s.h.old.length=0
  ·have h1':s.h.old= []:=List.length_eq_zero_iff.1 h1
   by_cases h2:s.h.far.length=0
   ·have h2':s.h.far= []:=List.length_eq_zero_iff.1 h2
    simp[p90,hc,h1',h2']
   ·have h2': ¬s.h.far= []:=fun e=>h2 (by simp[e])
    simp[p90,hc,h1',h2,h2']
  ·have h1': ¬s.h.old= []:=fun e=>h1 (by simp[e])
   simp[p90,hc,h1,h1']
 ·simp[p90,hc]
def K4(s:Ck):Nat:=wtL s.o3+wtL s.o4
@[simp] theorem Z5C(s:Ck):((ckL s).drop 17).take 4= [.sl (s.o1.map obV),.sl (s.o2.map obV),.sl (s.o3.map obV),.sl (s.o4.map obV)]:=rfl
@[simp] theorem Z4y(s:Ck):(ckL s).length=23:=rfl
theorem JN{s:Ck}(hs:s.ok):VC Tryz.prog 112 false [ckP s] (vi (K4 s)):=by
 refine Z3 Tryz.func112 follows (by kernel_rfl) c112 rfl ?_
 have hsh: ∀k,∀o∈s.obs k,Zf o.size o.ptrs=true:=fun k o ho=>(hs.ob k o ho).1.2
 have hl3:s.o3.length≤1000000:=hs.len 3
 have hl4:s.o4.length≤1000000:=hs.len 4
 have hs3: ∀o∈s.o3,Zf o.size o.ptrs=true:=hsh 3
 have hs4: ∀o∈s.o4,Zf o.size o.ptrs=true:=hsh 4
 have hb3:=Wl hs3
 have hb4:=Wl hs4
 have a3:aiV (.agg [.sl (s.o1.map obV),.sl (s.o2.map obV),.sl (s.o3.map obV),.sl (s.o4.map obV)]) (.int .i64 2) 4 1 true=some (.agg [.sl (s.o3.map obV)]):=by simp[aiV]
 have a4:aiV (.agg [.sl (s.o1.map obV),.sl (s.o2.map obV),.sl (s.o3.map obV),.sl (s.o4.map obV)]) (.int .i64 3) 4 1 true=some (.agg [.sl (s.o4.map obV)]):=by simp[aiV]
 simp[p112]
 refine Zz (fun(i:Nat)=> [(2,.v (vi ((if 0<i then wtL s.o3 else 0)+(if 1<i then wtL s.o4 else 0):Nat))),(3,.v (vi ((i+3:Nat):Int)))]) (fun i=>i≤2) (cnt 3 5) 0 (by simp) (by simp) ?_
 rintro i hi
 have hi':i=0∨i=1∨i=2:=by omega
 rcases hi' with rfl|rfl|rfl
 ·simp[Um,a3]
  refine ZX 5 s.o3.length (fun j=> [(2,.v (vi (wtL (s.o3.take j)))),(5,.v (vi j))]) (fun _=>True) (by simp[wtL]) (fun i=>by simp) trivial ?_
  rintro j hj-
  have hwj:=Z1 ((j:Int)+1) (by omega) (by omega)
  by_cases h1:j<s.o3.length
  ·have hx:s.o3[j]? =some s.o3[j]:=List.getElem?_eq_getElem h1
   have hsx:=hs3 _ (List.getElem_mem h1)
   have hsc:=UX hx
   generalize s.o3[j]=o at*
   have hle:wtL (s.o3.take j)≤256*s.o3.length:=by
    refine Nat.le_trans (Wl fun o ho=>hs3 o (List.mem_of_mem_take ho)) ?_
    simp;omega
   obtain⟨g1,g2,g3,g4⟩:=Z2.1 hsx
   obtain⟨z,hz⟩:=Int.eq_ofNat_of_zero_le g1
   have w1:=Z1 (1+(z:Int)) (by omega) (by omega)
   have w2:=Z1 ((wtL (s.o3.take j):Int)+(1+z)) (by omega) (by omega)
   cases hg:o.gone
   ·have hwo:wtO o=1+z:=by simp[wtO,hg,hz]
    simp[idxV,h1,hx,Zh hx,hg,hz,w1,w2,hwj,hsc,hwo]
   ·have hwo:wtO o=0:=by simp[wtO,hg]
    simp[idxV,h1,hx,Zh hx,hg,hwj,hsc,hwo]
  ·have:j=s.o3.length:=by omega
   subst this
   rw[List.take_length]
   simp[idxV,Z1]
   exact⟨1,by omega,by simp,by simp[cnt]⟩
 ·simp[UO,a4]
  refine ZX 5 s.o4.length (fun j=> [(2,.v (vi (wtL s.o3+wtL (s.o4.take j):Nat))),(5,.v (vi j))]) (fun _=>True) (by simp[wtL]) (fun i=>by simp) trivial ?_
  rintro j hj-
  have hwj:=Z1 ((j:Int)+1) (by omega) (by omega)
  by_cases h1:j<s.o4.length
  ·have hx:s.o4[j]? =some s.o4[j]:=List.getElem?_eq_getElem h1
   have hsx:=hs4 _ (List.getElem_mem h1)
   have hsc:=UX hx
   generalize s.o4[j]=o at*
   have hle:wtL (s.o4.take j)≤256*s.o4.length:=by
    refine Nat.le_trans (Wl fun o ho=>hs4 o (List.mem_of_mem_take ho)) ?_
    simp;omega
   obtain⟨g1,g2,g3,g4⟩:=Z2.1 hsx
   obtain⟨z,hz⟩:=Int.eq_ofNat_of_zero_le g1
   have w1:=Z1 (1+(z:Int)) (by omega) (by omega)
   have w2:=Z1 ((wtL s.o3:Int)+wtL (s.o4.take j)+(1+z)) (by omega) (by omega)
   cases hg:o.gone
   ·have hwo:wtO o=1+z:=by simp[wtO,hg,hz]
    simp[idxV,h1,hx,Zh hx,hg,hz,w1,w2,hwj,hsc,hwo]
    omega
   ·have hwo:wtO o=0:=by simp[wtO,hg]
    simp[idxV,h1,hx,Zh hx,hg,hwj,hsc,hwo]
  ·have:j=s.o4.length:=by omega
   subst this
   rw[List.take_length]
   simp[idxV,Z1]
   exact⟨2,by omega,by simp,by simp[cnt]⟩
 ·simp[K4]
def Uz(s:Ck):Bool:=decide ((s.h.low.length:Int)+s.h.high.length+K4 s≤s.h.cap)
theorem jx{s:Ck}(hs:s.ok):K4 s≤512*1000000:=by
 have hb3:=Wl (l:=s.o3) fun o ho=>(hs.ob 3 o ho).1.2
 have hb4:=Wl (l:=s.o4) fun o ho=>(hs.ob 4 o ho).1.2
 have hl3:s.o3.length≤1000000:=hs.len 3
 have hl4:s.o4.length≤1000000:=hs.len 4
 unfold K4
 omega
theorem jy{s:Ck}(hs:s.ok):VC Tryz.prog 96 false [ckP s] (.bool (Uz s)):=by
 refine Z3 Tryz.func96 follows (by kernel_rfl) c96 rfl ?_
 have h1:=jx hs
 have h2:=hs.h.low
 have h3:=hs.h.high
 have w1:=Z1 ((s.h.low.length:Int)+s.h.high.length) (by omega) (by omega)
 have w2:=Z1 ((s.h.low.length:Int)+s.h.high.length+K4 s) (by omega) (by omega)
 simp[p96]
 refine Z0 (JN hs) (by simp) ?_
 simp[w1,w2,Uz]
end Vm
namespace Vm
open Go Go.Proofs
set_option maxRecDepth 100000
set_option maxHeartbeats 1000000
def Y1(lm:List (Int×(Int×Int)))(ws:List Int):Nat→Nat→List (Int×Int)→List (Int×Int)
 |0,_,acc=>acc
 |f+1,i,acc=>
  match ws[i]? with
  |none=>acc
  |some w=>if(adr w).2=0 then(match getA lm (adr w).1 with|none=>acc|some sh=>Y1 lm ws f (i+1+sh.1.toNat) (acc++ [sh]))
   else if(unpk w).2.2=0 then Y1 lm ws f (i+1+(unpk w).1.toNat) acc else acc
def YB(lm:List (Int×(Int×Int)))(ws:List Int):List (Int×Int):=Y1 lm ws (ws.length+1) 0 []
theorem KA{α:Type}{l:List (Int×α)}{k:Int}{x:α}(h:getA l k=some x):(k,x)∈l:=by
 unfold getA at h
 obtain⟨y,hy,rfl⟩:=Option.map_eq_some_iff.1 h
 have h1:=List.mem_of_find?_eq_some hy
 have h2:=List.find?_some hy
 have:y.1=k:=by simpa using h2
 rw[←this]
 exact h1
theorem LC{s:Ck}(hlm: ∀x∈s.lm,Zf x.2.1 x.2.2=true){ws:List Int}(hl:ws.length≤1000000)(hw: ∀w∈ws,U64 w):
  VC Tryz.prog 104 false [ckP s,.sl (ws.map vu)] (.sl ((YB s.lm ws).map shP)):=by
 refine Z3 Tryz.func104 follows (by kernel_rfl) c104 rfl ?_
 have hlk: ∀k,lkV (.i .u64) (mpA shP s.lm) (vu k) (.agg [vi 0,vi 0]) true=match getA s.lm k with
  |some x=>some (.tup [shP x,.bool true])
  |none=>some (.tup [.agg [vi 0,vi 0],.bool false]):=fun k=>by rw[jG];cases getA s.lm k<;>simp
 have h22:(ckL s)[22]? =some (mpA shP s.lm):=rfl
 simp[p104]
 refine Zz (fun(p:Nat×List (Int×Int))=> [(3,.v (.sl (p.2.map shP))),(4,.v (vi p.1))])
  (fun p=>p.1≤ws.length+256∧p.2.length≤p.1∧ ∃f,ws.length<f+p.1∧0<f∧YB s.lm ws=Y1 s.lm ws f p.1 p.2) (cnt 4 ws.length) (0,[]) (by simp) ⟨by simp,by simp,ws.length+1,by simp,by omega,rfl⟩ ?_
 rintro⟨i,acc⟩ ⟨hi,hacc,f,hf,hf0,hR⟩
 simp only at hi hacc hf hR
 cases f with
 |zero=>omega
 |succ f=>
 by_cases hlt:i<ws.length
 ·have hx:ws[i]? =some ws[i]:=List.getElem?_eq_getElem hlt
  have hu:=hw _ (List.getElem_mem hlt)
  generalize ws[i]=w at*
  simp only[Y1,hx]at hR
  have hlim:acc.length+1≤lim:=by simp[lim];omega
  simp[hlt,hx,Zh hx,idxV]
  refine Z0 (Ks hu) (by simp) ?_
  by_cases ha:(adr w).2=0
  ·rw[if_pos ha]at hR
   simp[ha,h22,hlk]
   cases hat:getA s.lm (adr w).1 with
   |none=>
    rw[hat]at hR
    simp only at hR
    rw[hR]
    simp
   |some sh=>
    rw[hat]at hR
    simp only at hR
    have hsh:0≤sh.1∧sh.1≤255∧0≤sh.2∧sh.2≤sh.1:=Z2.1 (hlm _ (KA hat))
    obtain⟨z,hz⟩:=Int.eq_ofNat_of_zero_le hsh.1
    have hw1:=Z1 (1+(z:Int)) (by omega) (by omega)
    have hw2:=Z1 ((i:Int)+(1+z)) (by omega) (by omega)
    rw[hz,Int.toNat_natCast]at hR
    simp[hlim,hz,hw1,hw2]
    refine⟨i+1+z,acc++ [sh],⟨by omega,by simp;omega,f,by omega,?_,hR⟩,⟨by simp[shP,hz],by omega⟩,by simp[cnt];omega⟩
    omega
  ·rw[if_neg ha]at hR
   simp[ha,hx,Zh hx,hlt,idxV]
   refine Z0 (zI hu) (by simp) ?_
   by_cases hun:(unpk w).2.2=0
   ·rw[if_pos hun]at hR
    have hsh:=Z2.1 (Uc hun)
    obtain⟨z,hz⟩:=Int.eq_ofNat_of_zero_le hsh.1
    have hw1:=Z1 (1+(z:Int)) (by omega) (by omega)
    have hw2:=Z1 ((i:Int)+(1+z)) (by omega) (by omega)
    rw[hz,Int.toNat_natCast]at hR
    simp[hun,hz,hw1,hw2]
    refine⟨i+1+z,acc,⟨by omega,by omega,f,by omega,?_,hR⟩,⟨rfl,by omega⟩,by simp[cnt];omega⟩
    omega
   ·rw[if_neg hun]at hR
    rw[hR]
    simp[hun]
 ·have hx:ws[i]? =none:=List.getElem?_eq_none (by omega)
  simp only[Y1,hx]at hR
  rw[hR]
  have: ¬((i:Int) <ws.length):=by omega
  simp[hlt,this]
end Vm
namespace Vm
open Go Go.Proofs
set_option maxRecDepth 100000
set_option maxHeartbeats 1000000
def copQ(pm:List (Int×Int)):List Ob→List (Int×Bool)→Option (List (Int×Bool))
 | [],m=>some m
 |o::l,m=>if o.gone=true then(if(getA pm o.target).getD 0=1∧(getA m o.target).getD false=false then copQ pm l (putA m o.target true)else none)else copQ pm l m
def Xw(s:Ck):Bool:= !s.h.cycle||match(copQ s.pm s.o3 []).bind (copQ s.pm s.o4)with
 |none=>false
 |some m=>decide (m.length=s.o1.length)
theorem yh{l:List (Int×Bool)}{k:Int}{x:Bool}:Rv (.i .u64) (mpA .bool l) (vu k) (.bool x)=some (mpA .bool (putA l k x)):=JX
theorem zn{l:List (Int×Bool)}{k:Int}:lkV (.i .u64) (mpA .bool l) (vu k) (.bool false) false=some (.bool ((getA l k).getD false)):=by
 rw[jG];cases getA l k<;>simp
theorem Lf{l:List (Int×Int)}{k:Int}:lkV (.i .u64) (mpA vi l) (vu k) (vi 0) false=some (vi ((getA l k).getD 0)):=by
 rw[jG];cases getA l k<;>simp
theorem zS{α:Type}(f:α→V):mpA f []= .mp 0 [] []:=rfl
theorem zy{s:Ck}(hs:s.ok):VC Tryz.prog 92 false [ckP s] (.bool (Xw s)):=by
 refine Z3 Tryz.func92 follows (by kernel_rfl) c92 rfl ?_
 have hl3:s.o3.length≤1000000:=hs.len 3
 have hl4:s.o4.length≤1000000:=hs.len 4
 have hu3: ∀o∈s.o3,U64 o.target:=fun o ho=>(hs.ob 3 o ho).2
 have hu4: ∀o∈s.o4,U64 o.target:=fun o ho=>(hs.ob 4 o ho).2
 have a3:aiV (.agg [.sl (s.o1.map obV),.sl (s.o2.map obV),.sl (s.o3.map obV),.sl (s.o4.map obV)]) (.int .i64 2) 4 1 true=some (.agg [.sl (s.o3.map obV)]):=by simp[aiV]
 have a4:aiV (.agg [.sl (s.o1.map obV),.sl (s.o2.map obV),.sl (s.o3.map obV),.sl (s.o4.map obV)]) (.int .i64 3) 4 1 true=some (.agg [.sl (s.o4.map obV)]):=by simp[aiV]
 have a1:aiV (.agg [.sl (s.o1.map obV),.sl (s.o2.map obV),.sl (s.o3.map obV),.sl (s.o4.map obV)]) (.int .i64 0) 4 1 true=some (.agg [.sl (s.o1.map obV)]):=by simp[aiV]
 have h21:(ckL s)[21]? =some (mpA vi s.pm):=rfl
 have hm0:=(zS V.bool).symm
 unfold Xw
 cases hc:s.h.cycle
 ·simp[p92,hc]
 simp[p92,hc,hm0]
 refine Zz (fun(p:Nat×List (Int×Bool))=> [(3,.v (mpA .bool p.2)),(4,.v (vi ((p.1+3:Nat):Int)))])
  (fun p=>(p.1=0∧p.2= [])∨(p.1=1∧copQ s.pm s.o3 []=some p.2)∨(p.1=2∧(copQ s.pm s.o3 []).bind (copQ s.pm s.o4)=some p.2)) (cnt 4 5) (0,[]) (by simp) (by simp) ?_
 rintro⟨i,m⟩ (⟨rfl,rfl⟩ | ⟨rfl,hm⟩ | ⟨rfl,hm⟩)
 ·simp[Um,a3]
  refine Zz (fun(p:Nat×List (Int×Bool))=> [(3,.v (mpA .bool p.2)),(6,.v (vi p.1))]) (fun p=>p.1≤s.o3.length∧copQ s.pm s.o3 []=copQ s.pm (s.o3.drop p.1) p.2) (cnt 6 s.o3.length) (0,[]) (by simp) (by simp) ?_
  rintro⟨j,mj⟩ ⟨hj,he⟩
  simp only at hj he
  have hwj:=Z1 ((j:Int)+1) (by omega) (by omega)
  by_cases h1:j<s.o3.length
  ·have hx:s.o3[j]? =some s.o3[j]:=List.getElem?_eq_getElem h1
   have hd:=List.drop_eq_getElem_cons h1
   have hut:=hu3 _ (List.getElem_mem h1)
   generalize s.o3[j]=o at*
   rw[hd,copQ]at he
   cases hg:o.gone
   ·rw[hg]at he
    rw[if_neg (by simp)]at he
    simp[idxV,h1,hx,Zh hx,hg,hwj]
    exact⟨j+1,mj,⟨by omega,he⟩,⟨rfl,by omega⟩,by simp[cnt];omega⟩
   ·rw[hg]at he
    rw[if_pos rfl]at he
    by_cases h2:(getA s.pm o.target).getD 0=1
    ·cases h3:(getA mj o.target).getD false
     ·rw[if_pos ⟨h2,h3⟩]at he
      simp[idxV,h1,hx,Zh hx,hg,hwj,h21,Lf,zn,flV,V.flatc,h2,h3,yh]
      exact⟨j+1,putA mj o.target true,⟨by omega,he⟩,⟨rfl,by omega⟩,by simp[cnt];omega⟩
     ·rw[if_neg (by simp[h3])]at he
      simp[idxV,h1,hx,Zh hx,hg,hwj,h21,Lf,zn,flV,V.flatc,h2,h3,he]
    ·rw[if_neg (by simp[h2])]at he
     simp[idxV,h1,hx,Zh hx,hg,hwj,h21,Lf,zn,flV,V.flatc,h2,he]
  ·have:j=s.o3.length:=by omega
   subst this
   rw[List.drop_length,copQ]at he
   simp[Z1]
   exact⟨1,mj,by simp[he],by simp,by simp[cnt]⟩
 ·simp[UO,a4]
  refine Zz (fun(p:Nat×List (Int×Bool))=> [(3,.v (mpA .bool p.2)),(6,.v (vi p.1))]) (fun p=>p.1≤s.o4.length∧copQ s.pm s.o4 m=copQ s.pm (s.o4.drop p.1) p.2) (cnt 6 s.o4.length) (0,m) (by simp) (by simp) ?_
  rintro⟨j,mj⟩ ⟨hj,he⟩
  simp only at hj he
  have hwj:=Z1 ((j:Int)+1) (by omega) (by omega)
  by_cases h1:j<s.o4.length
  ·have hx:s.o4[j]? =some s.o4[j]:=List.getElem?_eq_getElem h1
   have hd:=List.drop_eq_getElem_cons h1
   have hut:=hu4 _ (List.getElem_mem h1)
   generalize s.o4[j]=o at*
   rw[hd,copQ]at he
   cases hg:o.gone
   ·rw[hg]at he
    rw[if_neg (by simp)]at he
    simp[idxV,h1,hx,Zh hx,hg,hwj]
    exact⟨j+1,mj,⟨by omega,he⟩,⟨rfl,by omega⟩,by simp[cnt];omega⟩
   ·rw[hg]at he
    rw[if_pos rfl]at he
    by_cases h2:(getA s.pm o.target).getD 0=1
    ·cases h3:(getA mj o.target).getD false
     ·rw[if_pos ⟨h2,h3⟩]at he
      simp[idxV,h1,hx,Zh hx,hg,hwj,h21,Lf,zn,flV,V.flatc,h2,h3,yh]
      exact⟨j+1,putA mj o.target true,⟨by omega,he⟩,⟨rfl,by omega⟩,by simp[cnt];omega⟩
     ·rw[if_neg (by simp[h3])]at he
      simp[idxV,h1,hx,Zh hx,hg,hwj,h21,Lf,zn,flV,V.flatc,h2,h3,hm,he]
    ·rw[if_neg (by simp[h2])]at he
     simp[idxV,h1,hx,Zh hx,hg,hwj,h21,Lf,zn,flV,V.flatc,h2,hm,he]
  ·have:j=s.o4.length:=by omega
   subst this
   rw[List.drop_length,copQ]at he
   simp[Z1]
   exact⟨2,mj,by simp[hm,he],by simp,by simp[cnt]⟩
 ·simp[K3,Um,a1]
  rw[hm]
  simp
  omega
end Vm
namespace Vm
open Go Go.Proofs
set_option maxRecDepth 100000
set_option maxHeartbeats 1000000
def QS:Prop:= ∀ws:List Int,ws.length≤1000000→(∀w∈ws,U64 w)→VC Tryz.prog 101 true [.sl (ws.map vu)] (.tup [.sl ((Zg ws [] false).1.map obV),vi (Zg ws [] false).2])
def WB:Prop:= ∀(ws:List Int) (shs:List (Int×Int)),ws.length≤1000000→shs.length≤1000000→(∀w∈ws,U64 w)→(∀x∈shs,Zf x.1 x.2=true)→
 VC Tryz.prog 103 true [.sl (ws.map vu),.sl (shs.map shP)] (.tup [.sl ((Zg ws shs true).1.map obV),vi (Zg ws shs true).2])
def Zn(s:Ck)(k:Int):List Ob×Int:=if k≤2 then Zg (Z5 s.h k) [] false else Zg (Z5 s.h k) (YB s.lm (Z5 s.h k)) true
def Y6:List Int→Ck→Bool×Ck
 | [],s=>(true,s)
 |k::l,s=>if(Zn s k).2=0 then Y6 l (X0 s k (Zn s k).1)else(false,s)
def ZH(s:Ck):Bool×Ck:=Y6 [1,2,3,4] s
theorem Vr(s:Ck)(k:Int)(l:List Ob):(X0 s k l).h=s.h:=Z4J s k l
theorem jJ{α:Type}{l:List (Int×α)}{k:Int}{x:α}{y:Int×α}(h:y∈putA l k x):y=(k,x)∨y∈l:=by
 unfold putA at h
 split at h
 ·rcases List.mem_or_eq_of_mem_set h with h|h
  ·exact .inr h
  ·exact .inl h
 ·rcases List.mem_append.1 h with h|h
  ·exact .inr h
  ·simp at h;exact .inl h
theorem XV{h:Hp}{k:Int}: ∀ {l:List Ob} {m:List (Int×(Int×Int))},(∀o∈l,Zf o.size o.ptrs=true)→(∀x∈m,Zf x.2.1 x.2.2=true)→ ∀x∈ZM h k m l,Zf x.2.1 x.2.2=true
 | [],m,_,hm=>hm
 |o::l,m,ho,hm=>by
  rw[ZM]
  refine XV (fun p hp=>ho p (List.mem_cons_of_mem _ hp)) ?_
  split
  ·intro x hx
   rcases jJ hx with rfl|hx
   ·exact ho o (.head _)
   ·exact hm x hx
  ·exact hm
theorem Xh{s:Ck}(hh:s.h.ok){k:Int}:(∀o∈(Zn s k).1,ObIn (Z5 s.h k).length o∧U64 o.target)∧(Zn s k).1.length≤(Z5 s.h k).length:=by
 unfold Zn
 split
 ·exact⟨W7 (Ze hh k).1,Xp⟩
 ·exact⟨W7 (Ze hh k).1,Xp⟩
theorem Vy{lm:List (Int×(Int×Int))}{ws:List Int}: ∀ {f i:Nat} {acc:List (Int×Int)},acc.length≤i→acc.length≤ws.length→(Y1 lm ws f i acc).length≤ws.length
 |0,i,acc,_,h=>h
 |f+1,i,acc,hi,h=>by
  rw[Y1]
  cases hx:ws[i]? with
  |none=>exact h
  |some w=>
   have hlt:i<ws.length:=(List.getElem?_eq_some_iff.1 hx).1
   simp only
   split
   ·split
    ·exact h
    ·exact Vy (by simp;omega) (by simp;omega)
   ·split
    ·exact Vy (by omega) h
    ·exact h
theorem Tz{lm:List (Int×(Int×Int))}{ws:List Int}:(YB lm ws).length≤ws.length:=Vy (by simp) (by simp)
theorem V0{lm:List (Int×(Int×Int))}{ws:List Int}(hlm: ∀x∈lm,Zf x.2.1 x.2.2=true): ∀ {f i:Nat} {acc:List (Int×Int)},(∀x∈acc,Zf x.1 x.2=true)→ ∀x∈Y1 lm ws f i acc,Zf x.1 x.2=true
 |0,i,acc,h=>h
 |f+1,i,acc,h=>by
  rw[Y1]
  cases hx:ws[i]? with
  |none=>exact h
  |some w=>
   simp only
   split
   ·split
    ·exact h
    ·rename_i sh hsh
     refine V0 hlm ?_
     intro x hx
     rcases List.mem_append.1 hx with hx|hx
     ·exact h x hx
     ·simp at hx;subst hx;exact hlm _ (KA hsh)
   ·split
    ·exact V0 hlm h
    ·exact h
theorem Z07:IntKind.i64.wrap 4=4:=by decide
theorem zp(hW:QS)(hWO:WB){s:Ck}(hh:s.h.ok)(hlm: ∀x∈s.lm,Zf x.2.1 x.2.2=true):VCM Tryz.prog 91 [.mem ckK] [.agg (ckL s)] (.tup [.bool (ZH s).1,.agg (ckL (ZH s).2)]):=by
 refine Qi Tryz.func91 follows (by kernel_rfl) c91 (by kernel_rfl) ?_
 simp[p91]
 refine Zz (fun(p:Nat×Ck)=> [(0,.m (ckL p.2)),(3,.v (vi p.1))]) (fun p=>p.1≤4∧p.2.h=s.h∧(∀x∈p.2.lm,Zf x.2.1 x.2.2=true)∧ZH s=Y6 ([1,2,3,4].drop p.1) p.2) (cnt 3 4) (0,s) (by simp) ⟨by simp,rfl,hlm,rfl⟩ ?_
 rintro⟨i,q⟩ ⟨hi,hq,hql,hR⟩
 simp only at hi hq hql hR
 have hqh:q.h.ok:=hq▸hh
 have hi':i=0∨i=1∨i=2∨i=3∨i=4:=by omega
 have kw:=fun k hk=>L1 (s:=q) (k:=k) hk
 have ks:=fun k=>LC (s:=q) hql (Ze hqh k).2 (Ze hqh k).1
 rcases hi' with rfl|rfl|rfl|rfl|rfl
 ·replace kw:=kw 1 (by omega)
  have st:=Xh hqh (k:=1)
  have kn:=T3 (s:=q) hqh (k:=1) (by omega) (l:=(Zn q 1).1) (Nat.le_trans st.2 (Ze hqh 1).2)
  have k1:=hW _ (Ze hqh 1).2 (Ze hqh 1).1
  have hsh:=XV (h:=q.h) (k:=1) (l:=(Zn q 1).1) (m:=q.lm) (fun o ho=>(st.1 o ho).1.2) hql
  replace hR:ZH s=Y6 (1:: [2,3,4]) q:=hR
  rw[Y6]at hR
  have hws:Zn q 1=Zg (Z5 q.h 1) [] false:=rfl
  rw[←hws]at k1
  generalize Zn q 1=z at*
  obtain⟨l,e⟩:=z
  simp only at k1 kn hR hsh st
  unfold ckP ckL at kw
  unfold ckL at kn
  simp[ckL,Sk,Um,UO,Z07]
  refine Z0 kw (by simp) ?_
  simp
  refine Z0 k1 (by simp) ?_
  simp
  by_cases he:e=0
  ·rw[if_pos he]at hR
   simp[he]
   refine Wp kn ?_
   simp[Z1]
   exact⟨1,X0 q 1 l,⟨by omega,by rw[Vr,hq],fun a b c h=>hsh (a,b,c) h,hR⟩,⟨by simp,rfl⟩,by simp[cnt]⟩
  ·rw[if_neg he]at hR
   simp[he,hR,ckL]
 ·replace kw:=kw 2 (by omega)
  have st:=Xh hqh (k:=2)
  have kn:=T3 (s:=q) hqh (k:=2) (by omega) (l:=(Zn q 2).1) (Nat.le_trans st.2 (Ze hqh 2).2)
  have k1:=hW _ (Ze hqh 2).2 (Ze hqh 2).1
  have hsh:=XV (h:=q.h) (k:=2) (l:=(Zn q 2).1) (m:=q.lm) (fun o ho=>(st.1 o ho).1.2) hql
  replace hR:ZH s=Y6 (2:: [3,4]) q:=hR
  rw[Y6]at hR
  have hws:Zn q 2=Zg (Z5 q.h 2) [] false:=rfl
  rw[←hws]at k1
  generalize Zn q 2=z at*
  obtain⟨l,e⟩:=z
  simp only at k1 kn hR hsh st
  unfold ckP ckL at kw
  unfold ckL at kn
  simp[ckL,Sk,Um,UO,Z07]
  refine Z0 kw (by simp) ?_
  simp
  refine Z0 k1 (by simp) ?_
  simp
  by_cases he:e=0
  ·rw[if_pos he]at hR
   simp[he]
   refine Wp kn ?_
   simp[Z1]
   exact⟨2,X0 q 2 l,⟨by omega,by rw[Vr,hq],fun a b c h=>hsh (a,b,c) h,hR⟩,⟨by simp,rfl⟩,by simp[cnt]⟩
  ·rw[if_neg he]at hR
   simp[he,hR,ckL]
 ·replace kw:=kw 3 (by omega)
  have st:=Xh hqh (k:=3)
  have kn:=T3 (s:=q) hqh (k:=3) (by omega) (l:=(Zn q 3).1) (Nat.le_trans st.2 (Ze hqh 3).2)
  have k1:=hWO _ (YB q.lm (Z5 q.h 3)) (Ze hqh 3).2 (Nat.le_trans Tz (Ze hqh 3).2) (Ze hqh 3).1 (V0 hql (by simp))
  replace ks:=ks 3
  have hsh:=XV (h:=q.h) (k:=3) (l:=(Zn q 3).1) (m:=q.lm) (fun o ho=>(st.1 o ho).1.2) hql
  replace hR:ZH s=Y6 (3:: [4]) q:=hR
  rw[Y6]at hR
  have hws:Zn q 3=Zg (Z5 q.h 3) (YB q.lm (Z5 q.h 3)) true:=rfl
  rw[←hws]at k1
  generalize Zn q 3=z at*
  obtain⟨l,e⟩:=z
  simp only at k1 kn hR hsh st
  unfold ckP ckL at kw ks
  unfold ckL at kn
  simp[ckL,Sk,Um,UO,Z07]
  refine Z0 kw (by simp) ?_
  simp
  refine Z0 kw (by simp) ?_
  simp
  refine Z0 ks (by simp) ?_
  simp
  refine Z0 k1 (by simp) ?_
  simp
  by_cases he:e=0
  ·rw[if_pos he]at hR
   simp[he]
   refine Wp kn ?_
   simp[Z1]
   exact⟨3,X0 q 3 l,⟨by omega,by rw[Vr,hq],fun a b c h=>hsh (a,b,c) h,hR⟩,⟨by simp,rfl⟩,by simp[cnt]⟩
  ·rw[if_neg he]at hR
   simp[he,hR,ckL]
 ·replace kw:=kw 4 (by omega)
  have st:=Xh hqh (k:=4)
  have kn:=T3 (s:=q) hqh (k:=4) (by omega) (l:=(Zn q 4).1) (Nat.le_trans st.2 (Ze hqh 4).2)
  have k1:=hWO _ (YB q.lm (Z5 q.h 4)) (Ze hqh 4).2 (Nat.le_trans Tz (Ze hqh 4).2) (Ze hqh 4).1 (V0 hql (by simp))
  replace ks:=ks 4
  have hsh:=XV (h:=q.h) (k:=4) (l:=(Zn q 4).1) (m:=q.lm) (fun o ho=>(st.1 o ho).1.2) hql
  replace hR:ZH s=Y6 (4:: []) q:=hR
  rw[Y6]at hR
  have hws:Zn q 4=Zg (Z5 q.h 4) (YB q.lm (Z5 q.h 4)) true:=rfl
  rw[←hws]at k1
  generalize Zn q 4=z at*
  obtain⟨l,e⟩:=z
  simp only at k1 kn hR hsh st
  unfold ckP ckL at kw ks
  unfold ckL at kn
  simp[ckL,Sk,Um,UO,Z07]
  refine Z0 kw (by simp) ?_
  simp
  refine Z0 kw (by simp) ?_
  simp
  refine Z0 ks (by simp) ?_
  simp
  refine Z0 k1 (by simp) ?_
  simp
  by_cases he:e=0
  ·rw[if_pos he]at hR
   simp[he]
   refine Wp kn ?_
   simp[Z1]
   exact⟨4,X0 q 4 l,⟨by omega,by rw[Vr,hq],fun a b c h=>hsh (a,b,c) h,hR⟩,⟨by simp,rfl⟩,by simp[cnt]⟩
  ·rw[if_neg he]at hR
   simp[he,hR,ckL]
 ·replace hR:ZH s=(true,q):=hR
  simp[hR,ckL]
end Vm
namespace Vm
open Go Go.Proofs
set_option maxRecDepth 100000
set_option maxHeartbeats 1000000
theorem Lu{P:Program}{f:FuncId}{ks:List CK}{cs:List V}{r:V}(hv:VC P f false [.ptr cs] r)(hfl:r.flatc=true)(hlen:cs.length=ks.length)(hone:cs.all V.one=true)(hdd:ks.all (fun k=> !(k== .dead))=true):
  VCM P f [.mem ks] [.agg cs] (.tup [r,.agg cs]):=by
 obtain⟨h1,h2⟩:=hv
 refine⟨h1,fun B w h vs hok hA=> ?_⟩
 obtain⟨hxl,hvl,hAi⟩:=hA
 obtain⟨tk,harg,hrel⟩:=hAi 0 (.mem ks) (.agg cs) rfl rfl
 simp only[argK]at harg
 rw[if_pos hlen]at harg
 simp only[Option.some.injEq]at harg
 subst harg
 obtain⟨b,us,T,hb0,hv0,hh,hcs⟩:=hrel
 have hcells: ∀(ks:List CK) (cs:List V),cs.length=ks.length→ZS [] (((ks.zip cs).map fun y=>(y.1,E.c y.2)).map (·.2))=some cs:=by
  intro ks
  induction ks with
  |nil=>intro cs hl;have:cs= []:=List.length_eq_zero_iff.1 hl;subst this;rfl
  |cons k ks ih=>
   intro cs hl
   cases cs with
   |nil=>simp at hl
   |cons c cs=>
    simp only[List.zip_cons_cons,List.map_cons,ZS,eval]
    rw[ih cs (by simpa using hl)]
    rfl
 have hz:eval [] (.pt none (((ks.zip cs).map fun y=>(y.1,E.c y.2)).map (·.2)))=some (.ptr cs):=by
  simp only[eval,hcells ks cs hlen,Option.bind_some,ptV,hone,if_true]
 have hd:ZN ((ks.zip cs).map fun y=>(y.1,E.c y.2))=false:=by
  rw[ZN,List.any_eq_false]
  intro x hx
  obtain⟨y,hy,rfl⟩:=List.mem_map.1 hx
  have:=List.all_eq_true.1 hdd y.1 (List.of_mem_zip hy).1
  simpa using this
 have hrd:=S5 (G':=fun b=>h.F b∨ ∃t i,h.bl t i=some b) hb0 hh hcs hd hz (fun b hb=> .inl hb) fun i b hb=> .inr ⟨0,i,hb⟩
 refine Calls.mono (h2 w (fun b=>h.F b∨ ∃t i,h.bl t i=some b) vs (fun b hb=> ?_) (by simpa using hvl) fun i x hx=> ?_) fun e w' he=> ?_
 ·rcases hb with hb| ⟨t,i,hb⟩
  ·exact hok.f_lt b hb
  ·exact(hok.b_lt t i b hb).2.1
 ·cases i with
  |zero=>
   simp at hx
   subst hx
   rw[hv0]
   exact hrd
  |succ i=>simp at hx
 ·obtain⟨v,rfl,hbel,hrv⟩:=he
  have hsz:=hbel.size
  have hF:Same h.F w w':=fun b hb=>hbel.block b (hok.f_lt b hb)
  have hB: ∀t i b,h.bl t i=some b→w'.heap[b]? =w.heap[b]? :=fun t i b hb=>hbel.block b (hok.b_lt t i b hb).2.1
  have hlen1:us.size=cs.length:=by
   have:=hcs.1
   simp[hlen]at this
   omega
  refine⟨v,r,[.agg cs],h,rfl,hbel.mono hok.base,fun b hb=>hbel.block b (hok.k_lt b hb),⟨Nat.le_trans hok.base hsz,fun b hb=>Nat.lt_of_lt_of_le (hok.f_lt b hb) hsz,hok.f_or,hok.g_F,fun t i b hb=> ?_,hok.inj,fun b hb=>Nat.lt_of_lt_of_le (hok.k_lt b hb) hsz,hok.k_bl,hok.k_F⟩,rfl,hrv.flat hfl,⟨rfl,fun i k y hk hkz hy=> ?_⟩,rfl⟩
  ·obtain⟨q1,q2,q3⟩:=hok.b_lt t i b hb
   exact⟨q1,Nat.lt_of_lt_of_le q2 hsz,q3⟩
  ·cases i with
   |zero=>
    simp at hk hy
    subst hk;subst hy
    refine⟨.mem ((ks.zip cs).map fun y=>(y.1,.c y.2)),by rw[argK,if_pos hlen],b,us,T,hb0,hv0,?_,hcs.keep hF (fun _ hb=>hb) (fun _=>rfl) fun i b hb=>hB 0 _ b hb⟩
    rw[hB 0 0 b hb0]
    exact hh
   |succ i=>simp at hk
end Vm
namespace Vm
open Go Go.Proofs
set_option maxRecDepth 100000
set_option maxHeartbeats 1000000
def WM:List FuncId:= [89,90,91,92,93,94,95,96]
def fnA(f:FuncId):V:= .agg [.fn f]
theorem j3:VC Tryz.prog 69 false [] (.sl (WM.map fnA)):=by
 refine Z3 Tryz.func69 follows (by kernel_rfl) c69 rfl ?_
 simp[p69,WM,fnA]
def Ra(f:FuncId)(s:Ck):Bool×Ck:=
 if f=89 then(Xr s,s)else if f=90 then(Wj s,s)else if f=91 then ZH s
 else if f=92 then(Xw s,s)else if f=93 then(Xz s,s)else if f=94 then(Yu s,s)else if f=95 then(Q4 s,s)else(Uz s,s)
structure Ck.okk (s:Ck):Prop where
 ok:s.ok
 lm: ∀x∈s.lm,Zf x.2.1 x.2.2=true
theorem Ck.obs_put(s:Ck)(k:Int)(l:List Ob)(hk:1≤k∧k≤4)(j:Int):(s.put k l).obs j=if j=k∨(k=4∧ ¬(j=1∨j=2∨j=3))then l else s.obs j:=by
 have:k=1∨k=2∨k=3∨k=4:=by omega
 rcases this with rfl|rfl|rfl|rfl<;>simp[Ck.put,Ck.obs]<;>(split<;>simp_all)<;>(try split<;>simp_all)<;>(try split<;>simp_all)
theorem yP{s:Ck}(hs:s.okk){k:Int}(hk:1≤k∧k≤4):(X0 s k (Zn s k).1).okk:=by
 have st:=Xh hs.ok.h (k:=k)
 have hpl:=(Ze hs.ok.h k).2
 have hobs: ∀j,(X0 s k (Zn s k).1).obs j=((s.put k (Zn s k).1).obs j):=fun j=>rfl
 refine⟨⟨by rw[Vr];exact hs.ok.h,fun j o ho=> ?_,fun j=> ?_⟩,XV (fun o ho=>(st.1 o ho).1.2) hs.lm⟩
 ·rw[Vr]
  rw[hobs,Ck.obs_put _ _ _ hk]at ho
  split at ho
  ·rename_i h
   have:Z5 s.h j=Z5 s.h k:=by
    rcases h with rfl| ⟨rfl,h⟩
    ·rfl
    ·simp only[not_or]at h
     simp[Z5,h]
   rw[this]
   exact st.1 o ho
  ·exact hs.ok.ob j o ho
 ·rw[hobs,Ck.obs_put _ _ _ hk]
  split
  ·exact Nat.le_trans st.2 hpl
  ·exact hs.ok.len j
theorem TE: ∀ {l:List Int} {s:Ck},(∀k∈l,1≤k∧k≤4)→s.okk→(Y6 l s).2.okk∧(Y6 l s).2.h=s.h
 | [],s,_,hs=>⟨hs,rfl⟩
 |k::l,s,hl,hs=>by
  rw[Y6]
  split
  ·have:=TE (l:=l) (fun k hk=>hl k (List.mem_cons_of_mem _ hk)) (yP hs (hl k (List.mem_cons_self ..)))
   exact⟨this.1,this.2.trans (Vr ..)⟩
  ·exact⟨hs,rfl⟩
theorem Jt{s:Ck}(hs:s.okk):(ZH s).2.okk∧(ZH s).2.h=s.h:=TE (by intro k hk;simp at hk;omega) hs
theorem yt{s:Ck}(hs:s.okk){f:FuncId}:(Ra f s).2.okk∧(Ra f s).2.h=s.h:=by
 unfold Ra
 repeat' split
 all_goals first|exact⟨hs,rfl⟩ |exact Jt hs
theorem jr(hW:QS)(hWO:WB){s:Ck}(hs:s.okk){f:FuncId}(hf:f∈WM):VCM Tryz.prog f [.mem ckK] [.agg (ckL s)] (.tup [.bool (Ra f s).1,.agg (ckL (Ra f s).2)]):=by
 have go: ∀ {f b},VC Tryz.prog f false [ckP s] (.bool b)→VCM Tryz.prog f [.mem ckK] [.agg (ckL s)] (.tup [.bool b,.agg (ckL s)]):=fun h=>Lu h rfl rfl rfl rfl
 simp only[WM,List.mem_cons,List.not_mem_nil,or_false]at hf
 rcases hf with rfl|rfl|rfl|rfl|rfl|rfl|rfl|rfl
 ·exact go (Lr hs.ok.h)
 ·exact go LS
 ·exact zp hW hWO hs.ok.h hs.lm
 ·exact go (zy hs.ok)
 ·exact go (LY hs.ok)
 ·exact go (Qr hs.ok)
 ·exact go (Z0W hs.ok)
 ·exact go (jy hs.ok)
def jH:List FuncId→Ck→Option Ck
 | [],s=>some s
 |f::l,s=>if(Ra f s).1=true then jH l (Ra f s).2 else none
def ZI(h:Hp):Ck:= {h:=h,o1:= [],o2:= [],o3:= [],o4:= [],pm:= [],lm:= []}
def QB(h:Hp):Option Ck:=jH WM (ZI h)
theorem LZ{h:Hp}(hh:h.ok):(ZI h).okk:=by
 have h0: ∀k,(ZI h).obs k= []:=fun k=>by simp[ZI,Ck.obs]
 refine⟨⟨hh,fun k o ho=> ?_,fun k=> ?_⟩,fun x hx=>(by simp[ZI]at hx)⟩
 ·rw[h0]at ho;simp at ho
 ·rw[h0];simp
theorem Z0J(hW:QS)(hWO:WB){h:Hp}(hh:h.ok):VC Tryz.prog 43 false [hpV h] (.tup [match QB h with|some s=>ckP s|none=> .nul 0,.bool (QB h).isSome]):=by
 refine Z3 Tryz.func43 follows (by kernel_rfl) c43 rfl ?_
 have k1:=J0 (h:=h)
 have k2:=j3
 have hlen:WM.length=8:=rfl
 unfold hpV at k1
 simp[p43]
 refine Z0 k1 (by simp) ?_
 simp[lyV,layH]
 refine Z0 k2 (by simp) ?_
 simp
 refine Zz (fun(p:Nat×Ck)=> [(5,.m (ckL p.2)),(6,.v (vi p.1))]) (fun p=>p.1≤8∧p.2.okk∧QB h=jH (WM.drop p.1) p.2) (cnt 6 8) (0,ZI h) (by simp[ckL,ZI,zS]) ⟨by simp,LZ hh,rfl⟩ ?_
 rintro⟨i,q⟩ ⟨hi,hq,hR⟩
 simp only at hi hq hR
 have hwi:=Z1 ((i:Int)+1) (by omega) (by omega)
 by_cases hlt:i<WM.length
 ·have hx:WM[i]? =some WM[i]:=List.getElem?_eq_getElem hlt
  have hd:=List.drop_eq_getElem_cons hlt
  have hm:=List.getElem_mem hlt
  generalize WM[i]=f at*
  rw[hd,jH]at hR
  have kr:=jr hW hWO hq hm
  have hok:=(yt hq (f:=f)).1
  rw[hlen]at hlt
  have hlt':(i:Int) <8:=by omega
  simp[idxV,hlt,hlt',hx,Zh hx,hlen,fnA,ckL]
  unfold ckL at kr
  refine Wp kr ?_
  cases hb:(Ra f q).1
  ·rw[if_neg (by simp[hb])]at hR
   simp[hR]
  ·rw[if_pos hb]at hR
   simp[hwi]
   exact⟨i+1,(Ra f q).2,⟨by omega,hok,hR⟩,⟨by simp,by omega⟩,by simp[cnt];omega⟩
 ·have:i=8:=by omega
  subst this
  replace hR:QB h=some q:=hR
  simp[hlen,hR,ckL,ckP]
theorem zU(hW:QS)(hWO:WB){h:Hp}(hh:h.ok):VC Tryz.prog 26 false [hpV h] (.bool (QB h).isSome):=by
 refine Z3 Tryz.func26 follows (by kernel_rfl) c26 rfl ?_
 simp[p26]
 refine Z0 (Z0J hW hWO hh) (by simp) ?_
 simp
end Vm
end
section
namespace Vm
open Go Go.Proofs
set_option maxRecDepth 100000
structure Stands (ws:List Int) (old:Bool) (o:Ob):Prop where
 nat:0≤o.at_
 shape:Zf o.size o.ptrs=true
 fits:o.at_+1+o.size≤ws.length
 slots:Zt ((ws.drop (o.at_.toNat+1)).take o.size.toNat) o.gone o.ptrs 0=true
 word: ∃w,ws[o.at_.toNat]? =some w∧(if o.gone then old=true∧(adr w).2=0∧o.target=(adr w).1 else(old=true→ ¬(adr w).2=0)∧unpk w=(o.size,o.ptrs,0)∧o.target=0)
def Tiles(ws:List Int)(old:Bool):Nat→List Ob→Prop
 |a,[]=>ws.length≤a
 |a,o::l=>o.at_=a∧Stands ws old o∧Tiles ws old (a+1+o.size.toNat) l
theorem K0{ws:List Int}{shs:List (Int×Int)}{old:Bool}{a tk t:Nat}{w:Int}{o:Ob}(hw:ws[a]? =some w)(ho:objR shs old a tk w=some (o,t))(hl: ¬(ws.length:Int) <a+1+o.size)
  (hs: ¬Zt ((ws.drop (a+1)).take o.size.toNat) o.gone o.ptrs 0=false):o.at_=a∧Stands ws old o:=by
 have h2:=V5 ho
 refine⟨h2.2,?_,h2.1,?_,?_,w,?_,?_⟩
 ·rw[h2.2];omega
 ·rw[h2.2];omega
 ·rw[h2.2];simpa using hs
 ·rw[h2.2];simpa using hw
 ·unfold objR at ho
  split at ho
  ·rename_i hc
   split at ho
   ·cases ho
   ·split at ho
    ·cases ho;simpa using hc
    ·cases ho
  ·rename_i hc
   split at ho
   ·rename_i hu
    cases ho
    simp only[Bool.false_eq_true,if_false]
    refine⟨fun h1 h3=>hc ⟨h1,h3⟩,?_,trivial⟩
    rw[←hu]
   ·cases ho
theorem Tp{ws:List Int}{shs:List (Int×Int)}{old:Bool}: ∀(f a tk:Nat) (acc l:List Ob),Yp ws shs old f a tk acc=(l,0)→ ∃r,l=acc++r∧Tiles ws old a r
 |0,_,_,_,_,h=>by simp[Yp]at h
 |f+1,a,tk,acc,l,h=>by
  unfold Yp at h
  split at h
  ·rename_i hn
   split at h
   ·simp at h
   ·simp only[Prod.mk.injEq,and_true]at h
    subst h
    exact⟨[],by simp,List.getElem?_eq_none_iff.1 hn⟩
  ·rename_i w hw
   split at h
   ·simp at h
   ·rename_i o t ho
    split at h
    ·simp at h
    rename_i h1
    split at h
    ·simp at h
    rename_i h2
    obtain⟨r,rfl,hr⟩:=Tp f _ _ _ _ h
    have hs:=K0 hw ho h1 h2
    exact⟨o::r,by simp,hs.1,hs.2,hr⟩
theorem Y0{ws:List Int}{shs:List (Int×Int)}{old:Bool}{l:List Ob}(h:Zg ws shs old=(l,0)):Tiles ws old 0 l:=by
 obtain⟨r,h1,h2⟩:=Tp _ _ _ _ _ h
 simp at h1
 subst h1
 exact h2
theorem Tiles.stands{ws:List Int}{old:Bool}: ∀ {a:Nat} {l:List Ob},Tiles ws old a l→ ∀o∈l,Stands ws old o∧(a:Int)≤o.at_
 |_,[],_,_,h=>by simp at h
 |a,o::l,h,x,hx=>by
  have hs:=Z2.1 h.2.1.shape
  rcases List.mem_cons.1 hx with rfl|hx
  ·exact⟨h.2.1,by rw[h.1];omega⟩
  ·have:=Tiles.stands h.2.2 x hx
   exact⟨this.1,by have:=this.2;omega⟩
theorem Tiles.apart{ws:List Int}{old:Bool}: ∀ {a:Nat} {l:List Ob},Tiles ws old a l→ ∀o∈l,∀q∈l,o=q∨o.at_+1+o.size≤q.at_∨q.at_+1+q.size≤o.at_
 |_,[],_,_,h,_,_=>by simp at h
 |a,x::l,h,o,ho,q,hq=>by
  have hs:=Z2.1 h.2.1.shape
  have e:=h.1
  rcases List.mem_cons.1 ho with rfl|ho
  ·rcases List.mem_cons.1 hq with rfl|hq
   ·exact .inl rfl
   ·have:=(Tiles.stands h.2.2 q hq).2
    exact .inr (.inl (by omega))
  ·rcases List.mem_cons.1 hq with hq|hq
   ·have:=(Tiles.stands h.2.2 o ho).2
    rw[hq]
    exact .inr (.inr (by omega))
   ·exact Tiles.apart h.2.2 o ho q hq
structure RightH (h:Hp) (p:Pts):Prop where
 parts:ZO h=some p
 num:numR h=true
 ok:VL h p=true
 low:Tiles h.low false 0 p.low
 high:Tiles h.high false 0 p.high
 old:Tiles h.old true 0 p.old
 far:Tiles h.far true 0 p.far
theorem qe{h:Hp}(hr:ZY h=true): ∃p,RightH h p:=by
 obtain⟨p,h1,h2,h3⟩:=Jv hr
 refine⟨p,h1,h3,h2,?_,?_,?_,?_⟩
 all_goals
  clear h3
  unfold ZO at h1
  dsimp only at h1
  split at h1
  ·cases h1
  rename_i c1
  split at h1
  ·cases h1
  rename_i c2
  cases h1
  have c3:(Zg h.low [] false).2=0∧(Zg h.high [] false).2=0:=by
   refine⟨Decidable.byContradiction fun hc=>c1 (.inl hc),Decidable.byContradiction fun hc=>c1 (.inr hc)⟩
  have c4: ∀x:Int,¬x≠0→x=0:=fun x hx=>Decidable.byContradiction hx
  have e3:=c4 _ (fun hx=>c2 (.inr (.inr (.inl hx))))
  have e4:=c4 _ (fun hx=>c2 (.inr (.inr (.inr hx))))
  first|exact Y0 (Prod.ext rfl c3.1) |exact Y0 (Prod.ext rfl c3.2) |exact Y0 (Prod.ext rfl e3) |exact Y0 (Prod.ext rfl e4)
theorem RightH.tiles{h:Hp}{p:Pts}(r:RightH h p){k:Int}(hk:1≤k∧k≤4):Tiles (Z5 h k) (decide (2<k)) 0 (p.at k):=by
 have:k=1∨k=2∨k=3∨k=4:=by omega
 rcases this with rfl|rfl|rfl|rfl
 ·exact r.low
 ·exact r.high
 ·exact r.old
 ·exact r.far
theorem RightH.lay{h:Hp}{p:Pts}(r:RightH h p):Z7 (layH h)=true:=by
 have:=r.num
 unfold numR at this
 simp only[Bool.and_eq_true]at this
 exact this.1.1.1.1
def refR(l:Ly)(k a:Int):Int:=2*(fstL l k+a)+1
theorem S8{l:Ly}(hr:Z7 l=true){k a:Int}(ha:0≤a):adr (refR l k a)=(fstL l k+a,0):=by
 have:=Zx hr k
 unfold adr refR
 rw[if_neg (by omega),if_neg (by omega)]
 simp only[Prod.mk.injEq,and_true]
 omega
theorem Ji{l:Ly}(hr:Z7 l=true){k a:Int}(hk:1≤k∧k≤4)(ha:0≤a∧a<sizL l k):Zy l k a=(fstL l k+a,0):=by
 unfold Zy
 rw[if_neg (by simp[hr]),if_neg (by omega),if_neg (by omega)]
theorem RQ{l:Ly}(hr:Z7 l=true){k a:Int}(hk:1≤k∧k≤4)(ha:0≤a∧a<sizL l k):Zu l (fstL l k+a)=(k,a,0):=by
 have h:=Zp.1 hr
 have ht:=ji hr
 unfold Zu inL
 rw[if_neg (by simp[hr])]
 simp only[Bool.and_eq_true,decide_eq_true_eq]
 have hk4:k=1∨k=2∨k=3∨k=4:=by omega
 rcases hk4 with rfl|rfl|rfl|rfl
 ·rw[if_pos (by omega)];simp;omega
 ·simp only[fstL,sizL]at ha⊢
  simp only[show ¬(2:Int)=1 by omega,if_false,if_true]at ha⊢
  rw[if_neg (by omega),if_pos (by omega)];simp;omega
 ·simp only[fstL,sizL]at ha⊢
  simp only[show ¬(3:Int)=1 by omega,show ¬(3:Int)=2 by omega,show ¬(2:Int)=1 by omega,if_false,if_true]at ha⊢
  rw[if_neg (by omega),if_neg (by omega),if_pos (by omega)];simp;omega
 ·simp only[fstL,sizL]at ha⊢
  simp only[show ¬(4:Int)=1 by omega,show ¬(4:Int)=2 by omega,show ¬(4:Int)=3 by omega,show ¬(3:Int)=1 by omega,show ¬(3:Int)=2 by omega,show ¬(2:Int)=1 by omega,if_false,if_true]at ha⊢
  rw[if_neg (by omega),if_neg (by omega),if_neg (by omega),if_pos (by omega)];simp;omega
end Vm
namespace Vm
open Go Go.Proofs
set_option maxRecDepth 100000
theorem L3{g:Hp}(hr:Z7 (layH g)=true):fwd g 0=(0,g,0):=by simp[fwd,hr]
theorem TS{l:Ly}(hr:Z7 l=true){k a:Int}(ha:0≤a): ¬refR l k a=0:=by
 have:=Zx hr k
 unfold refR;omega
theorem fwd_here{g:Hp}(hr:Z7 (layH g)=true){k a:Int}(hk:1≤k∧k≤2)(ha:0≤a∧a< (Z5 g k).length):fwd g (refR (layH g) k a)=(refR (layH g) k a,g,0):=by
 have h1:=TS hr (k:=k) ha.1
 have h2:=S8 hr (k:=k) ha.1
 have h3:=RQ hr (k:=k) (a:=a) (by omega) (by rw[Yy (by omega)];exact ha)
 unfold fwd
 simp[hr,h1,h2,h3,show k<3 by omega]
theorem fwd_gone{g:Hp}(hr:Z7 (layH g)=true){k:Int}{a:Nat}(hk:3≤k∧k≤4){u:Int}(hu:(Z5 g k)[a]? =some u)(h0:(adr u).2=0):fwd g (refR (layH g) k a)=(u,g,0):=by
 have hl:a< (Z5 g k).length:=(List.getElem?_eq_some_iff.1 hu).1
 have h1:=TS hr (k:=k) (a:=(a:Int)) (by omega)
 have h2:=S8 hr (k:=k) (a:=(a:Int)) (by omega)
 have h3:=RQ hr (k:=k) (a:=(a:Int)) (by omega) (by rw[Yy (by omega)];omega)
 have h4:(Z5 g k).getD a 0=u:=by simp[List.getD,hu]
 unfold fwd
 simp[-List.getD_eq_getElem?_getD,hr,h1,h2,h3,show ¬k<3 by omega,h4,h0]
def movH(g:Hp)(k:Int)(a n:Nat):Hp:=Ym (ZG g k a n) k ((zr (Z5 g k) a n).set a (refR (layH g) 1 g.low.length))
theorem XM{g:Hp}{k:Int}{a n:Nat}(hl:a+n≤(Z5 g k).length):layH (ZG g k a n)= {layH g with low:=(g.low.length+n:Nat)}:=by
 unfold layH ZG
 simp only[Ly.mk.injEq,true_and,and_true]
 simp
 omega
theorem TV{g:Hp}(hr:Z7 (layH g)=true){k:Int}{a n:Nat}(hl:a+n≤(Z5 g k).length)(hm:(n:Int)≤Ye (layH g)):Z7 (layH (ZG g k a n))=true:=by
 rw[XM hl]
 have h:=Zp.1 hr
 have e:Ye (layH g)=(layH g).cap- (layH g).low- (layH g).high:=by unfold Ye;rw[hr];rfl
 have e1:(layH g).low=g.low.length:=rfl
 apply Zp.2
 simp only
 omega
theorem RA{g:Hp}{k:Int}(hk:3≤k∧k≤4){a n:Nat}(hl:a+n≤(Z5 g k).length):layH (movH g k a n)= {layH g with low:=(g.low.length+n:Nat)}:=by
 rw[←XM hl]
 unfold movH
 apply Qp
 rw[List.length_set,KS]
 have:k=3∨k=4:=by omega
 rcases this with rfl|rfl<;>rfl
theorem Li{g:Hp}(hr:Z7 (layH g)=true){k:Int}(hk:3≤k∧k≤4){a n:Nat}(hl:a+n≤(Z5 g k).length)(hm:(n:Int)≤Ye (layH g)):Z7 (layH (movH g k a n))=true:=by
 rw[RA hk hl,←XM hl]
 exact TV hr hl hm
theorem qk{g:Hp}{k:Int}(hk:3≤k∧k≤4){a n:Nat}(hl:a+n≤(Z5 g k).length)(j b:Int):refR (layH (movH g k a n)) j b=refR (layH g) j b:=by
 rw[RA hk hl]
 rfl
theorem fwd_wait{g:Hp}(hr:Z7 (layH g)=true){k:Int}{a:Nat}(hk:3≤k∧k≤4){u:Int}(hu:(Z5 g k)[a]? =some u)(h0: ¬(adr u).2=0){n:Nat}{pt:Int}(hun:unpk u=((n:Int),pt,0))
  (hl:a+(n+1)≤(Z5 g k).length) (hm:((n+1:Nat):Int)≤Ye (layH g)):fwd g (refR (layH g) k a)=(refR (layH g) 1 g.low.length,movH g k a (n+1),0):=by
 have h1:=TS hr (k:=k) (a:=(a:Int)) (by omega)
 have h2:=S8 hr (k:=k) (a:=(a:Int)) (by omega)
 have h3:=RQ hr (k:=k) (a:=(a:Int)) (by omega) (by rw[Yy (by omega)];omega)
 have h4:(Z5 g k).getD a 0=u:=by simp[List.getD,hu]
 have hmr:=TV hr hl hm
 have h5:Zy (layH (ZG g k a (n+1))) 1 g.low.length=(fstL (layH g) 1+g.low.length,0):=by
  have:=Ji hmr (k:=1) (a:=(g.low.length:Int)) (by omega) (by rw[XM hl];simp only[sizL,if_true];omega)
  rw[this,XM hl]
  rfl
 have hrng:=Zx hmr 1
 rw[XM hl]at hrng
 simp only[sizL,if_true]at hrng
 have hf1:fstL {layH g with low:=(g.low.length+(n+1):Nat)} 1=fstL (layH g) 1:=rfl
 rw[hf1]at hrng
 have h6:Xm (fstL (layH g) 1+g.low.length)=(refR (layH g) 1 g.low.length,0):=by
  unfold Xm refR
  rw[if_neg (by omega)]
 unfold fwd
 have hk3: ¬k<3:=by omega
 simp only[hr,h1,h2,h3,if_neg hk3,Bool.true_eq_false,if_false,ne_eq,not_true_eq_false,Int.toNat_natCast,h4,h0,hun]
 unfold fwdC
 rw[if_neg (by omega),if_neg (by omega)]
 simp only[h5,h6]
 rfl
theorem Z0D{ws:List Int}{a:Nat}: ∀(n j:Nat),j<a∨a+n≤j→(zr ws a n)[j]? =ws[j]?
 |0,_,_=>rfl
 |n+1,j,h=>by
  unfold zr
  rw[List.getElem?_set_ne (by omega)]
  exact Z0D n j (by omega)
theorem Jc{g:Hp}{k:Int}(hk:3≤k∧k≤4){a n:Nat}(hn:0<n){j:Int}(hj:3≤j∧j≤4){b:Nat}(hb:j≠k∨b<a∨a+n≤b):(Z5 (movH g k a n) j)[b]? =(Z5 g j)[b]? :=by
 have hk':k=3∨k=4:=by omega
 have hj':j=3∨j=4:=by omega
 rcases hk' with rfl|rfl<;>rcases hj' with rfl|rfl<;>simp only[movH,ZG,Z3q,Z1A,Kt,Kq]
 ·rw[List.getElem?_set_ne (by omega)];exact Z0D _ _ (by omega)
 ·rw[List.getElem?_set_ne (by omega)];exact Z0D _ _ (by omega)
theorem R7{g:Hp}{k:Int}(hk:3≤k∧k≤4){a n:Nat}{j:Int}(hj:3≤j∧j≤4):(Z5 (movH g k a n) j).length=(Z5 g j).length:=by
 have hk':k=3∨k=4:=by omega
 have hj':j=3∨j=4:=by omega
 rcases hk' with rfl|rfl<;>rcases hj' with rfl|rfl<;>simp[movH,ZG]
theorem jh{g:Hp}{k:Int}(hk:3≤k∧k≤4){a n:Nat}(hl:a+n≤(Z5 g k).length):(movH g k a n).low.length=g.low.length+n∧(movH g k a n).high=g.high:=by
 have hk':k=3∨k=4:=by omega
 rcases hk' with rfl|rfl<;>simp only[Kt,Kq]at hl<;>simp[movH,ZG]<;>omega
end Vm
namespace Vm
open Go Go.Proofs
set_option maxRecDepth 100000
theorem Vs{h:Hp}{ws:List Int}{low:List Ob}: ∀(f i:Nat) (acc l:List (Int×Int)),ZL h ws low f i acc=some l→ ∃r,l=acc++r
 |0,_,_,_,he=>by simp[ZL]at he
 |f+1,i,acc,l,he=>by
  unfold ZL at he
  split at he
  ·cases he;exact⟨[],by simp⟩
  ·split at he
   ·split at he
    ·cases he
    ·obtain⟨r,hr⟩:=Vs f _ _ _ he
     exact⟨_,by rw[hr,List.append_assoc]⟩
   ·split at he
    ·exact Vs f _ _ _ he
    ·cases he
theorem Wh{h:Hp}{ws:List Int}{low:List Ob}: ∀(f i:Nat) (acc shs:List (Int×Int)),ZL h ws low f i acc=some shs→ ∀(f':Nat) (acc' l:List Ob),Yp ws shs true f' i acc.length acc'=(l,0)→
  ∃r,l=acc'++r∧ ∀o∈r,o.gone=true→ ∃q,atR h 1 low o.target=some q∧q.size=o.size∧q.ptrs=o.ptrs
 |0,_,_,_,he=>by simp[ZL]at he
 |f+1,i,acc,shs,he=>by
  intro f' acc' l hw
  cases f' with
  |zero=>simp[Yp]at hw
  |succ f'=>
   unfold ZL at he
   unfold Yp at hw
   cases hwi:ws[i]? with
   |none=>
    simp only[hwi]at hw
    split at hw
    ·simp at hw
    ·simp only[Prod.mk.injEq,and_true]at hw
     exact⟨[],by simp[hw],by simp⟩
   |some w=>
    simp only[hwi]at he hw
    by_cases ha:(adr w).2=0
    ·simp only[ha,if_true]at he
     cases hq:atR h 1 low (adr w).1 with
     |none=>simp only[hq]at he;cases he
     |some q=>
      simp only[hq]at he
      obtain⟨r,hr⟩:=Vs _ _ _ _ he
      have hs:shs[acc.length]? =some (q.size,q.ptrs):=by rw[hr];simp
      unfold objR at hw
      rw[if_pos ⟨rfl,ha⟩]at hw
      simp only[hs]at hw
      by_cases hsh:Zf q.size q.ptrs=true
      ·rw[if_pos hsh]at hw
       simp only at hw
       split at hw
       ·simp at hw
       split at hw
       ·simp at hw
       have hlen:acc.length+1=(acc++ [(q.size,q.ptrs)]).length:=by simp
       rw[hlen]at hw
       obtain⟨r',h1,h2⟩:=Wh f _ _ _ he _ _ _ hw
       refine⟨_::r',by rw[h1,List.append_assoc];rfl,?_⟩
       intro o ho hg
       rcases List.mem_cons.1 ho with rfl|ho
       ·exact⟨q,hq,rfl,rfl⟩
       ·exact h2 o ho hg
      ·rw[if_neg hsh]at hw
       simp at hw
    ·simp only[ha,if_false]at he
     by_cases hu:(unpk w).2.2=0
     ·simp only[hu,if_true]at he
      unfold objR at hw
      rw[if_neg (fun hc=>ha hc.2),if_pos hu]at hw
      simp only at hw
      split at hw
      ·simp at hw
      split at hw
      ·simp at hw
      obtain⟨r',h1,h2⟩:=Wh f _ _ _ he _ _ _ hw
      refine⟨_::r',by rw[h1,List.append_assoc];rfl,?_⟩
      intro o ho hg
      rcases List.mem_cons.1 ho with rfl|ho
      ·simp at hg
      ·exact h2 o ho hg
     ·simp only[hu,if_false]at he
      cases he
theorem RightH.gone_low{h:Hp}{p:Pts}(r:RightH h p){k:Int}(hk:3≤k∧k≤4){o:Ob}(ho:o∈p.at k)(hg:o.gone=true): ∃q∈p.low,Zs h 1 q.at_=o.target∧q.size=o.size∧q.ptrs=o.ptrs:=by
 have h1:=r.parts
 unfold ZO at h1
 dsimp only at h1
 split at h1
 ·cases h1
 split at h1
 ·cases h1
 rename_i c2
 have aux: ∀(ws:List Int) (x:Option (List (Int×Int))),x=ZK h ws (Zg h.low [] false).1→ ¬x=none→(Zg ws (x.getD []) true).2=0→o∈(Zg ws (x.getD []) true).1→
   ∃q∈(Zg h.low [] false).1,Zs h 1 q.at_=o.target∧q.size=o.size∧q.ptrs=o.ptrs:=by
  intro ws x hx hn h0 ho
  cases x with
  |none=>exact(hn rfl).elim
  |some shs=>
   simp only[Option.getD_some]at h0 ho
   obtain⟨r',e1,e2⟩:=Wh _ _ _ _ hx.symm (ws.length+1) [] (Zg ws shs true).1 (Prod.ext rfl h0)
   simp only[List.nil_append]at e1
   rw[e1]at ho
   obtain⟨q,hq,hs⟩:=e2 o ho hg
   have:=List.find?_some hq
   exact⟨q,qi hq,by simpa using this,hs⟩
 have e3: ¬ZK h h.old (Zg h.low [] false).1=none:=fun e=>c2 (.inl e)
 have e4: ¬ZK h h.far (Zg h.low [] false).1=none:=fun e=>c2 (.inr (.inl e))
 have e5:(Zg h.old ((ZK h h.old (Zg h.low [] false).1).getD []) true).2=0:=Decidable.byContradiction fun e=>c2 (.inr (.inr (.inl e)))
 have e6:(Zg h.far ((ZK h h.far (Zg h.low [] false).1).getD []) true).2=0:=Decidable.byContradiction fun e=>c2 (.inr (.inr (.inr e)))
 cases h1
 have:k=3∨k=4:=by omega
 rcases this with rfl|rfl
 ·exact aux _ _ rfl e3 e5 (by simpa using ho)
 ·exact aux _ _ rfl e4 e6 (by simpa using ho)
theorem qH{l:List Ob}{o:Ob}(h:o∈l):wtO o≤wtL l:=by
 unfold wtL
 induction l with
 |nil=>simp at h
 |cons x l ih=>
  simp only[List.map_cons,List.sum_cons]
  rcases List.mem_cons.1 h with rfl|h
  ·omega
  ·have:=ih h;omega
theorem zC{p:Pts}{k:Int}(hk:3≤k∧k≤4){o:Ob}(h:o∈p.at k):wtO o≤YL p:=by
 have:k=3∨k=4:=by omega
 unfold YL
 rcases this with rfl|rfl
 ·have:=qH (l:=p.old) h;omega
 ·have:=qH (l:=p.far) h;omega
theorem yF{u a:Int}(h0:(adr u).2=0)(h:(adr u).1=a):u=2*a+1:=by
 unfold adr at h0 h
 by_cases c1:u=0
 ·simp[c1]at h0
 rw[if_neg c1]at h0 h
 by_cases c2:u%2=0∨u=1
 ·rw[if_pos c2]at h0;simp at h0
 rw[if_neg c2]at h
 simp only at h
 omega
end Vm
namespace Vm
open Go Go.Proofs
set_option maxRecDepth 100000
end Vm
end
section
namespace Vm
open Go Go.Proofs
set_option maxRecDepth 100000
theorem Tiles.order{ws:List Int}{old:Bool}: ∀ {a:Nat} {l:List Ob},Tiles ws old a l→l.Pairwise fun x y=>x.at_<y.at_
 |_,[],_=> .nil
 |a,o::l,h=>by
  have hs:=Z2.1 h.2.1.shape
  refine .cons (fun x hx=> ?_) (Tiles.order h.2.2)
  have:=(Tiles.stands h.2.2 x hx).2
  have:=h.1
  omega
theorem R2{h:Hp}(hr:Z7 (layH h)=true){k:Int}(hk:1≤k∧k≤4){old:Bool}{o:Ob}(hs:Stands (Z5 h k) old o):Zs h k o.at_=fstL (layH h) k+o.at_:=by
 have:=Z2.1 hs.shape
 have:=hs.fits
 have:=hs.nat
 unfold Zs
 rw[Ji hr hk ⟨by omega,by rw[Yy hk];omega⟩]
theorem LV{h:Hp}(hr:Z7 (layH h)=true){k:Int}(hk:1≤k∧k≤4){old:Bool}{o:Ob}(hs:Stands (Z5 h k) old o):Zu (layH h) (Zs h k o.at_)=(k,o.at_,0):=by
 have:=Z2.1 hs.shape
 have:=hs.fits
 have:=hs.nat
 rw[R2 hr hk hs]
 exact RQ hr hk ⟨by omega,by rw[Yy hk];omega⟩
theorem Tiles.starts{h:Hp}(hr:Z7 (layH h)=true){k:Int}(hk:1≤k∧k≤4){old:Bool}{l:List Ob}(ht:Tiles (Z5 h k) old 0 l):l.Pairwise fun x y=>Zs h k x.at_≠Zs h k y.at_:=by
 refine List.Pairwise.imp_of_mem ?_ ht.order
 intro x y hx hy hlt
 rw[R2 hr hk (ht.stands x hx).1,R2 hr hk (ht.stands y hy).1]
 omega
theorem Jf{h:Hp}{a:Int}: ∀ {l:List Ob} {m:List (Int×(Int×Int))},(l.Pairwise fun x y=>Zs h 1 x.at_≠Zs h 1 y.at_)→getA (ZM h 1 m l) a=match atR h 1 l a with
  |some o=>some (o.size,o.ptrs)
  |none=>getA m a
 | [],m,_=>rfl
 |o::l,m,hp=>by
  obtain⟨h1,h2⟩:=List.pairwise_cons.1 hp
  rw[ZM,Jf h2]
  unfold atR
  rw[List.find?_cons]
  cases hf:l.find? (fun o=>Zs h 1 o.at_==a)with
  |some q=>
   have hq:=List.mem_of_find?_eq_some hf
   have he:Zs h 1 q.at_=a:=by have:=List.find?_some hf;simpa using this
   have hne:(Zs h 1 o.at_==a)=false:=by
    have:=h1 q hq
    simp only[beq_eq_false_iff_ne]
    omega
   rw[hne]
  |none=>
   simp only[if_true,R8]
   by_cases he:Zs h 1 o.at_=a
   ·have he':(Zy (layH h) 1 o.at_).1=a:=he
    simp[he,he']
   ·have he': ¬(Zy (layH h) 1 o.at_).1=a:=he
    have:(Zs h 1 o.at_==a)=false:=by simpa using he
    simp[this,he']
theorem Wo{h:Hp}{k:Int}(hk: ¬k=1): ∀ {l:List Ob} {m:List (Int×(Int×Int))},ZM h k m l=m
 | [],m=>rfl
 |o::l,m=>by rw[ZM,if_neg hk];exact Wo hk
theorem Wy{h:Hp}{k a:Int}: ∀ {l:List Ob} {m:List (Int×Int)},getA (Ys h k m l) a=if(atR h k l a).isSome=true then some k else getA m a
 | [],m=>rfl
 |o::l,m=>by
  rw[Ys,Wy]
  unfold atR
  rw[List.find?_cons,R8]
  by_cases he:Zs h k o.at_=a
  ·have he':(Zy (layH h) k o.at_).1=a:=he
   have:(Zs h k o.at_==a)=true:=by simpa using he
   simp[this,he']
  ·have he': ¬(Zy (layH h) k o.at_).1=a:=he
   have:(Zs h k o.at_==a)=false:=by simpa using he
   simp[this,he']
theorem Vh{lm:List (Int×(Int×Int))}{ws:List Int}: ∀(f i:Nat) (acc:List (Int×Int)),∃r,Y1 lm ws f i acc=acc++r
 |0,_,acc=>⟨[],by simp[Y1]⟩
 |f+1,i,acc=>by
  rw[Y1]
  cases ws[i]? with
  |none=>exact⟨[],by simp⟩
  |some w=>
   simp only
   split
   ·split
    ·exact⟨[],by simp⟩
    ·obtain⟨r,hr⟩:=Vh (lm:=lm) (ws:=ws) f _ _
     exact⟨_,by rw[hr,List.append_assoc]⟩
   ·split
    ·exact Vh f _ _
    ·exact⟨[],by simp⟩
theorem V6{lm:List (Int×(Int×Int))}{h:Hp}{low:List Ob}(hlm: ∀a,getA lm a=(atR h 1 low a).map fun o=>(o.size,o.ptrs)){ws:List Int}: ∀(f i:Nat) (acc shs:List (Int×Int)),ZL h ws low f i acc=some shs→Y1 lm ws f i acc=shs
 |0,_,_,_,he=>by simp[ZL]at he
 |f+1,i,acc,shs,he=>by
  rw[ZL]at he
  rw[Y1]
  cases hw:ws[i]? with
  |none=>rw[hw]at he;simpa using he
  |some w=>
   rw[hw]at he
   simp only at he⊢
   by_cases ha:(adr w).2=0
   ·rw[if_pos ha]at he⊢
    rw[hlm]
    cases hq:atR h 1 low (adr w).1 with
    |none=>rw[hq]at he;cases he
    |some o=>rw[hq]at he;exact V6 hlm _ _ _ _ he
   ·rw[if_neg ha]at he⊢
    by_cases hu:(unpk w).2.2=0
    ·rw[if_pos hu]at he⊢;exact V6 hlm _ _ _ _ he
    ·rw[if_neg hu]at he;cases he
theorem Xs{lm:List (Int×(Int×Int))}{h:Hp}{low:List Ob}(hlm: ∀a,getA lm a=(atR h 1 low a).map fun o=>(o.size,o.ptrs)){ws:List Int}: ∀(f i:Nat) (acc:List (Int×Int)),0<f→ws.length<f+i→ZL h ws low f i acc=none→
  ∀(f':Nat) (acc':List Ob),(Yp ws (Y1 lm ws f i acc) true f' i acc.length acc').2≠0
 |0,_,_,h0,_,_=>by omega
 |f+1,i,acc,h0,hf,he=>by
  intro f' acc'
  cases f' with
  |zero=>simp[Yp]
  |succ f'=>
   rw[ZL]at he
   rw[Y1,Yp]
   cases hw:ws[i]? with
   |none=>rw[hw]at he;cases he
   |some w=>
    have hlt:=(List.getElem?_eq_some_iff.1 hw).1
    rw[hw]at he
    simp only at he⊢
    by_cases ha:(adr w).2=0
    ·rw[if_pos ha]at he⊢
     rw[hlm]
     cases hq:atR h 1 low (adr w).1 with
     |none=>
      simp only[Option.map_none]
      have:objR acc true i acc.length w=none:=by
       unfold objR
       rw[if_pos ⟨rfl,ha⟩]
       simp
      rw[this]
      simp
     |some o=>
      rw[hq]at he
      simp only[Option.map_some]at he⊢
      obtain⟨r,hr⟩:=Vh (lm:=lm) (ws:=ws) f (i+1+o.size.toNat) (acc++ [(o.size,o.ptrs)])
      have ih:=Xs hlm f (i+1+o.size.toNat) (acc++ [(o.size,o.ptrs)]) (by omega) (by omega) he f'
      generalize Y1 lm ws f (i+1+o.size.toNat) (acc++ [(o.size,o.ptrs)])=shs at*
      have hs:shs[acc.length]? =some (o.size,o.ptrs):=by rw[hr];simp
      unfold objR
      rw[if_pos ⟨rfl,ha⟩,hs]
      simp only
      by_cases hsh:Zf o.size o.ptrs=true
      ·rw[if_pos hsh]
       simp only
       split
       ·simp
       split
       ·simp
       simpa using ih _
      ·rw[if_neg hsh];simp
    ·rw[if_neg ha]at he⊢
     by_cases hu:(unpk w).2.2=0
     ·rw[if_pos hu]at he⊢
      have ih:=Xs hlm f (i+1+(unpk w).1.toNat) acc (by omega) (by omega) he f'
      generalize Y1 lm ws f (i+1+(unpk w).1.toNat) acc=shs at*
      unfold objR
      rw[if_neg (fun hc=>ha hc.2),if_pos hu]
      simp only
      split
      ·simp
      split
      ·simp
      exact ih _
     ·rw[if_neg hu]
      have:objR acc true i acc.length w=none:=by
       unfold objR
       rw[if_neg (fun hc=>ha hc.2),if_neg hu]
      rw[this]
      simp
structure Found (h:Hp) (s:Ck) (p:Pts):Prop where
 hp:s.h=h
 o1:s.o1=p.low
 o2:s.o2=p.high
 o3:s.o3=p.old
 o4:s.o4=p.far
 pm:s.pm=Ys h 4 (Ys h 3 (Ys h 2 (Ys h 1 [] p.low) p.high) p.old) p.far
theorem QR{h:Hp}(hr:Z7 (layH h)=true):match ZO h with
  |some p=>(ZH (ZI h)).1=true∧Found h (ZH (ZI h)).2 p
  |none=>(ZH (ZI h)).1=false:=by
 unfold ZH ZO
 dsimp only
 have s1:Zn (ZI h) 1=Zg h.low [] false:=rfl
 rw[Y6,s1]
 by_cases e1:(Zg h.low [] false).2=0
 case neg=>rw[if_neg e1,if_pos (.inl e1)]
 rw[if_pos e1]
 have hT:Tiles h.low false 0 (Zg h.low [] false).1:=Y0 (ws:=h.low) (shs:= []) (Prod.ext rfl e1)
 generalize (Zg h.low [] false).1=l1 at*
 have s2:Zn (X0 (ZI h) 1 l1) 2=Zg h.high [] false:=rfl
 rw[Y6,s2]
 by_cases e2:(Zg h.high [] false).2=0
 case neg=>rw[if_neg e2,if_pos (.inr e2)]
 rw[if_pos e2,if_neg (by simp[e1,e2])]
 generalize (Zg h.high [] false).1=l2 at*
 have hlm: ∀a,getA (ZM h 1 [] l1) a=(atR h 1 l1 a).map fun o=>(o.size,o.ptrs):=by
  intro a
  rw[Jf (Tiles.starts hr (k:=1) (by omega) (by simpa using hT))]
  cases atR h 1 l1 a<;>rfl
 have hlm2:(X0 (X0 (ZI h) 1 l1) 2 l2).lm=ZM h 1 [] l1:=Wo (by omega)
 have s3:Zn (X0 (X0 (ZI h) 1 l1) 2 l2) 3=Zg h.old (YB (ZM h 1 [] l1) h.old) true:=by
  rw[←hlm2];rfl
 rw[Y6,s3]
 cases hp:ZK h h.old l1 with
 |none=>
  have:=Xs hlm (h.old.length+1) 0 [] (by omega) (by omega) hp (h.old.length+1) []
  have e3: ¬(Zg h.old (YB (ZM h 1 [] l1) h.old) true).2=0:=this
  rw[if_neg e3,if_pos (.inl rfl)]
 |some shs=>
 have hs3:YB (ZM h 1 [] l1) h.old=shs:=V6 hlm _ _ _ _ hp
 rw[hs3]
 simp only[Option.getD_some]
 by_cases e3:(Zg h.old shs true).2=0
 case neg=>rw[if_neg e3,if_pos (.inr (.inr (.inl e3)))]
 rw[if_pos e3]
 generalize (Zg h.old shs true).1=l3 at*
 have hlm3:(X0 (X0 (X0 (ZI h) 1 l1) 2 l2) 3 l3).lm=ZM h 1 [] l1:=by
  rw[←hlm2];exact Wo (by omega)
 have s4:Zn (X0 (X0 (X0 (ZI h) 1 l1) 2 l2) 3 l3) 4=Zg h.far (YB (ZM h 1 [] l1) h.far) true:=by
  rw[←hlm3];rfl
 rw[Y6,s4]
 cases hq:ZK h h.far l1 with
 |none=>
  have:=Xs hlm (h.far.length+1) 0 [] (by omega) (by omega) hq (h.far.length+1) []
  have e4: ¬(Zg h.far (YB (ZM h 1 [] l1) h.far) true).2=0:=this
  rw[if_neg e4,if_pos (.inr (.inl rfl))]
 |some shs'=>
 have hs4:YB (ZM h 1 [] l1) h.far=shs':=V6 hlm _ _ _ _ hq
 rw[hs4]
 simp only[Option.getD_some]
 by_cases e4:(Zg h.far shs' true).2=0
 case neg=>rw[if_neg e4,if_pos (.inr (.inr (.inr e4)))]
 rw[if_pos e4,if_neg (by simp[e3,e4])]
 generalize (Zg h.far shs' true).1=l4 at*
 exact⟨rfl,rfl,rfl,rfl,rfl,rfl,rfl⟩
end Vm
namespace Vm
open Go Go.Proofs
set_option maxRecDepth 100000
theorem Vj{h:Hp}{p:Pts}(h1:ZO h=some p){k:Int}(hk:1≤k∧k≤4):Tiles (Z5 h k) (decide (2<k)) 0 (p.at k):=by
 have:k=1∨k=2∨k=3∨k=4:=by omega
 unfold ZO at h1
 dsimp only at h1
 split at h1
 ·cases h1
 rename_i c1
 split at h1
 ·cases h1
 rename_i c2
 cases h1
 have c3:(Zg h.low [] false).2=0∧(Zg h.high [] false).2=0:=by
  refine⟨Decidable.byContradiction fun hc=>c1 (.inl hc),Decidable.byContradiction fun hc=>c1 (.inr hc)⟩
 have c4: ∀x:Int,¬x≠0→x=0:=fun x hx=>Decidable.byContradiction hx
 have e3:=c4 _ (fun hx=>c2 (.inr (.inr (.inl hx))))
 have e4:=c4 _ (fun hx=>c2 (.inr (.inr (.inr hx))))
 rcases this with rfl|rfl|rfl|rfl
 ·exact Y0 (Prod.ext rfl c3.1)
 ·exact Y0 (Prod.ext rfl c3.2)
 ·exact Y0 (Prod.ext rfl e3)
 ·exact Y0 (Prod.ext rfl e4)
theorem Sr{h:Hp}{p:Pts}(h1:ZO h=some p){k:Int}(hk:3≤k∧k≤4){o:Ob}(ho:o∈p.at k)(hg:o.gone=true): ∃q∈p.low,Zs h 1 q.at_=o.target∧q.size=o.size∧q.ptrs=o.ptrs:=by
 unfold ZO at h1
 dsimp only at h1
 split at h1
 ·cases h1
 split at h1
 ·cases h1
 rename_i c2
 have aux: ∀(ws:List Int) (x:Option (List (Int×Int))),x=ZK h ws (Zg h.low [] false).1→ ¬x=none→(Zg ws (x.getD []) true).2=0→o∈(Zg ws (x.getD []) true).1→
   ∃q∈(Zg h.low [] false).1,Zs h 1 q.at_=o.target∧q.size=o.size∧q.ptrs=o.ptrs:=by
  intro ws x hx hn h0 ho
  cases x with
  |none=>exact(hn rfl).elim
  |some shs=>
   simp only[Option.getD_some]at h0 ho
   obtain⟨r',e1,e2⟩:=Wh _ _ _ _ hx.symm (ws.length+1) [] (Zg ws shs true).1 (Prod.ext rfl h0)
   simp only[List.nil_append]at e1
   rw[e1]at ho
   obtain⟨q,hq,hs⟩:=e2 o ho hg
   have:=List.find?_some hq
   exact⟨q,qi hq,by simpa using this,hs⟩
 have e3: ¬ZK h h.old (Zg h.low [] false).1=none:=fun e=>c2 (.inl e)
 have e4: ¬ZK h h.far (Zg h.low [] false).1=none:=fun e=>c2 (.inr (.inl e))
 have e5:(Zg h.old ((ZK h h.old (Zg h.low [] false).1).getD []) true).2=0:=Decidable.byContradiction fun e=>c2 (.inr (.inr (.inl e)))
 have e6:(Zg h.far ((ZK h h.far (Zg h.low [] false).1).getD []) true).2=0:=Decidable.byContradiction fun e=>c2 (.inr (.inr (.inr e)))
 cases h1
 have:k=3∨k=4:=by omega
 rcases this with rfl|rfl
 ·exact aux _ _ rfl e3 e5 (by simpa using ho)
 ·exact aux _ _ rfl e4 e6 (by simpa using ho)
theorem qz{h:Hp}(hr:Z7 (layH h)=true){p:Pts}(hp:ZO h=some p){k:Int}(hk:1≤k∧k≤4){a:Int}(hi:(atR h k (p.at k) a).isSome=true): ∃b,Zu (layH h) a=(k,b,0):=by
 obtain⟨o,ho⟩:=Option.isSome_iff_exists.1 hi
 have h1:=List.mem_of_find?_eq_some ho
 have h2:Zs h k o.at_=a:=by have:=List.find?_some ho;simpa using this
 rw[←h2]
 exact⟨_,LV hr hk ((Vj hp hk).stands o h1).1⟩
theorem Z0o{h:Hp}(hr:Z7 (layH h)=true){p:Pts}(hp:ZO h=some p){k j:Int}(hk:1≤k∧k≤4)(hj:1≤j∧j≤4)(hn:k≠j){a:Int}(hi:(atR h k (p.at k) a).isSome=true):(atR h j (p.at j) a).isSome=false:=by
 cases hx:(atR h j (p.at j) a).isSome with
 |false=>rfl
 |true=>
  obtain⟨b,hb⟩:=qz hr hp hk hi
  obtain⟨c,hc⟩:=qz hr hp hj hx
  rw[hb]at hc
  simp only[Prod.mk.injEq]at hc
  exact(hn hc.1).elim
section
variable {h:Hp} {s:Ck} {p:Pts}
theorem Found.obs(hf:Found h s p){k:Int}:s.obs k=p.at k:=by
 unfold Ck.obs Pts.at
 rw[hf.o1,hf.o2,hf.o3,hf.o4]
theorem Found.pm_at(hf:Found h s p)(a:Int):getA s.pm a=if(atR h 4 (p.at 4) a).isSome=true then some 4 else if(atR h 3 (p.at 3) a).isSome=true then some 3 else if(atR h 2 (p.at 2) a).isSome=true then some 2 else if(atR h 1 (p.at 1) a).isSome=true then some 1 else none:=by
 rw[hf.pm,Wy,Wy,Wy,Wy]
 rfl
theorem Found.points(hf:Found h s p)(hr:Z7 (layH h)=true)(hp:ZO h=some p)(w:Int):Zm s w 1 2=Yi h p w 1 2∧Zm s w 3 4=Yi h p w 3 4∧Zm s w 1 4=(Yi h p w 1 2||Yi h p w 3 4):=by
 unfold Zm Yi
 by_cases h0:w=0
 ·simp[h0]
 by_cases h1:(adr w).2=0
 case neg=>simp[h0,h1]
 simp only[h0,h1,decide_false,decide_true,Bool.false_or,Bool.true_and]
 rw[hf.pm_at]
 generalize (adr w).1=a
 have o:=fun k j hk hj hn=>Z0o (k:=k) (j:=j) hr hp hk hj hn (a:=a)
 have o43:=o 4 3 (by omega) (by omega) (by omega)
 have o42:=o 4 2 (by omega) (by omega) (by omega)
 have o41:=o 4 1 (by omega) (by omega) (by omega)
 have o32:=o 3 2 (by omega) (by omega) (by omega)
 have o31:=o 3 1 (by omega) (by omega) (by omega)
 have o21:=o 2 1 (by omega) (by omega) (by omega)
 clear o
 generalize (atR h 1 (p.at 1) a).isSome=b1 at*
 generalize (atR h 2 (p.at 2) a).isSome=b2 at*
 generalize (atR h 3 (p.at 3) a).isSome=b3 at*
 generalize (atR h 4 (p.at 4) a).isSome=b4 at*
 cases b1<;>cases b2<;>cases b3<;>cases b4<;>simp_all
end
end Vm
namespace Vm
open Go Go.Proofs
set_option maxRecDepth 100000
def tgS(l:List Ob):List Int:=(l.filter (·.gone)).map (·.target)
theorem qV{α:Type}{l:List (Int×α)}{k:Int}{x:α}(h:getA l k=none):(putA l k x).length=l.length+1:=by
 unfold getA at h
 rw[Option.map_eq_none_iff]at h
 have:l.findIdx? (·.1==k)=none:=by
  rw[List.findIdx?_eq_none_iff]
  intro y hy
  have:=List.find?_eq_none.1 h y hy
  simpa using this
 unfold putA
 rw[this]
 simp
theorem VM{pm:List (Int×Int)}: ∀ {l:List Ob} {m:List (Int×Bool)} {K:List Int},K.Nodup→(∀a,getA m a=if a∈K then some true else none)→m.length=K.length→
  match copQ pm l m with
  |some m'=>(∀t∈tgS l,(getA pm t).getD 0=1)∧(K++tgS l).Nodup∧m'.length=(K++tgS l).length∧ ∀a,getA m' a=if a∈K++tgS l then some true else none
  |none=> ¬((∀t∈tgS l,(getA pm t).getD 0=1)∧(K++tgS l).Nodup)
 | [],m,K,hK,hm,hl=>by simp only[copQ,tgS,List.filter_nil,List.map_nil,List.append_nil];exact⟨by simp,hK,hl,hm⟩
 |o::l,m,K,hK,hm,hl=>by
  rw[copQ]
  cases hg:o.gone with
  |false=>
   rw[if_neg (by simp)]
   have:tgS (o::l)=tgS l:=by simp[tgS,hg]
   rw[this]
   exact VM hK hm hl
  |true=>
   rw[if_pos rfl]
   have ht:tgS (o::l)=o.target::tgS l:=by simp[tgS,hg]
   rw[ht]
   by_cases h1:(getA pm o.target).getD 0=1
   ·by_cases h2:o.target∈K
    ·rw[if_neg (by rw[hm,if_pos h2];simp)]
     rintro⟨_,hn⟩
     exact(List.nodup_append.1 hn).2.2 _ h2 _ (List.mem_cons_self ..) rfl
    ·have hno:getA m o.target=none:=by rw[hm,if_neg h2]
     rw[if_pos ⟨h1,by rw[hno];rfl⟩]
     have ih:=VM (pm:=pm) (l:=l) (m:=putA m o.target true) (K:=K++ [o.target]) (by
       rw[List.nodup_append]
       refine⟨hK,by simp,fun a ha b hb=> ?_⟩
       simp at hb;subst hb
       intro e;subst e;exact h2 ha) (fun a=>by
       rw[R8,hm]
       by_cases e:o.target=a
       ·simp[e]
       ·have e': ¬a=o.target:=fun x=>e x.symm
        simp[e,e']) (by rw[qV hno,hl];simp)
     rw[List.append_assoc,List.singleton_append]at ih
     cases hc:copQ pm l (putA m o.target true)with
     |none=>
      rw[hc]at ih
      rintro⟨q1,q2⟩
      exact ih ⟨fun t ht=>q1 t (List.mem_cons_of_mem _ ht),q2⟩
     |some m'=>
      rw[hc]at ih
      refine⟨fun t ht=> ?_,ih.2⟩
      rcases List.mem_cons.1 ht with rfl|ht
      ·exact h1
      ·exact ih.1 t ht
   ·rw[if_neg (fun hc=>h1 hc.1)]
    rintro⟨q1,_⟩
    exact h1 (q1 _ (List.mem_cons_self ..))
theorem Q3{l:List Ob}{a:Int}:tgL l a=(tgS l).count a:=by
 unfold tgL tgS
 induction l with
 |nil=>rfl
 |cons o l ih=>
  cases hg:o.gone
  ·simpa[hg]using ih
  ·by_cases ht:o.target=a
   ·simp only[List.filter_cons,hg,ht]
    simpa[ht]using ih
   ·have: ¬(o.target==a)=true:=by simpa using ht
    simp only[List.filter_cons,hg,ht]
    simpa[List.count_cons,ht]using ih
theorem jN{T S:List Int}(hS:S.Nodup)(hTS:T⊆S):(T.Nodup∧T.length=S.length)↔ ∀a∈S,T.count a=1:=by
 constructor
 ·rintro⟨hT,hl⟩ a ha
  rw[hT.count]
  by_cases hm:a∈T
  ·rw[if_pos hm]
  ·have h1:T⊆S.erase a:=fun x hx=>(hS.mem_erase_iff).2 ⟨fun e=>hm (e▸hx),hTS hx⟩
   have h2:=hT.length_le_of_subset h1
   rw[List.length_erase_of_mem ha]at h2
   have:=List.length_pos_of_mem ha
   omega
 ·intro h
  have hT:T.Nodup:=List.nodup_iff_count.2 fun a=>by
   by_cases hm:a∈T
   ·rw[h a (hTS hm)]
    omega
   ·rw[List.count_eq_zero_of_not_mem hm];omega
  refine⟨hT,Nat.le_antisymm (hT.length_le_of_subset hTS) (hS.length_le_of_subset fun a ha=> ?_)⟩
  exact List.count_pos_iff.1 (by rw[h a ha];omega)
section
variable {h:Hp} {s:Ck} {p:Pts}
theorem Found.copied(hf:Found h s p)(hr:Z7 (layH h)=true)(hp:ZO h=some p):Xw s=(!h.cycle||p.low.all (tgOk h p)):=by
 have hT:=Vj hp (k:=1) (by omega)
 have hS:(p.low.map fun o=>Zs h 1 o.at_).Nodup:=by
  have:=Tiles.starts hr (k:=1) (by omega) hT
  rw[List.nodup_iff_pairwise_ne,List.pairwise_map]
  exact this
 have hin: ∀t∈tgS s.o3++tgS s.o4,t∈p.low.map fun o=>Zs h 1 o.at_:=by
  intro t ht
  have: ∃k,(3≤k∧k≤4)∧t∈tgS (p.at k):=by
   rcases List.mem_append.1 ht with ht|ht
   ·exact⟨3,by omega,by rw[hf.o3]at ht;exact ht⟩
   ·exact⟨4,by omega,by rw[hf.o4]at ht;exact ht⟩
  obtain⟨k,hk,ht⟩:=this
  simp only[tgS,List.mem_map,List.mem_filter]at ht
  obtain⟨o,⟨ho,hg⟩,rfl⟩:=ht
  obtain⟨q,hq,he,_⟩:=Sr hp hk ho hg
  exact List.mem_map.2 ⟨q,hq,he⟩
 have hpm: ∀t∈tgS s.o3++tgS s.o4,(getA s.pm t).getD 0=1:=by
  intro t ht
  obtain⟨q,hq,he⟩:=List.mem_map.1 (hin t ht)
  have h1:(atR h 1 (p.at 1) t).isSome=true:=by
   unfold atR
   rw[List.find?_isSome]
   exact⟨q,hq,by simpa using he⟩
  have o:=fun k hk hn=>Z0o (k:=1) (j:=k) hr hp (by omega) hk hn h1
  rw[hf.pm_at,o 4 (by omega) (by omega),o 3 (by omega) (by omega),o 2 (by omega) (by omega),h1]
  rfl
 unfold Xw
 rw[hf.hp]
 cases hc:h.cycle
 ·rfl
 simp only[Bool.not_true,Bool.false_or]
 have key:=jN hS (T:=tgS s.o3++tgS s.o4) hin
 have hall:p.low.all (tgOk h p)=true↔ ∀a∈(p.low.map fun o=>Zs h 1 o.at_),(tgS s.o3++tgS s.o4).count a=1:=by
  rw[List.all_eq_true]
  constructor
  ·intro hx a ha
   obtain⟨o,ho,rfl⟩:=List.mem_map.1 ha
   have:=hx o ho
   simp only[tgOk,decide_eq_true_eq,VH,Q3]at this
   rw[List.count_append,hf.o3,hf.o4]
   exact this
  ·intro hx o ho
   have:=hx _ (List.mem_map.2 ⟨o,ho,rfl⟩)
   rw[List.count_append,hf.o3,hf.o4]at this
   simp only[tgOk,decide_eq_true_eq,VH,Q3]
   exact this
 rw[List.length_map]at key
 have c1:=VM (pm:=s.pm) (l:=s.o3) (m:= []) (K:= []) (by simp) (by simp[getA]) rfl
 simp only[List.nil_append]at c1
 rw[Bool.eq_iff_iff,hall,←key]
 cases h1:copQ s.pm s.o3 []with
 |none=>
  rw[h1]at c1
  simp only[Option.bind_none]
  constructor
  ·intro hx;cases hx
  ·rintro⟨hn,_⟩
   exact(c1 ⟨fun t ht=>hpm t (List.mem_append_left _ ht),(List.nodup_append.1 hn).1⟩).elim
 |some m=>
  rw[h1]at c1
  obtain⟨q1,q2,q3,q4⟩:=c1
  simp only[Option.bind_some]
  have c2:=VM (pm:=s.pm) (l:=s.o4) (m:=m) (K:=tgS s.o3) q2 q4 q3
  cases h2:copQ s.pm s.o4 m with
  |none=>
   rw[h2]at c2
   constructor
   ·intro hx;cases hx
   ·rintro⟨hn,_⟩
    exact(c2 ⟨fun t ht=>hpm t (List.mem_append_right _ ht),hn⟩).elim
  |some m'=>
   rw[h2]at c2
   obtain⟨r1,r2,r3,r4⟩:=c2
   simp only[decide_eq_true_eq,r3,hf.o1]
   exact⟨fun hx=>⟨r2,hx⟩,fun hx=>hx.2⟩
end
end Vm
namespace Vm
open Go Go.Proofs
set_option maxRecDepth 100000
theorem ST: ∀ {l:List Int} {ptrs:Int} {i:Nat},Zt l true ptrs i=true→ ∀w∈l,w=0
 | [],_,_,_,w,hw=>by simp at hw
 |x::l,ptrs,i,h,w,hw=>by
  simp only[Zt,Bool.and_eq_true,Bool.not_true,Bool.false_or,decide_eq_true_eq]at h
  rcases List.mem_cons.1 hw with rfl|hw
  ·exact h.1.1
  ·exact ST h.2 w hw
theorem WE{s:Ck}{k:Int}{q:Int→Int→Bool}:Wm s k q=true↔ ∀o∈s.obs k,o.gone=false→ ∀j,j<o.ptrs.toNat→q ((o.at_.toNat+1+j:Nat):Int) (XC (Z5 s.h k) (o.at_.toNat+1+j))=true:=by
 unfold Wm obQ
 rw[List.all_eq_true]
 constructor
 ·intro h o ho hg j hj
  have:=h o ho
  rw[hg,Bool.false_or,List.all_eq_true]at this
  exact this j (List.mem_range.2 hj)
 ·intro h o ho
  cases hg:o.gone
  ·rw[Bool.false_or,List.all_eq_true]
   intro j hj
   exact h o ho hg j (List.mem_range.1 hj)
  ·rfl
theorem yk{h:Hp}{p:Pts}(hp:ZO h=some p){k:Int}(hk:1≤k∧k≤4):YD h p k=true↔ ∀o∈p.at k,o.gone=false→ ∀j,j<o.ptrs.toNat→Xq h p k (o.at_.toNat+1+j)=true:=by
 unfold YD U4
 rw[List.all_eq_true]
 constructor
 ·intro h o ho hg j hj
  have:=h o ho
  rw[List.all_eq_true]at this
  exact this j (List.mem_range.2 hj)
 ·intro h' o ho
  rw[List.all_eq_true]
  intro j hj
  have hj:=List.mem_range.1 hj
  cases hg:o.gone
  ·exact h' o ho hg j hj
  ·have hs:=((Vj hp hk).stands o ho).1
   have hsh:=Z2.1 hs.shape
   have h1:=hs.slots
   rw[hg]at h1
   have hz:=ST h1
   have hfit:=hs.fits
   have hnat:=hs.nat
   have hlt:o.at_.toNat+1+j< (Z5 h k).length:=by omega
   have hw:(Z5 h k)[o.at_.toNat+1+j]? =some 0:=by
    rw[List.getElem?_eq_getElem hlt]
    refine congrArg some (hz _ ?_)
    rw[List.mem_iff_getElem?]
    refine⟨j,?_⟩
    rw[List.getElem?_take,if_pos (by omega),List.getElem?_drop,List.getElem?_eq_getElem hlt]
   have hgo: ∀a b,Yi h p 0 a b=true:=fun a b=>by simp[Yi]
   unfold Xq
   simp[hw,hgo]
section
variable {h:Hp} {s:Ck} {p:Pts}
theorem Found.ptrs(hf:Found h s p)(hr:Z7 (layH h)=true)(hp:ZO h=some p):(Xz s&&(Yu s&&Q4 s))=(h.roots.all (fun w=>Yi h p w 1 2)&&YD h p 1&&YD h p 2&&YD h p 3&&YD h p 4):=by
 have hpt:=hf.points hr hp
 have hroots:s.h.roots.all (fun w=>Zm s w 1 2)=h.roots.all (fun w=>Yi h p w 1 2):=by
  rw[hf.hp]
  congr 1
  funext w
  exact(hpt w).1
 have hob:=fun k=>hf.obs (k:=k)
 have hpk: ∀(k:Int) (q:Nat→Int→Bool) (hk:1≤k∧k≤4),(∀a,Xq h p k a=q a (XC (Z5 h k) a))→(YD h p k=true↔ ∀o∈p.at k,o.gone=false→ ∀j,j<o.ptrs.toNat→q (o.at_.toNat+1+j) (XC (Z5 h k) (o.at_.toNat+1+j))=true):=by
  intro k q hk hq
  rw[yk hp hk]
  simp only[hq]
 have p2:=hpk 2 (fun _ w=>Yi h p w 1 2) (by omega) (fun a=>by simp[Xq,XC])
 have p3:=hpk 3 (fun _ w=>Yi h p w 3 4) (by omega) (fun a=>by simp[Xq,XC])
 have p4:=hpk 4 (fun _ w=>Yi h p w 3 4) (by omega) (fun a=>by simp[Xq,XC])
 have p1:=hpk 1 (fun a w=>if h.scan≤a then Yi h p w 1 2||Yi h p w 3 4 else Yi h p w 1 2) (by omega) (fun a=>by simp[Xq,XC])
 have q2:Wm s 2 (fun _ w=>Zm s w 1 2)=true↔YD h p 2=true:=by
  rw[p2,WE,hob,hf.hp]
  simp only[(hpt _).1]
 have q3:Wm s 3 (fun _ w=>Zm s w 3 4)=true↔YD h p 3=true:=by
  rw[p3,WE,hob,hf.hp]
  simp only[(hpt _).2.1]
 have q4:Wm s 4 (fun _ w=>Zm s w 3 4)=true↔YD h p 4=true:=by
  rw[p4,WE,hob,hf.hp]
  simp only[(hpt _).2.1]
 have q1:(Wm s 1 (fun a w=>decide (s.h.scan≤a)||Zm s w 1 2)=true∧Wm s 1 (fun a w=>decide (a<s.h.scan)||Zm s w 1 4)=true)↔YD h p 1=true:=by
  rw[p1,WE,WE,hob,hf.hp]
  simp only[(hpt _).1,(hpt _).2.2]
  constructor
  ·rintro⟨ha,hb⟩ o ho hg j hj
   have ha:=ha o ho hg j hj
   have hb:=hb o ho hg j hj
   generalize o.at_.toNat+1+j=n at*
   by_cases hs:h.scan≤(n:Int)
   ·have: ¬(n:Int) <h.scan:=by omega
    simpa[hs,this]using hb
   ·simpa[hs]using ha
  ·intro hx
   refine⟨fun o ho hg j hj=> ?_,fun o ho hg j hj=> ?_⟩
   ·have hx:=hx o ho hg j hj
    generalize o.at_.toNat+1+j=n at*
    by_cases hs:h.scan≤(n:Int)
    ·simp[hs]
    ·simpa[hs]using hx
   ·have hx:=hx o ho hg j hj
    generalize o.at_.toNat+1+j=n at*
    by_cases hs:h.scan≤(n:Int)
    ·have: ¬(n:Int) <h.scan:=by omega
     simpa[hs,this]using hx
    ·have:(n:Int) <h.scan:=by omega
     simp[this]
 unfold Xz Yu Q4
 rw[hroots,Bool.eq_iff_iff]
 simp only[Bool.and_eq_true]
 rw[q2,q3,q4,←q1]
 constructor
 ·rintro⟨⟨a,b,c⟩,d,e,f⟩;exact⟨⟨⟨⟨a,c,d⟩,b⟩,e⟩,f⟩
 ·rintro⟨⟨⟨⟨a,c,d⟩,b⟩,e⟩,f⟩;exact⟨⟨a,b,c⟩,d,e,f⟩
theorem Found.roomy(hf:Found h s p):Uz s=decide ((h.low.length:Int)+h.high.length+YL p≤h.cap):=by
 unfold Uz K4 YL
 rw[hf.hp,hf.o3,hf.o4]
end
theorem Z1D(h:Hp):numR h=(Xr (ZI h)&&Wj (ZI h)):=by
 unfold numR Xr Wj ZI
 simp only
 cases Z7 (layH h)
 ·simp
 by_cases h1:h.roots.length≤16<;>by_cases h2:0≤h.scan<;>by_cases h3:h.scan≤h.low.length<;>cases hc:h.cycle<;>simp[h1,h2,h3]
 by_cases h4:h.scan=h.low.length<;>by_cases h5:h.old= []<;>by_cases h6:h.far= []<;>simp[h4,h5,h6]
theorem Lo(h:Hp):(QB h).isSome=ZY h∧ ∀s,QB h=some s→ ∃p,ZO h=some p∧Found h s p:=by
 have hl:QB h=(if Xr (ZI h)=true then if Wj (ZI h)=true then if(ZH (ZI h)).1=true then
   if Xw (ZH (ZI h)).2=true then if Xz (ZH (ZI h)).2=true then if Yu (ZH (ZI h)).2=true then if Q4 (ZH (ZI h)).2=true then if Uz (ZH (ZI h)).2=true then
    some (ZH (ZI h)).2 else none else none else none else none else none else none else none else none):=rfl
 have hn:=Z1D h
 unfold ZY
 rw[hn]
 cases hb:Xr (ZI h)
 ·rw[hb]at hl;rw[hl];simp
 have hr:Z7 (layH h)=true:=by
  unfold Xr at hb
  simp only[Bool.and_eq_true]at hb
  exact hb.1
 cases hre:Wj (ZI h)
 ·rw[hb,hre]at hl;rw[hl];simp
 have hw:=QR hr
 cases hp:ZO h with
 |none=>
  rw[hp]at hw
  simp only at hw
  rw[hb,hre,hw]at hl
  rw[hl];simp
 |some p=>
  rw[hp]at hw
  obtain⟨h1,hf⟩:=hw
  rw[hb,hre,h1]at hl
  simp only[if_true]at hl
  generalize (ZH (ZI h)).2=s at*
  have e1:=hf.copied hr hp
  have e2:=hf.ptrs hr hp
  have e3:=hf.roomy
  have e4:VL h p=(Xw s&&((Xz s&&(Yu s&&Q4 s))&&Uz s)):=by
   rw[e1,e2,e3]
   unfold VL
   simp only[Bool.and_assoc]
  simp only[Bool.true_and]
  rw[e4]
  cases c1:Xw s
  ·rw[c1]at hl;rw[hl];simp
  cases c2:Xz s
  ·rw[c1,c2]at hl;rw[hl];simp
  cases c3:Yu s
  ·rw[c1,c2,c3]at hl;rw[hl];simp
  cases c4:Q4 s
  ·rw[c1,c2,c3,c4]at hl;rw[hl];simp
  cases c5:Uz s
  ·rw[c1,c2,c3,c4,c5]at hl;rw[hl];simp
  rw[c1,c2,c3,c4,c5]at hl
  simp only[if_true]at hl
  rw[hl]
  refine⟨rfl,fun q hq=>⟨p,rfl,?_⟩⟩
  cases hq
  exact hf
end Vm
end
section
namespace Vm
open Go Go.Proofs Go.RowKit
def SeqP{α:Type}(F:Fence)(n:Nat)(P:Program)(g:Nat)(lb:Array Value)(encs:α→Array Value)(Kp:World→World→Prop)(S:List α→World→Prop)(Pp:List PanicEntry→List α→World→Prop)(N:Nat)(bt:Option Nat)(Ex:World→Prop)(w:World):Prop:=
 ∀(l:Nat) (J:List α→World→Prop) (W:World),Below w.heap.size w W→(∀pre W,J pre W→Ex W)→(∀s A B row,J s A→A.grownBy B row→(∀r,row=some r→some r=bt)→J s B)→
  (∀pre x W1,J pre W1→pre.length<N→YieldAt F (n-1) P l (encs x) W1 fun e W'=>e= .returned (.bool true)∧J (pre++ [x]) W'∧Kp W1 W')→
  J [] W→
  CallsIn F n P g (#[.func (.yield l) #[] #[]]++lb) W fun e W'=>(∃v xs,e= .returned v∧S xs W'∧J xs W')∨(∃chain pre,e= .panicked chain∧Pp chain pre W'∧J pre W')
def Z4A{α:Type}(B:Nat)(Kp:World→World→Prop)(I:List α→World→Prop)(xs:List α)(W:World):Exit→Act→World→Prop
 | .normal,_,W'=>KeepsFrom B W W'∧Kp W W'∧I xs W'
 |_,_,_=>False
def OwnP{β:Type}(bt:Option Nat)(B:Nat)(I:β→World→Prop):Prop:=
 ∀s X Y row,I s X→X.grownBy Y row→(∀r,row=some r→some r=bt∨(B≤r∧ ∃o:Obj,X.heap[r]? =some o∧o.isCells=false))→I s Y
theorem OwnP.putObj{β:Type}{bt:Option Nat}{B:Nat}{I:β→World→Prop}(h:OwnP bt B I){s:β}{W:World}{l:Nat}{o:Obj}(o':Obj)(hs:I s W)(hB:B≤l)(hl:W.heap[l]? =some o)(ho:o.isCells=false):I s (W.putObj l o'):=
 h s W _ (some l) hs (grownBy_putObj' W l o') (fun r e=>by cases e;exact .inr ⟨hB,o,hl,ho⟩)
theorem OwnP.alloc{β:Type}{bt:Option Nat}{B:Nat}{I:β→World→Prop}(h:OwnP bt B I){s:β}{W:World}(o:Obj)(hs:I s W):I s (W.alloc o):=
 h s W _ none hs (World.grownBy_alloc W o none) (fun r e=>by cases e)
variable {F:Fence} {n:Nat} {P:Program}
theorem UJ{α:Type}{g:Operand}{ps:Array Tmp}{assign body:Code}{Q:Exit→Act→World→Prop}{a:Act}{w:World}
  (hro:F.round=none) (h1:1≤n) {gf:Nat} {lb:Array Value} (hg:a.eval g= .func (.func gf) #[] lb) (hFg:F.fn gf) (eg: ∀args w,(callFunc gf args).run P w= .ok (.enter gf args) w)
  {encs:α→Array Value} {Kp:World→World→Prop} {S:List α→World→Prop} {Pp:List PanicEntry→List α→World→Prop} {N:Nat} {bt:Option Nat} {Ex:World→Prop} {w0:World} (hseq:SeqP F (n-1) P gf lb encs Kp S Pp N bt Ex w0)
  (hbt: ∀r,bt=some r→r<w.heap.size)
  (hKt: ∀ {A B C:World},Kp A B→Kp B C→Kp A C) (hKb: ∀(W:World) (l:Nat) (o o':Obj),w.heap.size≤l→W.heap[l]? =some o→o.isCells=false→o.isWalk=false→Kp W (W.putObj l o')) (hb0:Below w0.heap.size w0 w) (hps: ∀x,(encs x).size=ps.size)
  (I:List α→World→Prop) (hI:OwnP bt w.heap.size I) (hEx: ∀pre W,I pre W→Ex W) (h0:I [] w) (hS:OwnP none w.heap.size S) (Ax:α→Act→World→Prop) (hAx: ∀x a',OwnP none w.heap.size (fun(_:Unit) W=>Ax x a' W))
  (hassign: ∀(l:Nat) (pre:List α) (x:α) (W:World) (K:Act→World→Prop),I pre W→(∀a' W',KeepsFrom w.heap.size W W'→Kp W W'→I pre W'→Ax x a' W'→K a' W')→
   assign.wpIn (F.inRound l) (n-1-1) P (Exit.then K (fun _ _ _=>False)) {tmps:=(ps.zip (encs x)).foldl (fun t (p,v)=>t.setIfInBounds p v) a.tmps,defers:= []} W)
  (hbody: ∀(l:Nat) (pre:List α) (x:α) (a':Act) (W:World),I pre W→Ax x a' W→pre.length<N→body.wpIn (F.inRound l) (n-1-1) P (Z4A w.heap.size Kp I (pre++ [x]) W) a' W)
  (hdone: ∀(D:Nat) (xs:List α) (W:World),w.heap.size≤D→S xs W→I xs W→W.heap[D]? =some (.deferred (some []))→Q .normal {a with defers:= {target:= .collected D,args:= #[]}::a.defers} W)
  (hpanic: ∀(D:Nat) (chain:List PanicEntry) (pre:List α) (W:World),w.heap.size≤D→Pp chain pre W→I pre W→W.heap[D]? =some (.deferred (some []))→Q (.panic chain) {a with defers:= {target:= .collected D,args:= #[]}::a.defers} W):
  (Code.rangeFunc g ps assign body).wpIn F n P Q a w:=by
 refine wpIn_rangeFunc fun fn hfn=> ?_
 rw[hro]
 obtain⟨rec,hrec⟩: ∃rec:LoopState→Option Code→Loop,rec=fun st pe=> {state:=st,pending:=pe,fn,tmps:=a.tmps,params:=ps,assign,body,defers:=w.heap.size}:=⟨_,rfl⟩
 obtain⟨W1,hW1⟩: ∃W1,(w.alloc (.deferred (some []))).alloc (.loop (rec .ready none))=W1:=⟨_,rfl⟩
 have hL1:W1.heap[w.heap.size+1]? =some (.loop (rec .ready none)):=by
  have:=World.alloc_heap_new (w.alloc (.deferred (some []))) (.loop (rec .ready none))
  rw[World.size_alloc]at this
  rw[←hW1];exact this
 have hK1:W1.heap[w.heap.size]? =some (.deferred (some [])):=by
  rw[←hW1];exact(Below.heap_alloc _ _ _ (by simp)).trans (World.alloc_heap_new w _)
 have hb1:Below w0.heap.size w0 W1:=by
  rw[←hW1];exact hb0.trans ((((Below.refl _ w).alloc (Nat.le_refl _) _).alloc (by simp) _).mono hb0.size)
 refine⟨w.heap.size+1,[{target:= .collected w.heap.size,args:= #[]}],W1,{target:= .fn (.func gf) lb,args:= #[.func (.yield (w.heap.size+1)) #[] #[]]},W1,gf,
  #[.func (.yield (w.heap.size+1)) #[] #[]]++lb,W1,?_,?_,?_,?_,fun _=>h1,?_⟩
 ·rw[←hW1,hrec];exact run_enterLoop_outer _ _ _ _ _
 ·simp only[resolve,hg]
  simp[go_sem]
 ·intro f' hf';simp[Target.leads]at hf';subst hf';exact hFg
 ·simp[invoke,go_sem,eg]
 have hrow: ∀ {A B:World} {row:Option Nat} {k:Nat} {o:Obj},A.grownBy B row→(∀r,row=some r→some r=bt)→w.heap.size≤k→A.heap[k]? =some o→B.heap[k]? =some o:=by
  intro A B row k o hgr hr hk ho
  refine(hgr.block k (Array.getElem?_eq_some_iff.1 ho).1 fun e=> ?_).trans ho
  have:=hbt k (hr k e.symm).symm
  omega
 refine(hseq (w.heap.size+1) (fun pre W=>I pre W∧W.heap[w.heap.size+1]? =some (.loop (rec .ready none))∧W.heap[w.heap.size]? =some (.deferred (some []))) W1 hb1 (fun pre W h=>hEx pre W h.1)
  (fun s A B row hs hgr hr=>⟨hI s A B row hs.1 hgr (fun r e=> .inl (hr r e)),hrow hgr hr (by omega) hs.2.1,hrow hgr hr (Nat.le_refl _) hs.2.2⟩) ?_ ⟨by rw[←hW1];exact hI.alloc _ (hI.alloc _ h0),hL1,hK1⟩).mono ?_
 ·rintro pre x W ⟨hi,hl,hk⟩ hlen
  have hy:=run_yield (P:=P) (args:=encs x) hl (by rw[hrec];exact hps x)
  rw[hrec]at hy
  refine⟨fn,_,assign,body,hy,roundIn_of_wpIn hfn (hassign _ pre x W _ hi ?_)⟩
  intro a' V hkf hkp hiV hax
  have hlV:=hkf.same _ _ (by omega) hl rfl
  have hkV:=hkf.same _ _ (Nat.le_refl _) hk rfl
  have hlt:w.heap.size+1<V.heap.size:=(Array.getElem?_eq_some_iff.1 hlV).1
  refine⟨_,run_beginRound hlV (by rw[hrec]),?_⟩
  have hl2:(V.putObj (w.heap.size+1) (.loop {rec .ready none with state:= .busy})).heap[w.heap.size+1]? =some (.loop {rec .ready none with state:= .busy}):=World.putObj_heap_same hlt
  have hk2:(V.putObj (w.heap.size+1) (.loop {rec .ready none with state:= .busy})).heap[w.heap.size]? =some (.deferred (some [])):=(World.putObj_heap_other (by omega)).trans hkV
  have hp2:Kp V (V.putObj (w.heap.size+1) (.loop {rec .ready none with state:= .busy})):=hKb _ _ _ _ (by omega) hlV rfl rfl
  refine wpIn_mono (hbody _ pre x a' _ (hI.putObj _ hiV (by omega) hlV rfl) ((hAx x a').putObj (s:=()) _ hax (by omega) hlV rfl) hlen) ?_
  rintro e a3 W3 hp
  cases e with
  |normal=>
   obtain⟨hk3,hkp3,hi3⟩:=hp
   have hl3:=hk3.same _ _ (by omega) hl2 rfl
   have hd3:=hk3.same _ _ (Nat.le_refl _) hk2 rfl
   have hend:=run_endRound (P:=P) none hl3
   refine⟨_,_,hend,rfl,⟨hI.putObj _ hi3 (by omega) hl3 rfl,?_,(World.putObj_heap_other (by omega)).trans hd3⟩,hKt hkp (hKt (hKt hp2 hkp3) (hKb _ _ _ _ (by omega) hl3 rfl rfl))⟩
   rw[World.putObj_heap_same (Array.getElem?_eq_some_iff.1 hl3).1,hrec]
   rfl
  |ret=>exact hp.elim
  |exit id=>exact hp.elim
  |goto t=>exact hp.elim
  |panic ch=>exact hp.elim
  |outgrown=>exact hp.elim
 ·rintro e W2 (⟨v,xs,rfl,hs,hi,hl,hk⟩ | ⟨chain,pre,rfl,hp,hi,hl,hk⟩)
  ·have hend:=run_endLoop (P:=P) hl (by rw[hrec];simp)
   rw[hrec]at hend
   exact⟨none,_,hend,hdone _ xs _ (Nat.le_refl _) (hS.putObj _ hs (by omega) hl rfl) (hI.putObj _ hi (by omega) hl rfl) ((World.putObj_heap_other (by omega)).trans hk)⟩
  ·exact hpanic _ chain pre _ (Nat.le_refl _) hp hi hk
end Vm
end
section
namespace Vm
open Go
open Go.Proofs
set_option maxRecDepth 100000
def p121:Fn:=⟨4,[0,2,3,4],
(.seq
(.reg ⟨[],[],[(1,.v (.c (.bool false)))]⟩)
(.seq
(.reg ⟨[.call 4 [] (.id 59) false false [(.s 0)]],[],[(2,.v (.ext (.s 4) 0)),(3,.v (.ext (.s 4) 1))]⟩)
(.seq
(.reg ⟨[.lt 5 [] (.bin .eql (.s 0) (.c (.int .u64 (0))))],[([(5,false)],(.bin .eql (.s 3) (.c (.int .i64 (0)))))],[(1,.v (.ite (.s 5) (.c (.bool true)) (.bin .eql (.s 3) (.c (.int .i64 (0))))))]⟩)
.ret))),
[(1,.v)]⟩
theorem c121:Z8 Tryz.prog fresh sig [.fz] [] Tryz.f121=some p121:=by kernel_rfl
end Vm
end
section
namespace Vm
open Go Go.Proofs Go.RowKit
set_option maxHeartbeats 2000000
set_option maxRecDepth 100000
section
variable {P:Program} {w:World}
theorem zf{o:Oper}{a:Act}{K:Act→World→Prop}{Q:Exit→Act→World→Prop}(s x:Operand)(t:TypeId)
  (ho:o.op= .call {callee:= .builtin .append,args:= #[s,x],argTypes:= #[t,t]}) {e:TypeId} (ht:P.underlying t=some (.slice e)) (hel:elOk P e=true)
  {B n:Nat} {v y:Value} {xs:List Value} (hs:a.eval s=v) (hx:a.eval x=y) (hown:w.ownsRow B e (P.cellsOf e) v n xs) (hB:B≤w.heap.size)
  {Gy:Nat→Prop} {l:List V} (hy:Rd w Gy (.sl l) y) (hk:ZR (P.cellsOf e) l=true) (hlim:n+l.length≤lim)
  (h: ∀v' w' news,w'.ownsRow B e (P.cellsOf e) v' (n+l.length) (xs++news)→w.grownBy w' v.ownBlock→(v'.ownBlock=v.ownBlock∨(w.grownBy w' none∧w'.ownsRow w.heap.size e (P.cellsOf e) v' (n+l.length) (xs++news)))→
   (∀(i:Nat) (ck:V),(flat l)[i]? =some ck→ ∃u,news[i]? =some u∧Rd w Gy ck u)→K (a.put o.dst v') w'):o.wp P a w K Q:=by
 obtain⟨v',w',news,hr,h1,h2,h3,_,h5⟩:=Wc (ty:=o.type) ht hel hown hB hy hk hlim
 unfold Oper.wp execOp
 simp only[ho,resolve,invoke,builtin,Sem.run_bind,Sem.run_pure,Result.andThen_ok,List.map_toArray,List.map_cons,List.map_nil,hs,hx,hr]
 exact h v' w' news h1 h2 h3 h5
theorem Vf{ops:Array Oper}{rest:List Oper}{o:Oper}{a:Act}{Q:Exit→Act→World→Prop}(hgd:o.guard=none)(s x:Operand)(t:TypeId)
  (ho:o.op= .call {callee:= .builtin .append,args:= #[s,x],argTypes:= #[t,t]}) {e:TypeId} (ht:P.underlying t=some (.slice e)) (hel:elOk P e=true)
  {B n:Nat} {v y:Value} {xs:List Value} (hs:a.eval s=v) (hx:a.eval x=y) (hown:w.ownsRow B e (P.cellsOf e) v n xs) (hB:B≤w.heap.size)
  {Gy:Nat→Prop} {l:List V} (hy:Rd w Gy (.sl l) y) (hk:ZR (P.cellsOf e) l=true) (hlim:n+l.length≤lim)
  (h: ∀v' w' news,w'.ownsRow B e (P.cellsOf e) v' (n+l.length) (xs++news)→w.grownBy w' v.ownBlock→(v'.ownBlock=v.ownBlock∨(w.grownBy w' none∧w'.ownsRow w.heap.size e (P.cellsOf e) v' (n+l.length) (xs++news)))→
   (∀(i:Nat) (ck:V),(flat l)[i]? =some ck→ ∃u,news[i]? =some u∧Rd w Gy ck u)→wpList P ops Q rest (a.put o.dst v') w'):wpList P ops Q (o::rest) a w:=
 wpList_plain hgd fun _ hK=>zf s x t ho ht hel hs hx hown hB hy hk hlim fun v' w' news h1 h2 h3 h4=>hK _ _ (h v' w' news h1 h2 h3 h4)
end
def nums(k:IntKind)(l:List Int):List Value:=l.map (Value.int k)
theorem Tg{w:World}{G:Nat→Prop}{k:IntKind}{l:List Int}{news:List Value}(h: ∀(i:Nat) (ck:V),(flat (l.map (V.int k)))[i]? =some ck→ ∃u,news[i]? =some u∧Rd w G ck u)(hl:news.length=l.length):news=nums k l:=by
 have hflat:flat (l.map (V.int k))=l.map (V.int k):=by
  clear h hl
  induction l with
  |nil=>rfl
  |cons a l ih=>rw[List.map_cons,YS,ih];rfl
 apply List.ext_getElem?
 intro i
 unfold nums
 by_cases hi:i<l.length
 ·obtain⟨u,hu,hr⟩:=h i (.int k l[i]) (by rw[hflat,List.getElem?_map,List.getElem?_eq_getElem hi];rfl)
  rw[hu,List.getElem?_map,List.getElem?_eq_getElem hi]
  cases hr;rfl
 ·rw[List.getElem?_eq_none (by omega),List.getElem?_eq_none (by simp;omega)]
theorem Zd{w:World}{B:Nat}{e:TypeId}{z n:Nat}{v:Value}{xs:List Value}(h:w.ownsRow B e z v n xs): ∃a c,v= .slice a n c:=by
 rcases h.2 with ⟨rfl,rfl⟩ | ⟨g,cap,cur,rfl,_⟩
 ·exact⟨_,_,rfl⟩
 ·exact⟨_,_,rfl⟩
theorem Zq{w w':World}{B:Nat}{e:TypeId}{z n:Nat}{v:Value}{xs:List Value}(h:w.ownsRow B e z v n xs)(hs: ∀b,v.ownBlock=some b→w'.heap[b]? =w.heap[b]?):w'.ownsRow B e z v n xs:=by
 refine⟨h.1,?_⟩
 rcases h.2 with ⟨h1,h2⟩ | ⟨g,cap,cur,rfl,h2,h3,h4⟩
 ·exact .inl ⟨h1,h2⟩
 ·exact .inr ⟨g,cap,cur,rfl,h2,by rw[hs g rfl];exact h3,h4⟩
theorem Zl{w:World}{b o:Nat}{cs:Array Value}{T:TypeId}(h:w.heap[b]? =some (.cells cs T (0,0))):w.frozen? ⟨b,o,none⟩=false:=by
 simp[World.frozen?,h]
theorem elU:elOk Tryz.prog 22=true:=by kernel_rfl
theorem ceU:Tryz.prog.cellsOf 22=1:=by kernel_rfl
theorem Zj{w:World}{b:Nat}{o:Obj}(h:w.heap[b]? =some o):b<w.heap.size:=(Array.getElem?_eq_some_iff.1 h).1
theorem VY{w:World}{B B':Nat}{e:TypeId}{z n:Nat}{v:Value}{xs:List Value}(h:w.ownsRow B e z v n xs)(hB:B'≤B):w.ownsRow B' e z v n xs:=by
 refine⟨h.1,?_⟩
 rcases h.2 with h2| ⟨g,cap,cur,hv,hb,h3⟩
 ·exact .inl h2
 ·exact .inr ⟨g,cap,cur,hv,Nat.le_trans hB hb,h3⟩
theorem Rp(k:IntKind)(l:List Int)(i:Nat)(x:Int):nums k (l.set i x)=(nums k l).set i (.int k x):=by unfold nums;rw[List.map_set]
theorem Z4E:(Tryz.prog.info? 22).map (fun i=>(i.zero,i.size,i.bytes))=some (some (.int .u64 0),1,8):=by kernel_rfl
section
variable {w:World} {B:Nat} {G:Nat→Prop}
theorem VW{k:IntKind}(l:List Int):flat (l.map (V.int k))=l.map (V.int k):=by
 induction l with
 |nil=>rfl
 |cons a l ih=>rw[List.map_cons,YS,ih];rfl
theorem Kj{k:IntKind}{e:TypeId}{v:Value}{l:List Int}(h:w.ownsRow B e 1 v l.length (nums k l))(hG: ∀c,B≤c→c<w.heap.size→G c):Rd w G (.sl (l.map (V.int k))) v:=by
 rcases h.2 with ⟨rfl,h0⟩ | ⟨g,cap,cur,rfl,hb,hg,hnc,hcm,_⟩
 ·have:l= []:=List.length_eq_zero_iff.1 h0
  subst this
  exact .nil _ _ (by unfold maxLen;omega)
 ·have:=Rd.sl (w:=w) (G:=G) (l.map (V.int k)) g 0 cap 1 (fun i=>(nums k l).getD i undef) (by simpa using hnc) hcm (hG g hb (Zj hg)) (fun x hx=>by
   obtain⟨n,_,rfl⟩:=List.mem_map.1 hx
   exact⟨rfl,fun c hc=>by simp[V.cells]at hc;subst hc;rfl⟩) (fun i hi=>by
    have hi':i<l.length:=by simpa using hi
    rw[Nat.zero_add,h.cellAt i (by omega)]
    simp[nums,hi']) (fun i c hc=>by
    rw[VW]at hc
    obtain⟨hi,rfl⟩:=List.getElem?_eq_some_iff.1 hc
    have hi':i<l.length:=by simpa using hi
    simp[nums,hi']
    exact .int _ _)
  simpa using this
end
theorem zQ(w:World)(b k:Nat)(hk:k=1∨k=2∨k=3∨k=4):
  Calls Tryz.prog 63 #[.pointer (some ⟨b,0,none⟩),.int .i64 k] w fun e w'=>e= .returned (.pointer (some ⟨b,4+k,none⟩))∧Below w.heap.size w w':=by
 go_enter Tryz.func63,Tryz.ntmps63
 rcases hk with rfl|rfl|rfl|rfl
 all_goals
  go_wp2
  go_region
  go_wp2
  go_ret
  exact⟨rfl,((Below.refl _ _).alloc (Nat.le_refl _) _).drew⟩
end Vm
end
section
namespace Vm
open Go Go.Proofs Go.RowKit
set_option maxHeartbeats 4000000
set_option maxRecDepth 100000
def lsH(h:Hp)(j:Nat):List Int:=if j=0 then h.low else if j=1 then h.high else if j=2 then h.old else if j=3 then h.far else h.roots
structure OwSt (w:World) (b:Nat) (el:Nat→Option Obj) (T:TypeId) (hd src:Nat→Value) (L:Nat→List Int) (k:Nat) (xs:Nat→Value) (wr:World):Prop where
 below:Below w.heap.size w wr
 new:w.heap.size≤b
 blk:wr.heap[b]? =some (.cells #[hd 0,hd 1,hd 2,hd 3,hd 4,xs 0,xs 1,xs 2,xs 3,src 4] T (0,0))
 elder: ∀c,w.heap.size≤c→c<b→wr.heap[c]? =el c
 rest: ∀j,k≤j→xs j=src j
 own: ∀j,j<k→wr.ownsRow w.heap.size 22 1 (xs j) (L j).length (nums .u64 (L j))
 newer: ∀j,j<k→ ∀c,(xs j).ownBlock=some c→b<c
 apart: ∀i j,i<j→j<k→ ∀c,(xs i).ownBlock=some c→(xs j).ownBlock≠some c
theorem OwSt.next{w wr w1 w6:World}{b:Nat}{el:Nat→Option Obj}{T:TypeId}{hd src:Nat→Value}{L:Nat→List Int}{k:Nat}{xs:Nat→Value}(h:OwSt w b el T hd src L k xs wr)(hk:k<4)
  (hb:Below wr.heap.size wr w1) (hg:w1.grownBy w6 none) {v:Value} (ho:w6.ownsRow w.heap.size 22 1 v (L k).length (nums .u64 (L k))) (hn: ∀c,v.ownBlock=some c→w1.heap.size≤c):
  OwSt w b el T hd src L (k+1) (fun j=>if j=k then v else xs j) (w6.setCell ⟨b,5+k,none⟩ v):=by
 have hbl:b<wr.heap.size:=Zj h.blk
 have hs1:=hb.size
 have hs0:=h.below.size
 have hs2:=hg.size
 have keep: ∀c,c<wr.heap.size→c≠b→(w6.setCell ⟨b,5+k,none⟩ v).heap[c]? =wr.heap[c]? :=fun c hc hne=>by
  rw[Below.heap_setCell _ _ _ _ hne,hg.block c (by omega) (by simp),hb.block c hc]
 have h6:w6.heap[b]? =some (.cells #[hd 0,hd 1,hd 2,hd 3,hd 4,xs 0,xs 1,xs 2,xs 3,src 4] T (0,0)):=by
  rw[hg.block b (by omega) (by simp),hb.block b hbl,h.blk]
 refine⟨((h.below.trans (hb.mono hs0)).grown hg (by omega) (by simp)).setCell h.new _,h.new,?_,?_,?_,?_,?_,?_⟩
 ·have:k=0∨k=1∨k=2∨k=3:=by omega
  rcases this with rfl|rfl|rfl|rfl<;>simp[World.setCell,Array.getElem?_modify,h6]
 ·intro c h1 h2
  rw[keep c (by omega) (by omega)]
  exact h.elder c h1 h2
 ·intro j hj
  rw[if_neg (by omega)]
  exact h.rest j (by omega)
 ·intro j hj
  by_cases hjk:j=k
  ·subst hjk
   rw[if_pos rfl]
   exact Zq ho fun c hc=>Below.heap_setCell _ _ _ _ (by have:=hn c hc;show c≠b;omega)
  ·rw[if_neg hjk]
   have hoj:=h.own j (by omega)
   exact Zq hoj fun c hc=>keep c (hoj.lt c hc).2 (by have:=h.newer j (by omega) c hc;omega)
 ·intro j hj c hc
  by_cases hjk:j=k
  ·rw[if_pos hjk]at hc
   have:=hn c hc
   omega
  ·rw[if_neg hjk]at hc
   exact h.newer j (by omega) c hc
 ·intro i j hij hj c hc
  rw[if_neg (by omega)]at hc
  by_cases hjk:j=k
  ·rw[if_pos hjk]
   intro e
   have:=hn c e
   have:=((h.own i (by omega)).lt c hc).2
   omega
  ·rw[if_neg hjk]
   exact h.apart i j hij (by omega) c hc
structure HOwn (B:Nat) (w:World) (h:Hp) (x:Nat→Value):Prop where
 own: ∀j,j<5→w.ownsRow B 22 1 (x j) (lsH h j).length (nums .u64 (lsH h j))
 apart: ∀i j,i<j→j<5→ ∀c,(x i).ownBlock=some c→(x j).ownBlock≠some c
def hpA(h:Hp)(x:Nat→Value):Value:= .agg #[.int .u64 h.base,.int .i64 h.cap,.int .i64 h.to,.bool h.cycle,.int .i64 h.scan,x 0,x 1,x 2,x 3,x 4]
def jO(w:World)(h:Hp)(e:Ending)(w':World):Prop:= ∃x,e= .returned (hpA h x)∧Below w.heap.size w w'∧HOwn w.heap.size w' h x
theorem TY{h:Hp}(hh:h.ok)(k:Nat):(lsH h k).length≤1000000:=by
 unfold lsH
 split
 ·exact hh.low
 split
 ·exact hh.high
 split
 ·exact hh.old
 split
 ·exact hh.far
 ·exact hh.roots
theorem ze(w:World)(b k:Nat)(hk:k<4):
  Calls Tryz.prog 63 #[.pointer (some ⟨b,0,none⟩),.int .i64 ((k+1:Nat):Int)] w fun e w'=>e= .returned (.pointer (some ⟨b,5+k,none⟩))∧Below w.heap.size w w':=by
 have:=zQ w b (k+1) (by omega)
 rw[show 4+(k+1)=5+k by omega]at this
 exact this
theorem UT(w:World)(G:Nat→Prop)(hG: ∀b,G b→b<w.heap.size)(h:Hp)(hh:h.ok)(src:Nat→Value)(hs: ∀j,j<5→Rd w G (.sl ((lsH h j).map vu)) (src j)):
  Calls Tryz.prog 32 #[hpA h src] w (jO w h):=by
 have HS:=Lib.hid hs
 have HH:=Lib.hid hh
 clear hs hh
 unfold hpA
 go_enter Tryz.func32,Tryz.ntmps32
 go_wp2
 go_loopw [4] (fun i wr=> ∃(k:Nat) (xs:Nat→Value),i= .int .i64 ((k+1:Nat):Int)∧k≤4∧Hid (OwSt w (w.heap.size+2) (fun c=>if c=w.heap.size then some (.cells #[.int .u64 h.base,.int .i64 h.cap,.int .i64 h.to,.bool h.cycle,.int .i64 h.scan,src 0,src 1,src 2,src 3,src 4] 25 (0,0))else some (.cells #[.int .u64 0,.int .i64 0,.int .i64 0,.bool false,.int .i64 0,.slice none 0 0,.slice none 0 0,.slice none 0 0,.slice none 0 0,.slice none 0 0] 25 (0,0))) 123 (fun j=>if j=0 then .int .u64 h.base else if j=1 then .int .i64 h.cap else if j=2 then .int .i64 h.to else if j=3 then .bool h.cycle else .int .i64 h.scan) src (lsH h) k xs wr))
  (fun i _=>5- (intOf i).toNat)
 case atStart=>
  refine⟨0,src,rfl,by omega,Lib.hid ⟨(((Below.refl _ _).alloc (Nat.le_refl _) _).alloc (by simp) _).alloc (by simp;omega) _,by omega,?_,?_,fun _ _=>rfl,fun j hj=>by omega,fun j hj=>by omega,fun i j _ hj=>by omega⟩⟩
  have:=heap_alloc_new ((w.alloc (.cells #[.int .u64 h.base,.int .i64 h.cap,.int .i64 h.to,.bool h.cycle,.int .i64 h.scan,src 0,src 1,src 2,src 3,src 4] 25)).alloc (.cells #[.int .u64 0,.int .i64 0,.int .i64 0,.bool false,.int .i64 0,.slice none 0 0,.slice none 0 0,.slice none 0 0,.slice none 0 0,.slice none 0 0] 25)) (.cells #[.int .u64 h.base,.int .i64 h.cap,.int .i64 h.to,.bool h.cycle,.int .i64 h.scan,src 0,src 1,src 2,src 3,src 4] 123)
  ·simpa using this
  ·intro c h1 h2
   have:c=w.heap.size∨c=w.heap.size+1:=by omega
   rcases this with rfl|rfl
   ·rw[if_pos rfl,Below.heap_alloc _ _ _ (by simp;omega),Below.heap_alloc _ _ _ (by simp)]
    exact heap_alloc_new _ _
   ·rw[if_neg (by omega),Below.heap_alloc _ _ _ (by simp)]
    have:=heap_alloc_new (w.alloc (.cells #[.int .u64 h.base,.int .i64 h.cap,.int .i64 h.to,.bool h.cycle,.int .i64 h.scan,src 0,src 1,src 2,src 3,src 4] 25)) (.cells #[.int .u64 0,.int .i64 0,.int .i64 0,.bool false,.int .i64 0,.slice none 0 0,.slice none 0 0,.slice none 0 0,.slice none 0 0,.slice none 0 0] 25)
    simpa using this
 case round=>
  obtain⟨k,xs,rfl,hk,HI⟩:=hrel
  have hsz:=Zj HI.out.blk
  by_cases hlt:k<4
  ·have hle:((k+1:Nat):Int)≤4:=by omega
   have c0:wr.cell? ⟨w.heap.size+2,5+k,none⟩=some (src k):=by
    rw[cell_of_row _ _ _ _ _ _ HI.out.blk]
    have h3:k=0∨k=1∨k=2∨k=3:=by omega
    have hr:=HI.out.rest k (Nat.le_refl _)
    rcases h3 with rfl|rfl|rfl|rfl<;>simp[←hr]
   have f0:wr.frozen? ⟨w.heap.size+2,5+k,none⟩=false:=Zl HI.out.blk
   have hll:(lsH h k).length≤1000000:=TY HH.out k
   go_wp2_with (first
    | (go_at_call 63;refine(ze _ _ _ hlt).mono ?_;rintro e w1 ⟨rfl,hb1⟩;have c1:=(hb1.cell (p:=⟨w.heap.size+2,5+k,none⟩) (by exact hsz)).trans c0;have f1:=(hb1.frozen (p:=⟨w.heap.size+2,5+k,none⟩) (by exact hsz)).trans f0;have HR1:=Lib.hid ((HS.out k (by omega)).keep (w':=w1) (fun b hb=>by rw[hb1.block b (by have:=hG b hb;have:=HI.out.below.size;omega)];exact HI.out.below.block b (hG b hb)) (fun _ h=>h));have HB1:=Lib.hid hb1;have hs1:=hb1.size;have hs0:=HI.out.below.size;clear hb1)
    | (at_builtin;refine Vf (B:=w.heap.size) (n:=0) (xs:= []) rfl _ _ _ rfl Tryz.underlying23 elU rfl rfl (World.ownsRow_nil _ _ _ _) (by omega) (l:=(lsH h k).map vu) (Gy:=G) HR1.out (by rw[ceU];exact XI _) (by simp[lim];omega) ?_))
   intro v6 w6 news6 hown6 hgrow hat6 hn6
   simp only[ceU]at hown6
   have hl6:news6.length=(lsH h k).length:=by have:=hown6.1;simpa using this
   rw[Tg hn6 hl6]at hown6
   try simp only[List.length_map,Nat.zero_add,List.nil_append]at hown6
   obtain⟨a6,q6,hv6⟩:=Zd hown6
   subst hv6
   have hnone:(Value.slice none 0 0).ownBlock=none:=rfl
   rw[hnone]at hgrow
   have c6:=(hgrow.cell_far ⟨w.heap.size+2,5+k,none⟩ (by show w.heap.size+2<_;omega) (by simp)).trans c1
   have f6:=(hgrow.frozen_far ⟨w.heap.size+2,5+k,none⟩ (by show w.heap.size+2<_;omega) (by simp)).trans f1
   have hnew: ∀c,(Value.slice a6 (lsH h k).length q6).ownBlock=some c→w1.heap.size≤c:=by
    intro c hc
    rcases hat6 with e| ⟨_,e⟩
    ·rw[e]at hc;cases hc
    ·exact(e.lt c hc).1
   have HN:=Lib.hid (HI.out.next hlt HB1.out hgrow hown6 hnew)
   clear hown6 hgrow hat6 hn6 hnew
   go_wp2
   go_roundw
   case rel=>exact⟨k+1,_,by go_num,by omega,HN⟩
   case measure=>simp[intOf];omega
  ·have hk4:k=4:=by omega
   subst hk4
   have b0:=HI.out.elder w.heap.size (by omega) (by omega)
   rw[if_pos rfl]at b0
   have b1:=HI.out.elder (w.heap.size+1) (by omega) (by omega)
   rw[if_neg (by omega)]at b1
   have c9:wr.cell? ⟨w.heap.size,9,none⟩=some (src 4):=by rw[cell_of_row _ _ _ _ _ _ b0];rfl
   have hll:(lsH h 4).length≤1000000:=TY HH.out 4
   have HR1:=Lib.hid ((HS.out 4 (by omega)).keep (w':=wr) (fun b hb=>HI.out.below.block b (hG b hb)) (fun _ h=>h))
   have hs0:=HI.out.below.size
   go_wp2_with (at_builtin;refine Vf (B:=w.heap.size) (n:=0) (xs:= []) rfl _ _ _ rfl Tryz.underlying23 elU rfl rfl (World.ownsRow_nil _ _ _ _) (by omega) (l:=(lsH h 4).map vu) (Gy:=G) HR1.out (by rw[ceU];exact XI _) (by simp[lim];omega) ?_)
   intro v6 w6 news6 hown6 hgrow hat6 hn6
   simp only[ceU]at hown6
   have hl6:news6.length=(lsH h 4).length:=by have:=hown6.1;simpa using this
   rw[Tg hn6 hl6]at hown6
   try simp only[List.length_map,Nat.zero_add,List.nil_append]at hown6
   obtain⟨a6,q6,hv6⟩:=Zd hown6
   subst hv6
   have hnone:(Value.slice none 0 0).ownBlock=none:=rfl
   rw[hnone]at hgrow
   obtain⟨a0',q0',e0⟩:=Zd (HI.out.own 0 (by omega))
   obtain⟨a1',q1',e1⟩:=Zd (HI.out.own 1 (by omega))
   obtain⟨a2',q2',e2⟩:=Zd (HI.out.own 2 (by omega))
   obtain⟨a3',q3',e3⟩:=Zd (HI.out.own 3 (by omega))
   have blk:wr.heap[w.heap.size+2]? =some (.cells #[.int .u64 h.base,.int .i64 h.cap,.int .i64 h.to,.bool h.cycle,.int .i64 h.scan,.slice a0' (lsH h 0).length q0',.slice a1' (lsH h 1).length q1',.slice a2' (lsH h 2).length q2',.slice a3' (lsH h 3).length q3',src 4] 123 (0,0)):=by rw[←e0,←e1,←e2,←e3];exact HI.out.blk
   have blk6:=(hgrow.block (w.heap.size+2) (by omega) (by simp)).trans blk
   have b61:=(hgrow.block (w.heap.size+1) (by omega) (by simp)).trans b1
   have x9:w6.cell? ⟨w.heap.size+2,9,none⟩=some (src 4):=by rw[cell_of_row _ _ _ _ _ _ blk6];rfl
   have y9:w6.frozen? ⟨w.heap.size+2,9,none⟩=false:=Zl blk6
   have blk7:(w6.setCell ⟨w.heap.size+2,9,none⟩ (Value.slice a6 (lsH h 4).length q6)).heap[w.heap.size+2]? =some (.cells #[.int .u64 h.base,.int .i64 h.cap,.int .i64 h.to,.bool h.cycle,.int .i64 h.scan,.slice a0' (lsH h 0).length q0',.slice a1' (lsH h 1).length q1',.slice a2' (lsH h 2).length q2',.slice a3' (lsH h 3).length q3',.slice a6 (lsH h 4).length q6] 123 (0,0)):=by
    simp[World.setCell,Array.getElem?_modify,blk6]
   have b71:(w6.setCell ⟨w.heap.size+2,9,none⟩ (Value.slice a6 (lsH h 4).length q6)).heap[w.heap.size+1]? =some (.cells #[.int .u64 0,.int .i64 0,.int .i64 0,.bool false,.int .i64 0,.slice none 0 0,.slice none 0 0,.slice none 0 0,.slice none 0 0,.slice none 0 0] 25 (0,0)):=by
    rw[Below.heap_setCell _ _ _ _ (by simp)];exact b61
   have l0:(w6.setCell ⟨w.heap.size+2,9,none⟩ (Value.slice a6 (lsH h 4).length q6)).cell? ⟨w.heap.size+2,0,none⟩=some (Value.int IntKind.u64 h.base):=by rw[cell_of_row _ _ _ _ _ _ blk7];rfl
   have l1:(w6.setCell ⟨w.heap.size+2,9,none⟩ (Value.slice a6 (lsH h 4).length q6)).cell? ⟨w.heap.size+2,1,none⟩=some (Value.int IntKind.i64 h.cap):=by rw[cell_of_row _ _ _ _ _ _ blk7];rfl
   have l2:(w6.setCell ⟨w.heap.size+2,9,none⟩ (Value.slice a6 (lsH h 4).length q6)).cell? ⟨w.heap.size+2,2,none⟩=some (Value.int IntKind.i64 h.to):=by rw[cell_of_row _ _ _ _ _ _ blk7];rfl
   have l3:(w6.setCell ⟨w.heap.size+2,9,none⟩ (Value.slice a6 (lsH h 4).length q6)).cell? ⟨w.heap.size+2,3,none⟩=some (Value.bool h.cycle):=by rw[cell_of_row _ _ _ _ _ _ blk7];rfl
   have l4:(w6.setCell ⟨w.heap.size+2,9,none⟩ (Value.slice a6 (lsH h 4).length q6)).cell? ⟨w.heap.size+2,4,none⟩=some (Value.int IntKind.i64 h.scan):=by rw[cell_of_row _ _ _ _ _ _ blk7];rfl
   have l5:(w6.setCell ⟨w.heap.size+2,9,none⟩ (Value.slice a6 (lsH h 4).length q6)).cell? ⟨w.heap.size+2,5,none⟩=some (Value.slice a0' (lsH h 0).length q0'):=by rw[cell_of_row _ _ _ _ _ _ blk7];rfl
   have l6:(w6.setCell ⟨w.heap.size+2,9,none⟩ (Value.slice a6 (lsH h 4).length q6)).cell? ⟨w.heap.size+2,6,none⟩=some (Value.slice a1' (lsH h 1).length q1'):=by rw[cell_of_row _ _ _ _ _ _ blk7];rfl
   have l7:(w6.setCell ⟨w.heap.size+2,9,none⟩ (Value.slice a6 (lsH h 4).length q6)).cell? ⟨w.heap.size+2,7,none⟩=some (Value.slice a2' (lsH h 2).length q2'):=by rw[cell_of_row _ _ _ _ _ _ blk7];rfl
   have l8:(w6.setCell ⟨w.heap.size+2,9,none⟩ (Value.slice a6 (lsH h 4).length q6)).cell? ⟨w.heap.size+2,8,none⟩=some (Value.slice a3' (lsH h 3).length q3'):=by rw[cell_of_row _ _ _ _ _ _ blk7];rfl
   have l9:(w6.setCell ⟨w.heap.size+2,9,none⟩ (Value.slice a6 (lsH h 4).length q6)).cell? ⟨w.heap.size+2,9,none⟩=some (Value.slice a6 (lsH h 4).length q6):=by rw[cell_of_row _ _ _ _ _ _ blk7];rfl
   have m0:(w6.setCell ⟨w.heap.size+2,9,none⟩ (Value.slice a6 (lsH h 4).length q6)).cell? ⟨w.heap.size+1,0,none⟩=some (Value.int IntKind.u64 0):=by rw[cell_of_row _ _ _ _ _ _ b71];rfl
   have r0:(w6.setCell ⟨w.heap.size+2,9,none⟩ (Value.slice a6 (lsH h 4).length q6)).frozen? ⟨w.heap.size+1,0,none⟩=false:=Zl b71
   have m1:(w6.setCell ⟨w.heap.size+2,9,none⟩ (Value.slice a6 (lsH h 4).length q6)).cell? ⟨w.heap.size+1,1,none⟩=some (Value.int IntKind.i64 0):=by rw[cell_of_row _ _ _ _ _ _ b71];rfl
   have r1:(w6.setCell ⟨w.heap.size+2,9,none⟩ (Value.slice a6 (lsH h 4).length q6)).frozen? ⟨w.heap.size+1,1,none⟩=false:=Zl b71
   have m2:(w6.setCell ⟨w.heap.size+2,9,none⟩ (Value.slice a6 (lsH h 4).length q6)).cell? ⟨w.heap.size+1,2,none⟩=some (Value.int IntKind.i64 0):=by rw[cell_of_row _ _ _ _ _ _ b71];rfl
   have r2:(w6.setCell ⟨w.heap.size+2,9,none⟩ (Value.slice a6 (lsH h 4).length q6)).frozen? ⟨w.heap.size+1,2,none⟩=false:=Zl b71
   have m3:(w6.setCell ⟨w.heap.size+2,9,none⟩ (Value.slice a6 (lsH h 4).length q6)).cell? ⟨w.heap.size+1,3,none⟩=some (Value.bool false):=by rw[cell_of_row _ _ _ _ _ _ b71];rfl
   have r3:(w6.setCell ⟨w.heap.size+2,9,none⟩ (Value.slice a6 (lsH h 4).length q6)).frozen? ⟨w.heap.size+1,3,none⟩=false:=Zl b71
   have m4:(w6.setCell ⟨w.heap.size+2,9,none⟩ (Value.slice a6 (lsH h 4).length q6)).cell? ⟨w.heap.size+1,4,none⟩=some (Value.int IntKind.i64 0):=by rw[cell_of_row _ _ _ _ _ _ b71];rfl
   have r4:(w6.setCell ⟨w.heap.size+2,9,none⟩ (Value.slice a6 (lsH h 4).length q6)).frozen? ⟨w.heap.size+1,4,none⟩=false:=Zl b71
   have m5:(w6.setCell ⟨w.heap.size+2,9,none⟩ (Value.slice a6 (lsH h 4).length q6)).cell? ⟨w.heap.size+1,5,none⟩=some (Value.slice none 0 0):=by rw[cell_of_row _ _ _ _ _ _ b71];rfl
   have r5:(w6.setCell ⟨w.heap.size+2,9,none⟩ (Value.slice a6 (lsH h 4).length q6)).frozen? ⟨w.heap.size+1,5,none⟩=false:=Zl b71
   have m6:(w6.setCell ⟨w.heap.size+2,9,none⟩ (Value.slice a6 (lsH h 4).length q6)).cell? ⟨w.heap.size+1,6,none⟩=some (Value.slice none 0 0):=by rw[cell_of_row _ _ _ _ _ _ b71];rfl
   have r6:(w6.setCell ⟨w.heap.size+2,9,none⟩ (Value.slice a6 (lsH h 4).length q6)).frozen? ⟨w.heap.size+1,6,none⟩=false:=Zl b71
   have m7:(w6.setCell ⟨w.heap.size+2,9,none⟩ (Value.slice a6 (lsH h 4).length q6)).cell? ⟨w.heap.size+1,7,none⟩=some (Value.slice none 0 0):=by rw[cell_of_row _ _ _ _ _ _ b71];rfl
   have r7:(w6.setCell ⟨w.heap.size+2,9,none⟩ (Value.slice a6 (lsH h 4).length q6)).frozen? ⟨w.heap.size+1,7,none⟩=false:=Zl b71
   have m8:(w6.setCell ⟨w.heap.size+2,9,none⟩ (Value.slice a6 (lsH h 4).length q6)).cell? ⟨w.heap.size+1,8,none⟩=some (Value.slice none 0 0):=by rw[cell_of_row _ _ _ _ _ _ b71];rfl
   have r8:(w6.setCell ⟨w.heap.size+2,9,none⟩ (Value.slice a6 (lsH h 4).length q6)).frozen? ⟨w.heap.size+1,8,none⟩=false:=Zl b71
   have m9:(w6.setCell ⟨w.heap.size+2,9,none⟩ (Value.slice a6 (lsH h 4).length q6)).cell? ⟨w.heap.size+1,9,none⟩=some (Value.slice none 0 0):=by rw[cell_of_row _ _ _ _ _ _ b71];rfl
   have r9:(w6.setCell ⟨w.heap.size+2,9,none⟩ (Value.slice a6 (lsH h 4).length q6)).frozen? ⟨w.heap.size+1,9,none⟩=false:=Zl b71
   have bF:(((((((((((w6.setCell ⟨w.heap.size+2,9,none⟩ (Value.slice a6 (lsH h 4).length q6)).setCell ⟨w.heap.size+1,0,none⟩ (Value.int IntKind.u64 h.base)).setCell ⟨w.heap.size+1,1,none⟩ (Value.int IntKind.i64 h.cap)).setCell ⟨w.heap.size+1,2,none⟩ (Value.int IntKind.i64 h.to)).setCell ⟨w.heap.size+1,3,none⟩ (Value.bool h.cycle)).setCell ⟨w.heap.size+1,4,none⟩ (Value.int IntKind.i64 h.scan)).setCell ⟨w.heap.size+1,5,none⟩ (Value.slice a0' (lsH h 0).length q0')).setCell ⟨w.heap.size+1,6,none⟩ (Value.slice a1' (lsH h 1).length q1')).setCell ⟨w.heap.size+1,7,none⟩ (Value.slice a2' (lsH h 2).length q2')).setCell ⟨w.heap.size+1,8,none⟩ (Value.slice a3' (lsH h 3).length q3')).setCell ⟨w.heap.size+1,9,none⟩ (Value.slice a6 (lsH h 4).length q6)).heap[w.heap.size+1]? =some (.cells #[.int .u64 h.base,.int .i64 h.cap,.int .i64 h.to,.bool h.cycle,.int .i64 h.scan,.slice a0' (lsH h 0).length q0',.slice a1' (lsH h 1).length q1',.slice a2' (lsH h 2).length q2',.slice a3' (lsH h 3).length q3',.slice a6 (lsH h 4).length q6] 25 (0,0)):=by
    simp[World.setCell,Array.getElem?_modify,b61]
   have z0:(((((((((((w6.setCell ⟨w.heap.size+2,9,none⟩ (Value.slice a6 (lsH h 4).length q6)).setCell ⟨w.heap.size+1,0,none⟩ (Value.int IntKind.u64 h.base)).setCell ⟨w.heap.size+1,1,none⟩ (Value.int IntKind.i64 h.cap)).setCell ⟨w.heap.size+1,2,none⟩ (Value.int IntKind.i64 h.to)).setCell ⟨w.heap.size+1,3,none⟩ (Value.bool h.cycle)).setCell ⟨w.heap.size+1,4,none⟩ (Value.int IntKind.i64 h.scan)).setCell ⟨w.heap.size+1,5,none⟩ (Value.slice a0' (lsH h 0).length q0')).setCell ⟨w.heap.size+1,6,none⟩ (Value.slice a1' (lsH h 1).length q1')).setCell ⟨w.heap.size+1,7,none⟩ (Value.slice a2' (lsH h 2).length q2')).setCell ⟨w.heap.size+1,8,none⟩ (Value.slice a3' (lsH h 3).length q3')).setCell ⟨w.heap.size+1,9,none⟩ (Value.slice a6 (lsH h 4).length q6)).cell? ⟨w.heap.size+1,0,none⟩=some (Value.int IntKind.u64 h.base):=by rw[cell_of_row _ _ _ _ _ _ bF];rfl
   have z1:(((((((((((w6.setCell ⟨w.heap.size+2,9,none⟩ (Value.slice a6 (lsH h 4).length q6)).setCell ⟨w.heap.size+1,0,none⟩ (Value.int IntKind.u64 h.base)).setCell ⟨w.heap.size+1,1,none⟩ (Value.int IntKind.i64 h.cap)).setCell ⟨w.heap.size+1,2,none⟩ (Value.int IntKind.i64 h.to)).setCell ⟨w.heap.size+1,3,none⟩ (Value.bool h.cycle)).setCell ⟨w.heap.size+1,4,none⟩ (Value.int IntKind.i64 h.scan)).setCell ⟨w.heap.size+1,5,none⟩ (Value.slice a0' (lsH h 0).length q0')).setCell ⟨w.heap.size+1,6,none⟩ (Value.slice a1' (lsH h 1).length q1')).setCell ⟨w.heap.size+1,7,none⟩ (Value.slice a2' (lsH h 2).length q2')).setCell ⟨w.heap.size+1,8,none⟩ (Value.slice a3' (lsH h 3).length q3')).setCell ⟨w.heap.size+1,9,none⟩ (Value.slice a6 (lsH h 4).length q6)).cell? ⟨w.heap.size+1,1,none⟩=some (Value.int IntKind.i64 h.cap):=by rw[cell_of_row _ _ _ _ _ _ bF];rfl
   have z2:(((((((((((w6.setCell ⟨w.heap.size+2,9,none⟩ (Value.slice a6 (lsH h 4).length q6)).setCell ⟨w.heap.size+1,0,none⟩ (Value.int IntKind.u64 h.base)).setCell ⟨w.heap.size+1,1,none⟩ (Value.int IntKind.i64 h.cap)).setCell ⟨w.heap.size+1,2,none⟩ (Value.int IntKind.i64 h.to)).setCell ⟨w.heap.size+1,3,none⟩ (Value.bool h.cycle)).setCell ⟨w.heap.size+1,4,none⟩ (Value.int IntKind.i64 h.scan)).setCell ⟨w.heap.size+1,5,none⟩ (Value.slice a0' (lsH h 0).length q0')).setCell ⟨w.heap.size+1,6,none⟩ (Value.slice a1' (lsH h 1).length q1')).setCell ⟨w.heap.size+1,7,none⟩ (Value.slice a2' (lsH h 2).length q2')).setCell ⟨w.heap.size+1,8,none⟩ (Value.slice a3' (lsH h 3).length q3')).setCell ⟨w.heap.size+1,9,none⟩ (Value.slice a6 (lsH h 4).length q6)).cell? ⟨w.heap.size+1,2,none⟩=some (Value.int IntKind.i64 h.to):=by rw[cell_of_row _ _ _ _ _ _ bF];rfl
   have z3:(((((((((((w6.setCell ⟨w.heap.size+2,9,none⟩ (Value.slice a6 (lsH h 4).length q6)).setCell ⟨w.heap.size+1,0,none⟩ (Value.int IntKind.u64 h.base)).setCell ⟨w.heap.size+1,1,none⟩ (Value.int IntKind.i64 h.cap)).setCell ⟨w.heap.size+1,2,none⟩ (Value.int IntKind.i64 h.to)).setCell ⟨w.heap.size+1,3,none⟩ (Value.bool h.cycle)).setCell ⟨w.heap.size+1,4,none⟩ (Value.int IntKind.i64 h.scan)).setCell ⟨w.heap.size+1,5,none⟩ (Value.slice a0' (lsH h 0).length q0')).setCell ⟨w.heap.size+1,6,none⟩ (Value.slice a1' (lsH h 1).length q1')).setCell ⟨w.heap.size+1,7,none⟩ (Value.slice a2' (lsH h 2).length q2')).setCell ⟨w.heap.size+1,8,none⟩ (Value.slice a3' (lsH h 3).length q3')).setCell ⟨w.heap.size+1,9,none⟩ (Value.slice a6 (lsH h 4).length q6)).cell? ⟨w.heap.size+1,3,none⟩=some (Value.bool h.cycle):=by rw[cell_of_row _ _ _ _ _ _ bF];rfl
   have z4:(((((((((((w6.setCell ⟨w.heap.size+2,9,none⟩ (Value.slice a6 (lsH h 4).length q6)).setCell ⟨w.heap.size+1,0,none⟩ (Value.int IntKind.u64 h.base)).setCell ⟨w.heap.size+1,1,none⟩ (Value.int IntKind.i64 h.cap)).setCell ⟨w.heap.size+1,2,none⟩ (Value.int IntKind.i64 h.to)).setCell ⟨w.heap.size+1,3,none⟩ (Value.bool h.cycle)).setCell ⟨w.heap.size+1,4,none⟩ (Value.int IntKind.i64 h.scan)).setCell ⟨w.heap.size+1,5,none⟩ (Value.slice a0' (lsH h 0).length q0')).setCell ⟨w.heap.size+1,6,none⟩ (Value.slice a1' (lsH h 1).length q1')).setCell ⟨w.heap.size+1,7,none⟩ (Value.slice a2' (lsH h 2).length q2')).setCell ⟨w.heap.size+1,8,none⟩ (Value.slice a3' (lsH h 3).length q3')).setCell ⟨w.heap.size+1,9,none⟩ (Value.slice a6 (lsH h 4).length q6)).cell? ⟨w.heap.size+1,4,none⟩=some (Value.int IntKind.i64 h.scan):=by rw[cell_of_row _ _ _ _ _ _ bF];rfl
   have z5:(((((((((((w6.setCell ⟨w.heap.size+2,9,none⟩ (Value.slice a6 (lsH h 4).length q6)).setCell ⟨w.heap.size+1,0,none⟩ (Value.int IntKind.u64 h.base)).setCell ⟨w.heap.size+1,1,none⟩ (Value.int IntKind.i64 h.cap)).setCell ⟨w.heap.size+1,2,none⟩ (Value.int IntKind.i64 h.to)).setCell ⟨w.heap.size+1,3,none⟩ (Value.bool h.cycle)).setCell ⟨w.heap.size+1,4,none⟩ (Value.int IntKind.i64 h.scan)).setCell ⟨w.heap.size+1,5,none⟩ (Value.slice a0' (lsH h 0).length q0')).setCell ⟨w.heap.size+1,6,none⟩ (Value.slice a1' (lsH h 1).length q1')).setCell ⟨w.heap.size+1,7,none⟩ (Value.slice a2' (lsH h 2).length q2')).setCell ⟨w.heap.size+1,8,none⟩ (Value.slice a3' (lsH h 3).length q3')).setCell ⟨w.heap.size+1,9,none⟩ (Value.slice a6 (lsH h 4).length q6)).cell? ⟨w.heap.size+1,5,none⟩=some (Value.slice a0' (lsH h 0).length q0'):=by rw[cell_of_row _ _ _ _ _ _ bF];rfl
   have z6:(((((((((((w6.setCell ⟨w.heap.size+2,9,none⟩ (Value.slice a6 (lsH h 4).length q6)).setCell ⟨w.heap.size+1,0,none⟩ (Value.int IntKind.u64 h.base)).setCell ⟨w.heap.size+1,1,none⟩ (Value.int IntKind.i64 h.cap)).setCell ⟨w.heap.size+1,2,none⟩ (Value.int IntKind.i64 h.to)).setCell ⟨w.heap.size+1,3,none⟩ (Value.bool h.cycle)).setCell ⟨w.heap.size+1,4,none⟩ (Value.int IntKind.i64 h.scan)).setCell ⟨w.heap.size+1,5,none⟩ (Value.slice a0' (lsH h 0).length q0')).setCell ⟨w.heap.size+1,6,none⟩ (Value.slice a1' (lsH h 1).length q1')).setCell ⟨w.heap.size+1,7,none⟩ (Value.slice a2' (lsH h 2).length q2')).setCell ⟨w.heap.size+1,8,none⟩ (Value.slice a3' (lsH h 3).length q3')).setCell ⟨w.heap.size+1,9,none⟩ (Value.slice a6 (lsH h 4).length q6)).cell? ⟨w.heap.size+1,6,none⟩=some (Value.slice a1' (lsH h 1).length q1'):=by rw[cell_of_row _ _ _ _ _ _ bF];rfl
   have z7:(((((((((((w6.setCell ⟨w.heap.size+2,9,none⟩ (Value.slice a6 (lsH h 4).length q6)).setCell ⟨w.heap.size+1,0,none⟩ (Value.int IntKind.u64 h.base)).setCell ⟨w.heap.size+1,1,none⟩ (Value.int IntKind.i64 h.cap)).setCell ⟨w.heap.size+1,2,none⟩ (Value.int IntKind.i64 h.to)).setCell ⟨w.heap.size+1,3,none⟩ (Value.bool h.cycle)).setCell ⟨w.heap.size+1,4,none⟩ (Value.int IntKind.i64 h.scan)).setCell ⟨w.heap.size+1,5,none⟩ (Value.slice a0' (lsH h 0).length q0')).setCell ⟨w.heap.size+1,6,none⟩ (Value.slice a1' (lsH h 1).length q1')).setCell ⟨w.heap.size+1,7,none⟩ (Value.slice a2' (lsH h 2).length q2')).setCell ⟨w.heap.size+1,8,none⟩ (Value.slice a3' (lsH h 3).length q3')).setCell ⟨w.heap.size+1,9,none⟩ (Value.slice a6 (lsH h 4).length q6)).cell? ⟨w.heap.size+1,7,none⟩=some (Value.slice a2' (lsH h 2).length q2'):=by rw[cell_of_row _ _ _ _ _ _ bF];rfl
   have z8:(((((((((((w6.setCell ⟨w.heap.size+2,9,none⟩ (Value.slice a6 (lsH h 4).length q6)).setCell ⟨w.heap.size+1,0,none⟩ (Value.int IntKind.u64 h.base)).setCell ⟨w.heap.size+1,1,none⟩ (Value.int IntKind.i64 h.cap)).setCell ⟨w.heap.size+1,2,none⟩ (Value.int IntKind.i64 h.to)).setCell ⟨w.heap.size+1,3,none⟩ (Value.bool h.cycle)).setCell ⟨w.heap.size+1,4,none⟩ (Value.int IntKind.i64 h.scan)).setCell ⟨w.heap.size+1,5,none⟩ (Value.slice a0' (lsH h 0).length q0')).setCell ⟨w.heap.size+1,6,none⟩ (Value.slice a1' (lsH h 1).length q1')).setCell ⟨w.heap.size+1,7,none⟩ (Value.slice a2' (lsH h 2).length q2')).setCell ⟨w.heap.size+1,8,none⟩ (Value.slice a3' (lsH h 3).length q3')).setCell ⟨w.heap.size+1,9,none⟩ (Value.slice a6 (lsH h 4).length q6)).cell? ⟨w.heap.size+1,8,none⟩=some (Value.slice a3' (lsH h 3).length q3'):=by rw[cell_of_row _ _ _ _ _ _ bF];rfl
   have z9:(((((((((((w6.setCell ⟨w.heap.size+2,9,none⟩ (Value.slice a6 (lsH h 4).length q6)).setCell ⟨w.heap.size+1,0,none⟩ (Value.int IntKind.u64 h.base)).setCell ⟨w.heap.size+1,1,none⟩ (Value.int IntKind.i64 h.cap)).setCell ⟨w.heap.size+1,2,none⟩ (Value.int IntKind.i64 h.to)).setCell ⟨w.heap.size+1,3,none⟩ (Value.bool h.cycle)).setCell ⟨w.heap.size+1,4,none⟩ (Value.int IntKind.i64 h.scan)).setCell ⟨w.heap.size+1,5,none⟩ (Value.slice a0' (lsH h 0).length q0')).setCell ⟨w.heap.size+1,6,none⟩ (Value.slice a1' (lsH h 1).length q1')).setCell ⟨w.heap.size+1,7,none⟩ (Value.slice a2' (lsH h 2).length q2')).setCell ⟨w.heap.size+1,8,none⟩ (Value.slice a3' (lsH h 3).length q3')).setCell ⟨w.heap.size+1,9,none⟩ (Value.slice a6 (lsH h 4).length q6)).cell? ⟨w.heap.size+1,9,none⟩=some (Value.slice a6 (lsH h 4).length q6):=by rw[cell_of_row _ _ _ _ _ _ bF];rfl
   have hkp: ∀c,c≠w.heap.size+1→c≠w.heap.size+2→(((((((((((w6.setCell ⟨w.heap.size+2,9,none⟩ (Value.slice a6 (lsH h 4).length q6)).setCell ⟨w.heap.size+1,0,none⟩ (Value.int IntKind.u64 h.base)).setCell ⟨w.heap.size+1,1,none⟩ (Value.int IntKind.i64 h.cap)).setCell ⟨w.heap.size+1,2,none⟩ (Value.int IntKind.i64 h.to)).setCell ⟨w.heap.size+1,3,none⟩ (Value.bool h.cycle)).setCell ⟨w.heap.size+1,4,none⟩ (Value.int IntKind.i64 h.scan)).setCell ⟨w.heap.size+1,5,none⟩ (Value.slice a0' (lsH h 0).length q0')).setCell ⟨w.heap.size+1,6,none⟩ (Value.slice a1' (lsH h 1).length q1')).setCell ⟨w.heap.size+1,7,none⟩ (Value.slice a2' (lsH h 2).length q2')).setCell ⟨w.heap.size+1,8,none⟩ (Value.slice a3' (lsH h 3).length q3')).setCell ⟨w.heap.size+1,9,none⟩ (Value.slice a6 (lsH h 4).length q6)).heap[c]? =w6.heap[c]? :=fun c h1 h2=>by
    simp[World.setCell,Array.getElem?_modify,h1,h2,Ne.symm h1,Ne.symm h2]
   have hbF:Below w.heap.size w (((((((((((w6.setCell ⟨w.heap.size+2,9,none⟩ (Value.slice a6 (lsH h 4).length q6)).setCell ⟨w.heap.size+1,0,none⟩ (Value.int IntKind.u64 h.base)).setCell ⟨w.heap.size+1,1,none⟩ (Value.int IntKind.i64 h.cap)).setCell ⟨w.heap.size+1,2,none⟩ (Value.int IntKind.i64 h.to)).setCell ⟨w.heap.size+1,3,none⟩ (Value.bool h.cycle)).setCell ⟨w.heap.size+1,4,none⟩ (Value.int IntKind.i64 h.scan)).setCell ⟨w.heap.size+1,5,none⟩ (Value.slice a0' (lsH h 0).length q0')).setCell ⟨w.heap.size+1,6,none⟩ (Value.slice a1' (lsH h 1).length q1')).setCell ⟨w.heap.size+1,7,none⟩ (Value.slice a2' (lsH h 2).length q2')).setCell ⟨w.heap.size+1,8,none⟩ (Value.slice a3' (lsH h 3).length q3')).setCell ⟨w.heap.size+1,9,none⟩ (Value.slice a6 (lsH h 4).length q6)):=by
    refine Below.setCell (Below.setCell (Below.setCell (Below.setCell (Below.setCell (Below.setCell (Below.setCell (Below.setCell (Below.setCell (Below.setCell (Below.setCell (HI.out.below.grown hgrow hs0 (by simp)) (by simp) _) (by simp) _) (by simp) _) (by simp) _) (by simp) _) (by simp) _) (by simp) _) (by simp) _) (by simp) _) (by simp) _) (by simp) _
   have hnew: ∀c,(Value.slice a6 (lsH h 4).length q6).ownBlock=some c→wr.heap.size≤c:=by
    intro c hc
    rcases hat6 with e| ⟨_,e⟩
    ·rw[e]at hc;cases hc
    ·exact(e.lt c hc).1
   have hF:HOwn w.heap.size (((((((((((w6.setCell ⟨w.heap.size+2,9,none⟩ (Value.slice a6 (lsH h 4).length q6)).setCell ⟨w.heap.size+1,0,none⟩ (Value.int IntKind.u64 h.base)).setCell ⟨w.heap.size+1,1,none⟩ (Value.int IntKind.i64 h.cap)).setCell ⟨w.heap.size+1,2,none⟩ (Value.int IntKind.i64 h.to)).setCell ⟨w.heap.size+1,3,none⟩ (Value.bool h.cycle)).setCell ⟨w.heap.size+1,4,none⟩ (Value.int IntKind.i64 h.scan)).setCell ⟨w.heap.size+1,5,none⟩ (Value.slice a0' (lsH h 0).length q0')).setCell ⟨w.heap.size+1,6,none⟩ (Value.slice a1' (lsH h 1).length q1')).setCell ⟨w.heap.size+1,7,none⟩ (Value.slice a2' (lsH h 2).length q2')).setCell ⟨w.heap.size+1,8,none⟩ (Value.slice a3' (lsH h 3).length q3')).setCell ⟨w.heap.size+1,9,none⟩ (Value.slice a6 (lsH h 4).length q6)) h (fun j=>if j=4 then Value.slice a6 (lsH h 4).length q6 else xs j):=by
    refine⟨fun j hj=> ?_,fun i j hij hj c hc=> ?_⟩
    ·by_cases h4:j=4
     ·subst h4
      rw[if_pos rfl]
      exact Zq hown6 fun c hc=>hkp c (by have:=hnew c hc;omega) (by have:=hnew c hc;omega)
     ·rw[if_neg h4]
      have ho:=HI.out.own j (by omega)
      exact Zq ho fun c hc=>by
       have h1:=HI.out.newer j (by omega) c hc
       have h2:=(ho.lt c hc).2
       rw[hkp c (by omega) (by omega),hgrow.block c h2 (by simp)]
    ·rw[if_neg (by omega)]at hc
     by_cases h4:j=4
     ·subst h4
      rw[if_pos rfl]
      intro e
      have h1:=hnew c e
      have h2:=((HI.out.own i (by omega)).lt c hc).2
      omega
     ·rw[if_neg h4]
      exact HI.out.apart i j hij (by omega) c hc
   clear hkp hnew bF
   go_wp2
   refine bodyPost_ret (v:= .agg #[.int .u64 h.base,.int .i64 h.cap,.int .i64 h.to,.bool h.cycle,.int .i64 h.scan,.slice a0' (lsH h 0).length q0',.slice a1' (lsH h 1).length q1',.slice a2' (lsH h 2).length q2',.slice a3' (lsH h 3).length q3',.slice a6 (lsH h 4).length q6]) (by simp[results,Tryz.results32,go_sem,z0,z1,z2,z3,z4,z5,z6,z7,z8,z9]) rfl ⟨_,?_,hbF,hF⟩
   unfold hpA
   simp[e0,e1,e2,e3]
end Vm
end
section
namespace Vm
open Go Go.Proofs Go.RowKit
set_option maxHeartbeats 2000000
set_option maxRecDepth 100000
theorem Ri(z:Value)(n:Nat):(Builtin.zeroCells #[z] n).toList=List.replicate n z:=by
 simp[Builtin.zeroCells]
 apply List.ext_getElem
 ·simp
 ·intro i h1 h2
  simp[Nat.mod_one]
theorem JE{P:Program}{w:World}{T tI ty e:TypeId}{i:TypeInfo}{z:Value}{kn:IntKind}(ht:P.underlying T=some (.slice e))(hI:P.underlying tI=some (.int kn))(hi:P.info? e=some i)(hz:i.zero=some z)
  (hzc:z.cells= #[z]) (h1:z.oneCell'=true) (hs:i.size=1) (hb:i.bytes=8) {B n m:Nat} {v:Value} {xs:List Value} (hown:w.ownsRow B e 1 v n xs) (hB:B≤w.heap.size) (hm:0<m) (hlim:n+m≤4294967296) (kq:IntKind):
  ∃v' w',(Builtin.append_ #[T,tI] ty #[v,.int kq m]).run P w= .ok v' w'∧w'.ownsRow B e 1 v' (n+m) (xs++List.replicate m z)∧w.grownBy w' v.ownBlock∧
   (v'.ownBlock=v.ownBlock∨(w.grownBy w' none∧w'.ownsRow w.heap.size e 1 v' (n+m) (xs++List.replicate m z))):=by
 have hl1:xs.length=n:=by have:=hown.1;simpa using this
 have hlen:(xs++List.replicate m z).length=n+m:=by simp[hl1]
 have h63:n+m≤maxLen:=by simp only[maxLen];omega
 have grown: ∀(old:Nat),old<n+m→ ∀(row:Option Nat) (cs:Array Value),cs=xs.toArray++(List.replicate m z).toArray→
   (w.drew.alloc (.cells (cs++Builtin.zeroCells z.cells (grownCap w (n+m) old e- (n+m))) e)).ownsRow w.heap.size e 1
    (.slice (some ⟨w.heap.size,0,none⟩) (n+m) (grownCap w (n+m) old e)) (n+m) (xs++List.replicate m z)∧
   w.grownBy (w.drew.alloc (.cells (cs++Builtin.zeroCells z.cells (grownCap w (n+m) old e- (n+m))) e)) row:=by
  rintro old ho row cs rfl
  have hge:=grownCap_ge w (n+m) old e
  have hcm:grownCap w (n+m) old e≤maxLen:=grownCap_le_maxLen w (n+m) old e h63
  refine⟨⟨by simpa using hlen,.inr ⟨w.heap.size,_,_,rfl,Nat.le_refl _,heap_alloc_new w.drew _,hge,hcm,?_,?_⟩⟩,⟨rfl,rfl,rfl,by simp,fun k hk _=>Below.heap_alloc w.drew _ k hk⟩⟩
  ·simp only[Array.size_append,List.size_toArray,size_zeroCells,hzc]
   simp[hl1]
   omega
  ·simp only[Array.toList_append,List.append_assoc]
   rw[←List.append_assoc,Nat.mul_one,←hlen]
   exact List.take_left
 have hzz:Builtin.zeroCells z.cells m=(List.replicate m z).toArray:=by
  rw[hzc]
  apply Array.ext'
  rw[Ri]
 rcases hown.2 with ⟨rfl,rfl⟩ | ⟨g,cap,cur,rfl,hbg,hg,hnc,hcm,hcsz,htake⟩
 ·have hx:xs= []:=List.eq_nil_of_length_eq_zero hl1
  subst hx
  have hr:=Lib.run_append_nil_zeros (P:=P) w T tI ty e i z kq kn ht hI hi hz m hm (by omega) (by omega) (by rw[hb];omega)
  have hgr:=grown 0 (by omega)
  simp only[Nat.zero_add,List.nil_append,Array.empty_append]at hgr hr⊢
  rw[hzz]at hr
  obtain⟨g1,g2⟩:=hgr none _ rfl
  exact⟨_,_,hr,VY g1 hB,g2,.inr ⟨g2,g1⟩⟩
 ·by_cases hroom:n+m≤cap
  ·have hfit:n+(List.replicate m z).length≤cur.size:=by simp;omega
   have hst:=run_storeCells_at P g n e (List.replicate m z) 0 cur w hg (by simpa using hfit) (by intro v hv;rw[List.eq_of_mem_replicate hv];exact h1)
   simp only[Nat.add_zero]at hst
   have hw:IntKind.i64.wrap (m:Int)=m:=by rw[IntKind.wrap_i64];omega
   have hneg: ¬((m:Int) <0):=by omega
   have h48i: ¬(281474976710656< (m:Int)*8):=by omega
   have hk:m≠0:=by omega
   have hr:(Builtin.append_ #[T,tI] ty #[.slice (some ⟨g,0,none⟩) n cap,.int kq m]).run P w=
     .ok (.slice (some ⟨g,0,none⟩) (n+m) cap) (w.setRow g (cur.toList.take n++List.replicate m z++cur.toList.drop (n+(List.replicate m z).length)).toArray):=by
    simp[Builtin.append_,run_underlying ht,run_underlying hI,Go.sizeOf,typeInfo,zeroValue,hi,hz,asInt,asIntOf,hw,hneg,hs,hb,h48i,hk,hroom,hzz,Addr.add_lit]
    simp at hst
    rw[hst]
    simp
   refine⟨_,_,hr,⟨by simpa using hlen,.inr ⟨g,cap,_,rfl,hbg,setRow_heap w g cur _ e _ hg,hroom,hcm,?_,?_⟩⟩,⟨rfl,rfl,rfl,by simp,fun k _ hk=>setRow_other w g k _ (fun e=>hk (by simp[Value.ownBlock,e]))⟩,.inl rfl⟩
   ·simp only[List.size_toArray,List.length_append,List.length_take,List.length_drop,Array.length_toList]
    simp at hfit⊢
    omega
   ·rw[Nat.mul_one]at htake⊢
    rw[htake,←hlen]
    exact List.take_left
  ·have holds: ∀j u,xs[j]? =some u→w.cell? ((⟨g,0,none⟩:Addr).add j)=some u:=hown.cells (g:=g) rfl
   have hfo:=run_firstCells_some (P:=P) w.drew i.size n ⟨g,0,none⟩ n cap xs (by rw[hs,Nat.mul_one];exact hl1) (by simpa using holds)
   have hr:=Lib.run_append_grow_zeros (P:=P) w T tI ty e i z kq kn ht hI hi hz (some ⟨g,0,none⟩) n cap xs hfo m hm (by omega) (by omega) (by omega) (by rw[hb];omega) (growslice_fits (by omega) (by rw[hb];omega))
   rw[hzz]at hr
   obtain⟨g1,g2⟩:=grown cap (by omega) none _ rfl
   obtain⟨_,g3⟩:=grown cap (by omega) (Value.ownBlock (.slice (some ⟨g,0,none⟩) n cap)) _ rfl
   exact⟨_,_,hr,VY g1 hB,g3,.inr ⟨g2,g1⟩⟩
end Vm
end
section
namespace Vm
open Go Go.Proofs Go.RowKit
set_option maxHeartbeats 2000000
set_option maxRecDepth 100000
def LE:V→Value
 | .int k n=> .int k n
 | .bool b=> .bool b
 |_=>undef
def Si:V→Bool
 | .int _ _=>true
 | .bool _=>true
 |_=>false
def Qb:V→Value
 | .agg cs=> .agg (cs.map LE).toArray
 |x=>LE x
def Sh:V→Bool
 | .agg cs=>cs.all Si
 |x=>Si x
def Z18:V→Value
 | .tup l=> .tuple (l.map Qb).toArray
 |x=>Qb x
def jm:V→Bool
 | .tup l=>l.all Sh
 |x=>Sh x
variable {w:World} {G:Nat→Prop}
theorem jB{x:V}(h:Si x=true):Rd w G x (LE x):=by
 cases x<;>simp[Si]at h
 ·exact .int _ _
 ·exact .bool _
theorem ja{x:V}(h:Sh x=true):Rd w G x (Qb x):=by
 cases x with
 |agg cs=>
  simp only[Sh,List.all_eq_true]at h
  refine .agg _ _ (by simp) (fun c hc=> ?_) fun i c hc=> ?_
  ·have:=h c hc
   cases c<;>simp[Si]at this<;>rfl
  ·have h1:=jB (w:=w) (G:=G) (h c (List.mem_of_getElem? hc))
   have:((cs.map LE).toArray).getD i undef=LE c:=by
    obtain⟨hi,rfl⟩:=List.getElem?_eq_some_iff.1 hc
    simp[Array.getD,hi]
   rw[this]
   exact h1
 |int k n=>exact .int _ _
 |bool b=>exact .bool _
 |_=>simp[Sh,Si]at h
theorem j4{x:V}{v:Value}(h:Si x=true)(r:Rd w G x v):v=LE x:=by
 cases x<;>simp[Si]at h
 ·cases r;rfl
 ·cases r;rfl
theorem L7{x:V}{v:Value}(h:Sh x=true)(r:Rd w G x v):v=Qb x:=by
 cases x with
 |agg cs=>
  simp only[Sh,List.all_eq_true]at h
  cases r with
  |agg _ vs hl _ hr=>
   simp only[Qb,Value.agg.injEq]
   apply Array.ext
   ·simpa using hl
   ·intro i h1 h2
    have hi:i<cs.length:=by omega
    have hc:cs[i]? =some cs[i]:=List.getElem?_eq_getElem hi
    have:=j4 (h _ (List.getElem_mem hi)) (hr i _ hc)
    simp[Array.getD,h1]at this
    simpa using this
 |int k n=>cases r;rfl
 |bool b=>cases r;rfl
 |_=>simp[Sh,Si]at h
theorem KE{x:V}{v:Value}(h:jm x=true)(r:Rd w G x v):v=Z18 x:=by
 cases x with
 |tup cs=>
  simp only[jm,List.all_eq_true]at h
  cases r with
  |tup _ vs hl hr=>
   simp only[Z18,Value.tuple.injEq]
   apply Array.ext
   ·simpa using hl
   ·intro i h1 h2
    have hi:i<cs.length:=by omega
    have hc:cs[i]? =some cs[i]:=List.getElem?_eq_getElem hi
    have:=L7 (h _ (List.getElem_mem hi)) (hr i _ hc)
    simp[Array.getD,h1]at this
    simpa using this
 |agg cs=>exact L7 (x:= .agg cs) h r
 |int k n=>cases r;rfl
 |bool b=>cases r;rfl
 |_=>simp[jm,Sh,Si]at h
theorem Yg{P:Program}{f:FuncId}{fr:Bool}{args:List V}{r:V}(h:VC P f fr args r)(ha:args.all Sh=true)(hr:jm r=true)(w:World):
  Calls P f (args.map Qb).toArray w fun e w'=>e= .returned (Z18 r)∧Below w.heap.size w w':=by
 simp only[List.all_eq_true]at ha
 refine Calls.mono (h.2 w (fun _=>False) _ (by simp) (by simp) ?_) ?_
 ·intro i x hx
  obtain⟨hi,rfl⟩:=List.getElem?_eq_some_iff.1 hx
  have:((args.map Qb).toArray).getD i undef=Qb args[i]:=by simp[Array.getD,hi]
  rw[this]
  exact ja (ha _ (List.getElem_mem hi))
 ·rintro e w' ⟨v,rfl,hb,hv⟩
  exact⟨by rw[KE hr hv],hb⟩
def lyA(l:Ly):Value:= .agg #[.int .u64 l.base,.int .i64 l.cap,.int .i64 l.to,.int .i64 l.low,.int .i64 l.high,.int .i64 l.old,.int .i64 l.far]
theorem Ya{l:Ly}(hl:l.fits)(w:World):Calls Tryz.prog 58 #[lyA l] w fun e w'=>e= .returned (.bool (Z7 l))∧Below w.heap.size w w':=
 Yg (WL hl) rfl rfl w
theorem S2{l:Ly}(hl:l.fits)(w:World):Calls Tryz.prog 73 #[lyA l] w fun e w'=>e= .returned (.int .i64 (Ye l))∧Below w.heap.size w w':=
 Yg (jz hl) rfl rfl w
theorem JF{l:Ly}(hl:l.fits)(part at_:Int)(w:World):Calls Tryz.prog 61 #[lyA l,.agg #[.int .i64 part,.int .i64 at_]] w fun e w'=>e= .returned (.tuple #[.int .u64 (Zy l part at_).1,.int .i64 (Zy l part at_).2])∧Below w.heap.size w w':=
 Yg (KF hl) rfl rfl w
theorem Wi{l:Ly}(hl:l.fits){a:Int}(ha:U64 a)(w:World):Calls Tryz.prog 60 #[lyA l,.int .u64 a] w fun e w'=>e= .returned (.tuple #[.agg #[.int .i64 (Zu l a).1,.int .i64 (Zu l a).2.1],.int .i64 (Zu l a).2.2])∧Below w.heap.size w w':=
 Yg (jP hl ha) rfl rfl w
theorem ZV{x:Int}(hx:U64 x)(w:World):Calls Tryz.prog 59 #[.int .u64 x] w fun e w'=>e= .returned (.tuple #[.int .u64 (adr x).1,.int .i64 (adr x).2])∧Below w.heap.size w w':=
 Yg (Ks hx) rfl rfl w
theorem JI{x:Int}(hx:U64 x)(w:World):Calls Tryz.prog 62 #[.int .u64 x] w fun e w'=>e= .returned (.tuple #[.int .u64 (Xm x).1,.int .i64 (Xm x).2])∧Below w.heap.size w w':=
 Yg (jR hx) rfl rfl w
theorem X5{x:Int}(hx:U64 x)(w:World):Calls Tryz.prog 72 #[.int .u64 x] w fun e w'=>e= .returned (.tuple #[.agg #[.int .i64 (unpk x).1,.int .i64 (unpk x).2.1],.int .i64 (unpk x).2.2])∧Below w.heap.size w w':=
 Yg (zI hx) rfl rfl w
theorem ZZ{h:Hp}{x:Nat→Value}(hG: ∀b,G b→b<w.heap.size)(hr: ∀j,j<5→Rd w G (.sl ((lsH h j).map vu)) (x j)):
  Calls Tryz.prog 33 #[hpA h x] w fun e w'=>e= .returned (lyA (layH h))∧Below w.heap.size w w':=by
 refine Calls.mono ((J0 (h:=h)).2 w G _ hG rfl ?_) ?_
 ·intro i y hy
  match i,hy with
  |0,hy=>
   cases hy
   refine .agg _ _ rfl (by simp[V.one]) ?_
   intro i y hy
   match i,hy with
   |0,hy=>cases hy;exact .int _ _
   |1,hy=>cases hy;exact .int _ _
   |2,hy=>cases hy;exact .int _ _
   |3,hy=>cases hy;exact .bool _
   |4,hy=>cases hy;exact .int _ _
   |5,hy=>cases hy;exact hr 0 (by omega)
   |6,hy=>cases hy;exact hr 1 (by omega)
   |7,hy=>cases hy;exact hr 2 (by omega)
   |8,hy=>cases hy;exact hr 3 (by omega)
   |9,hy=>cases hy;exact hr 4 (by omega)
 ·rintro e w' ⟨v,rfl,hb,hv⟩
  exact⟨by rw[KE (by rfl) hv];rfl,hb⟩
end Vm
end
section
namespace Vm
open Go Go.Proofs Go.RowKit
set_option maxHeartbeats 1000000
set_option maxRecDepth 100000
theorem zh{x:Int}(hx:U64 x):VC Tryz.prog 121 false [vu x] (.bool (Va x)):=by
 refine Z3 Tryz.func121 follows (by kernel_rfl) c121 rfl ?_
 simp[p121]
 refine Z0 (Ks hx) (by simp) ?_
 by_cases h:x=0<;>simp[Va,h]
theorem VO{x:Int}(hx:U64 x)(w:World):Calls Tryz.prog 121 #[.int .u64 x] w fun e w'=>e= .returned (.bool (Va x))∧Below w.heap.size w w':=
 Yg (zh hx) rfl rfl w
structure Words (w:World) (ws:List Int) (g o cap:Nat):Prop where
 at_: ∀(i:Nat) (x:Int),ws[i]? =some x→w.cell? ⟨g,o+i,none⟩=some (.int .u64 x)
 le:ws.length≤cap
 cap:cap≤maxLen
 len:ws.length≤1000000
 u64: ∀x∈ws,U64 x
def YY(e:Int):List PanicEntry:= [{v:= .iface 187 (.agg #[.int .i64 e]),recovered:=false}]
def obA(o:Ob):Value:= .agg #[.int .i64 o.at_,.int .i64 o.size,.int .i64 o.ptrs,.bool o.gone,.int .u64 o.target]
def ju(ws:List Int)(o:Ob):Ending:=
 if(ws.length:Int) <o.at_+1+o.size then .panicked (YY 2)else if Zt ((ws.drop (o.at_.toNat+1)).take o.size.toNat) o.gone o.ptrs 0=false then .panicked (YY 3)else .returned (.tuple #[])
theorem y5(w:World)(ws:List Int)(g o cap:Nat)(hw:Words w ws g o cap)(hg:g<w.heap.size)(ob:Ob)(a:Nat)(ha:ob.at_=a)(hlt:a<ws.length)(hsh:Zf ob.size ob.ptrs=true):
  Calls Tryz.prog 120 #[.slice (some ⟨g,o,none⟩) ws.length cap,obA ob] w fun e w'=>e=ju ws ob∧Below w.heap.size w w':=by
 have hl:=hw.len
 have hc:=hw.le
 have hm:=hw.cap
 obtain⟨at_,size,ptrs,gone,target⟩:=ob
 simp only at ha hsh
 subst ha
 obtain⟨s1,s2,s3,s4⟩:=Z2.1 hsh
 obtain⟨m,rfl⟩:=Int.eq_ofNat_of_zero_le s1
 have HW:=Lib.hid hw
 have he:ju ws ⟨a,m,ptrs,gone,target⟩=if(ws.length:Int) <a+1+m then .panicked (YY 2)else if Zt ((ws.drop (a+1)).take m) gone ptrs 0=false then .panicked (YY 3)else .returned (.tuple #[]):=rfl
 generalize ju ws ⟨a,m,ptrs,gone,target⟩=E at*
 unfold obA
 dsimp only
 by_cases hfit:(ws.length:Int) <a+1+m
 ·rw[if_pos hfit]at he
  have HE:=Lib.hid he
  clear he
  have hlt2:((ws.length- (a+1):Nat):Int) <m:=by omega
  go_enter Tryz.func120,Tryz.ntmps120
  go_wp2
  all_goals exact⟨rfl,HE.out.symm,(Below.refl _ _).alloc (Nat.le_refl _) _⟩
 ·rw[if_neg hfit]at he
  have HE:=Lib.hid he
  clear he
  have hge2:(m:Int)≤((ws.length- (a+1):Nat):Int):=by omega
  have hge3:m≤ws.length- (a+1):=by omega
  have hnlt:(ws.length- (a+1) <m)=False:=eq_false (by omega)
  have hcm:m≤cap- (a+1):=by omega
  have hm5:m≤255:=by omega
  clear hw hfit
  by_cases hcap:cap=a+1
  ·have hm0:m=0:=by omega
   subst hm0
   subst hcap
   go_enter Tryz.func120,Tryz.ntmps120
   go_wp2
   go_loopw [26] (fun i wr=>i= .int .i64 0∧Hid (Below w.heap.size w wr)) (fun i _=>0)
   case atStart=>exact⟨rfl,Lib.hid ((Below.refl _ _).alloc (Nat.le_refl _) _)⟩
   case round=>
    obtain⟨rfl,HB⟩:=hrel
    go_wp2
    go_end0
    exact⟨HE.out.symm,HB.out⟩
  ·go_enter Tryz.func120,Tryz.ntmps120
   go_wp2
   go_loopw [26] (fun i wr=> ∃k:Nat,i= .int .i64 k∧k≤m∧Hid (Below w.heap.size w wr∧wr.heap[w.heap.size]? =some (.cells #[.int .i64 a,.int .i64 m,.int .i64 ptrs,.bool gone,.int .u64 target] 78 (0,0))∧
     Zt ((ws.drop (a+1)).take m) gone ptrs 0=Zt (((ws.drop (a+1)).take m).drop k) gone ptrs k)) (fun i _=>m- (intOf i).toNat)
   case atStart=>exact⟨0,rfl,by omega,Lib.hid ⟨(Below.refl _ _).alloc (Nat.le_refl _) _,heap_alloc_new w _,rfl⟩⟩
   case round=>
    obtain⟨k,rfl,hk,HI⟩:=hrel
    by_cases hlt:k<m
    ·obtain⟨x,hx⟩: ∃x,ws[a+1+k]? =some x:=⟨_,List.getElem?_eq_getElem (by omega)⟩
     have hu:U64 x:=HW.out.u64 x (List.mem_of_getElem? hx)
     have hT:((ws.drop (a+1)).take m)[k]? =some x:=by
      rw[List.getElem?_take,if_pos hlt,List.getElem?_drop];exact hx
     have c0:wr.cell? ⟨g,o+(a+1)+k,none⟩=some (.int .u64 x):=by
      rw[Nat.add_assoc]
      exact(HI.out.1.cell (p:=⟨g,o+(a+1+k),none⟩) hg).trans (HW.out.at_ _ _ hx)
     have c1:wr.cell? ⟨w.heap.size,1,none⟩=some (.int .i64 m):=by rw[cell_of_row _ _ _ _ _ _ HI.out.2.1];rfl
     have c2:wr.cell? ⟨w.heap.size,2,none⟩=some (.int .i64 ptrs):=by rw[cell_of_row _ _ _ _ _ _ HI.out.2.1];rfl
     have c3:wr.cell? ⟨w.heap.size,3,none⟩=some (.bool gone):=by rw[cell_of_row _ _ _ _ _ _ HI.out.2.1];rfl
     have hs:=UE (gone:=gone) (ptrs:=ptrs) hT
     have hlt':(k:Int) <m:=by omega
     have hbs:=Zj HI.out.2.1
     clear hx hT
     have stop:Zt (((ws.drop (a+1)).take m).drop k) gone ptrs k=false→E= .panicked (YY 3):=fun h=>by
      rw[HE.out,HI.out.2.2,h,if_pos rfl]
     cases gone
     ·by_cases hp:(k:Int) <ptrs
      ·cases hip:Va x
       ·have HE2:=Lib.hid (stop (by rw[hs];simp[hip,hp]))
        clear stop hs
        go_wp2_with (go_at_call 121;refine(VO hu _).mono ?_;rintro e w1 ⟨rfl,hb1⟩;have HB1:=Lib.hid hb1;clear hb1)
        exact⟨rfl,HE2.out.symm,HI.out.1.trans (HB1.out.mono HI.out.1.size)⟩
       ·have HS:=Lib.hid (hs.trans (by simp[hip]:_=Zt (((ws.drop (a+1)).take m).drop (k+1)) false ptrs (k+1)))
        clear stop hs
        go_wp2_with (go_at_call 121;refine(VO hu _).mono ?_;rintro e w1 ⟨rfl,hb1⟩;have HB1:=Lib.hid hb1;clear hb1)
        go_wp2
        go_roundw
        case rel=>
         exact⟨k+1,by go_num,by omega,Lib.hid ⟨HI.out.1.trans (HB1.out.mono HI.out.1.size),(HB1.out.block _ hbs).trans HI.out.2.1,HI.out.2.2.trans HS.out⟩⟩
        case measure=>simp[intOf];omega
      ·have HS:=Lib.hid (hs.trans (by simp[hp]:_=Zt (((ws.drop (a+1)).take m).drop (k+1)) false ptrs (k+1)))
       clear stop hs
       go_wp2
       go_roundw
       case rel=>exact⟨k+1,by go_num,by omega,Lib.hid ⟨HI.out.1,HI.out.2.1,HI.out.2.2.trans HS.out⟩⟩
       case measure=>simp[intOf];omega
     ·by_cases h0:x=0
      ·subst h0
       have HS:=Lib.hid (hs.trans (by simp[Va]:_=Zt (((ws.drop (a+1)).take m).drop (k+1)) true ptrs (k+1)))
       clear stop hs
       go_wp2
       go_roundw
       case rel=>exact⟨k+1,by go_num,by omega,Lib.hid ⟨HI.out.1,HI.out.2.1,HI.out.2.2.trans HS.out⟩⟩
       case measure=>simp[intOf];omega
      ·have HE2:=Lib.hid (stop (by rw[hs];simp[h0]))
       clear stop hs
       go_wp2
       exact⟨rfl,HE2.out.symm,HI.out.1⟩
    ·have:k=m:=by omega
     subst this
     have h3:=HI.out.2.2
     have hd:((ws.drop (a+1)).take k).drop k= []:=List.drop_of_length_le (by rw[List.length_take];omega)
     rw[hd]at h3
     have HE2:=Lib.hid (HE.out.trans (by rw[h3];rfl:_=Ending.returned (.tuple #[])))
     clear h3 hd
     go_wp2
     go_end0
     exact⟨HE2.out.symm,HI.out.1⟩
end Vm
namespace Vm
open Go Go.Proofs Go.RowKit
set_option maxHeartbeats 1000000
set_option maxRecDepth 100000
theorem Z0U(w:World):Sem.run Tryz.prog (binOp .neq 188 .nilFunc .nilFunc) w= .ok (.bool false) w:=by rfl
theorem yB(w:World)(f:FuncId)(vs:Array Value):Sem.run Tryz.prog (binOp .neq 188 (.func (.func f) #[] vs) .nilFunc) w= .ok (.bool true) w:=by rfl
theorem row5{w:World}{b:Nat}{T:TypeId}{v0 v1 v2 v3 v4:Value}(h:w.heap[b]? =some (.cells #[v0,v1,v2,v3,v4] T (0,0))) (O:Obj):
  ((w.alloc O).cell? ⟨b,0,none⟩=some v0∧(w.alloc O).cell? ⟨b,1,none⟩=some v1∧(w.alloc O).cell? ⟨b,2,none⟩=some v2∧(w.alloc O).cell? ⟨b,3,none⟩=some v3∧(w.alloc O).cell? ⟨b,4,none⟩=some v4)∧
  (w.alloc O).frozen? ⟨b,0,none⟩=false∧(w.alloc O).frozen? ⟨b,1,none⟩=false∧(w.alloc O).frozen? ⟨b,2,none⟩=false∧(w.alloc O).frozen? ⟨b,3,none⟩=false∧(w.alloc O).frozen? ⟨b,4,none⟩=false:=by
 have h':(w.alloc O).heap[b]? =some (.cells #[v0,v1,v2,v3,v4] T (0,0)):=(Below.heap_alloc _ _ _ (Zj h)).trans h
 refine⟨⟨?_,?_,?_,?_,?_⟩,Zl h',Zl h',Zl h',Zl h',Zl h'⟩<;>(rw[cell_of_row _ _ _ _ _ _ h'];rfl)
def begE(a:Nat)(x:Int):Ending:=if(unpk x).2.2=0 then .returned (obA ⟨a,(unpk x).1,(unpk x).2.1,false,0⟩)else .panicked (YY 3)
theorem zJ(w:World)(ws:List Int)(g o cap:Nat)(hw:Words w ws g o cap)(hg:g<w.heap.size)(a:Nat)(x:Int)(hx:ws[a]? =some x):
  Calls Tryz.prog 119 #[.slice (some ⟨g,o,none⟩) ws.length cap,.int .i64 a,.nilFunc] w fun e w'=>e=begE a x∧Below w.heap.size w w':=by
 have hl:=hw.len
 have hc:=hw.le
 have hm:=hw.cap
 have hlt:a<ws.length:=(List.getElem?_eq_some_iff.1 hx).1
 have hlt':(a:Int) <ws.length:=by omega
 have hu:U64 x:=hw.u64 x (List.mem_of_getElem? hx)
 have c0:=hw.at_ a x hx
 have cc: ∀W,Below w.heap.size w W→W.cell? ⟨g,o+a,none⟩=some (.int .u64 x):=fun W hb=>(hb.cell (p:=⟨g,o+a,none⟩) hg).trans c0
 have he:begE a x=if(unpk x).2.2=0 then .returned (obA ⟨a,(unpk x).1,(unpk x).2.1,false,0⟩)else .panicked (YY 3):=rfl
 generalize begE a x=E at*
 have HC:=Lib.hid cc
 have hnil:=Z0U
 clear hw hx cc
 by_cases h0:(unpk x).2.2=0
 ·rw[if_pos h0]at he
  have HE:=Lib.hid he
  clear he
  go_enter Tryz.func119,Tryz.ntmps119
  go_wp2_with (first
   | (go_at_call 59;refine(ZV hu _).mono ?_;rintro e w1 ⟨rfl,hb1⟩;have HB1:=Lib.hid hb1;have d0:=HC.out w1 (((((Below.refl _ w).alloc (Nat.le_refl _) _).alloc (by simp) _).trans (hb1.mono (by simp;omega))));clear hb1)
   | (go_at_call 72;refine(X5 hu _).mono ?_;rintro e w2 ⟨rfl,hb2⟩;have HB2:=Lib.hid hb2
      have hB:=HB1.out.block
      have r0:w2.heap[w.heap.size]? =some (.cells #[.int .i64 0,.int .i64 0,.int .i64 0,.bool false,.int .u64 0] 78 (0,0)):=(hb2.block _ (by have:=HB1.out.size;simp at this;omega)).trans ((HB1.out.block _ (by simp;omega)).trans ((Below.heap_alloc _ _ _ (by simp)).trans (heap_alloc_new w _)))
      have r1:w2.heap[w.heap.size+1]? =some (.cells #[.int .i64 a,.int .i64 0,.int .i64 0,.bool false,.int .u64 0] 78 (0,0)):=(hb2.block _ (by have:=HB1.out.size;simp at this;omega)).trans ((HB1.out.block _ (by simp)).trans (by have:=heap_alloc_new (w.alloc (.cells #[.int .i64 0,.int .i64 0,.int .i64 0,.bool false,.int .u64 0] 78)) (.cells #[.int .i64 a,.int .i64 0,.int .i64 0,.bool false,.int .u64 0] 78);simpa using this))
      obtain⟨⟨x0,x1,x2,x3,x4⟩,y0,y1,y2,y3,y4⟩:=row5 r0 (.cells #[.int .i64 (unpk x).1,.int .i64 (unpk x).2.1] 48)
      obtain⟨⟨p0,p1,p2,p3,p4⟩,q0,q1,q2,q3,q4⟩:=row5 r1 (.cells #[.int .i64 (unpk x).1,.int .i64 (unpk x).2.1] 48)
      have HR:=Lib.hid (And.intro r0 r1)
      clear hb2 hB r0 r1))
  refine bodyPost_ret (v:=obA ⟨a,(unpk x).1,(unpk x).2.1,false,0⟩) ?_ rfl ⟨HE.out.symm,?_⟩
  ·simp[results,Tryz.results119,go_sem,obA,x0,x1,x2,x3,x4]
  ·have h1:=(((Below.refl _ w).alloc (Nat.le_refl _) (.cells #[.int .i64 0,.int .i64 0,.int .i64 0,.bool false,.int .u64 0] 78)).alloc (by simp) (.cells #[.int .i64 a,.int .i64 0,.int .i64 0,.bool false,.int .u64 0] 78)).trans (HB1.out.mono (by simp;omega))
   have h2:=(h1.trans (HB2.out.mono (by have:=h1.size;omega))).alloc (by have:=h1.size;have:=HB2.out.size;omega) (.cells #[.int .i64 (unpk x).1,.int .i64 (unpk x).2.1] 48)
   exact((((((h2.setCell (p:=⟨w.heap.size+1,1,none⟩) (by simp) _).setCell (p:=⟨w.heap.size+1,2,none⟩) (by simp) _).setCell (p:=⟨w.heap.size,0,none⟩) (Nat.le_refl _) _).setCell (p:=⟨w.heap.size,1,none⟩) (Nat.le_refl _) _).setCell (p:=⟨w.heap.size,2,none⟩) (Nat.le_refl _) _).setCell (p:=⟨w.heap.size,3,none⟩) (Nat.le_refl _) _).setCell (p:=⟨w.heap.size,4,none⟩) (Nat.le_refl _) _
 ·rw[if_neg h0]at he
  have HE:=Lib.hid he
  clear he
  have h0':((unpk x).2.2=0)=False:=eq_false h0
  go_enter Tryz.func119,Tryz.ntmps119
  go_wp2_with (first
   | (go_at_call 59;refine(ZV hu _).mono ?_;rintro e w1 ⟨rfl,hb1⟩;have HB1:=Lib.hid hb1;have d0:=HC.out w1 (((((Below.refl _ w).alloc (Nat.le_refl _) _).alloc (by simp) _).trans (hb1.mono (by simp;omega))));clear hb1)
   | (go_at_call 72;refine(X5 hu _).mono ?_;rintro e w2 ⟨rfl,hb2⟩;have HB2:=Lib.hid hb2;clear hb2))
  refine⟨rfl,HE.out.symm,?_⟩
  have h1:=(((Below.refl _ w).alloc (Nat.le_refl _) (.cells #[.int .i64 0,.int .i64 0,.int .i64 0,.bool false,.int .u64 0] 78)).alloc (by simp) (.cells #[.int .i64 a,.int .i64 0,.int .i64 0,.bool false,.int .u64 0] 78)).trans (HB1.out.mono (by simp;omega))
  exact(h1.trans (HB2.out.mono (by have:=h1.size;omega))).alloc (by have:=h1.size;have:=HB2.out.size;omega) _
end Vm
namespace Vm
open Go Go.Proofs Go.RowKit
set_option maxHeartbeats 1000000
set_option maxRecDepth 100000
theorem U2(s p:Int)(w:World):Calls Tryz.prog 97 #[.agg #[.int .i64 s,.int .i64 p]] w fun e w'=>e= .returned (.bool (Zf s p))∧Below w.heap.size w w':=
 Yg QW rfl rfl w
structure Shps (w:World) (shs:List (Int×Int)) (bs:Nat) (v:Value):Prop where
 box:w.heap[bs]? =some (.cells #[v] 156 (0,0))
 val:(∃g o cap,v= .slice (some ⟨g,o,none⟩) shs.length cap∧shs.length≤cap∧cap≤maxLen∧g<w.heap.size∧ ∀(i:Nat) (x:Int×Int),shs[i]? =some x→w.cell? ⟨g,o+i*2,none⟩=some (.int .i64 x.1)∧w.cell? ⟨g,o+i*2+1,none⟩=some (.int .i64 x.2))∨
  (∃a cap,v= .slice a 0 cap∧shs= [])
theorem jb(w:World)(shs:List (Int×Int))(bt bs:Nat)(v:Value)(hl:shs.length≤1000000)(hs:Shps w shs bs v)(hb:w.heap[bt]? =some (.cells #[.int .i64 shs.length] 3 (0,0))):
  Calls Tryz.prog 115 #[.pointer (some ⟨bt,0,none⟩),.pointer (some ⟨bs,0,none⟩)] w fun e w'=>e= .panicked (YY 3)∧Below w.heap.size w w':=by
 have c0:w.cell? ⟨bt,0,none⟩=some (.int .i64 shs.length):=by rw[cell_of_row _ _ _ _ _ _ hb];rfl
 have hbl:=Zj hb
 have hbl2:=Zj hs.box
 have c1:w.cell? ⟨bs,0,none⟩=some v:=by rw[cell_of_row _ _ _ _ _ _ hs.box];rfl
 rcases hs.val with ⟨g,o,cap,rfl,h1,h2,h3,h4⟩ | ⟨a,cap,rfl,rfl⟩
 ·clear h4 hs hb
  go_enter Tryz.func115,Tryz.ntmps115
  go_wp2
  exact⟨rfl,rfl,(Below.refl _ _).alloc (Nat.le_refl _) _⟩
 ·clear hs hb
  simp only[List.length_nil]at c0
  go_enter Tryz.func115,Tryz.ntmps115
  go_wp2
  exact⟨rfl,rfl,(Below.refl _ _).alloc (Nat.le_refl _) _⟩
theorem Z05(w:World)(shs:List (Int×Int))(bt bs t:Nat)(v:Value)(x:Int×Int)(hl:shs.length≤1000000)(hs:Shps w shs bs v)(hb:w.heap[bt]? =some (.cells #[.int .i64 t] 3 (0,0))) (hx:shs[t]? =some x) (hn:Zf x.1 x.2=false):
  Calls Tryz.prog 115 #[.pointer (some ⟨bt,0,none⟩),.pointer (some ⟨bs,0,none⟩)] w fun e w'=>e= .panicked (YY 3)∧Below w.heap.size w w':=by
 have c0:w.cell? ⟨bt,0,none⟩=some (.int .i64 t):=by rw[cell_of_row _ _ _ _ _ _ hb];rfl
 have hbl:=Zj hb
 have hbl2:=Zj hs.box
 have hlt:t<shs.length:=(List.getElem?_eq_some_iff.1 hx).1
 have hne: ¬t=shs.length:=by omega
 have hlt':(t:Int) <shs.length:=by omega
 have c1:w.cell? ⟨bs,0,none⟩=some v:=by rw[cell_of_row _ _ _ _ _ _ hs.box];rfl
 rcases hs.val with ⟨g,o,cap,rfl,h1,h2,h3,h4⟩ | ⟨a,cap,rfl,rfl⟩
 ·obtain⟨d0,d1⟩:=h4 t x hx
  have e2:=U2 x.1 x.2
  rw[hn]at e2
  clear h4 hs hb hx hn
  go_enter Tryz.func115,Tryz.ntmps115
  go_wp2_with (go_at_call 97;refine(e2 _).mono ?_;rintro e w1 ⟨rfl,hb1⟩;have HB1:=Lib.hid hb1;clear hb1)
  exact⟨rfl,rfl,((Below.refl _ w).alloc (Nat.le_refl _) _).trans (HB1.out.mono (by simp))⟩
 ·simp at hx
theorem Z1d(w:World)(shs:List (Int×Int))(bt bs t:Nat)(v:Value)(x:Int×Int)(hl:shs.length≤1000000)(hs:Shps w shs bs v)(hb:w.heap[bt]? =some (.cells #[.int .i64 t] 3 (0,0))) (hx:shs[t]? =some x) (hn:Zf x.1 x.2=true) (hbs:bs≠bt)
  (hgb: ∀g o cap,v= .slice (some ⟨g,o,none⟩) shs.length cap→g≠bt):
  Calls Tryz.prog 115 #[.pointer (some ⟨bt,0,none⟩),.pointer (some ⟨bs,0,none⟩)] w fun e w'=>e= .returned (.agg #[.int .i64 x.1,.int .i64 x.2])∧w.grownBy w' (some bt)∧w'.heap[bt]? =some (.cells #[.int .i64 ((t+1:Nat):Int)] 3 (0,0)):=by
 have c0:w.cell? ⟨bt,0,none⟩=some (.int .i64 t):=by rw[cell_of_row _ _ _ _ _ _ hb];rfl
 have hbl:=Zj hb
 have hbl2:=Zj hs.box
 have hlt:t<shs.length:=(List.getElem?_eq_some_iff.1 hx).1
 have hne: ¬t=shs.length:=by omega
 have hlt':(t:Int) <shs.length:=by omega
 have c1:w.cell? ⟨bs,0,none⟩=some v:=by rw[cell_of_row _ _ _ _ _ _ hs.box];rfl
 have hf:=Zl (o:=0) hb
 have hbs': ¬bs=bt:=hbs
 have hbs2: ¬bt=bs:=fun e=>hbs e.symm
 rcases hs.val with ⟨g,o,cap,rfl,h1,h2,h3,h4⟩ | ⟨a,cap,rfl,rfl⟩
 ·obtain⟨d0,d1⟩:=h4 t x hx
  have hg:=hgb g o cap rfl
  have e2:=U2 x.1 x.2
  rw[hn]at e2
  have HB:=Lib.hid hb
  clear h4 hs hb hx hn hgb
  go_enter Tryz.func115,Tryz.ntmps115
  go_wp2_with (go_at_call 97;refine(e2 _).mono ?_;rintro e w1 ⟨rfl,hb1⟩
               have HB1:=Lib.hid hb1
               have s1:=hb1.size
               have k0:w1.cell? ⟨bt,0,none⟩=some (.int .i64 t):=(hb1.cell (p:=⟨bt,0,none⟩) (by simp;omega)).trans ((World.cell?_alloc_lt _ _ _ hbl).trans c0)
               have k1:w1.frozen? ⟨bt,0,none⟩=false:=Zl ((hb1.block bt (by simp;omega)).trans ((Below.heap_alloc _ _ _ hbl).trans HB.out))
               have k2:w1.cell? ⟨bs,0,none⟩=some (.slice (some ⟨g,o,none⟩) shs.length cap):=(hb1.cell (p:=⟨bs,0,none⟩) (by simp;omega)).trans ((World.cell?_alloc_lt _ _ _ hbl2).trans c1)
               have k3:w1.cell? ⟨g,o+t*2,none⟩=some (.int .i64 x.1):=(hb1.cell (p:=⟨g,o+t*2,none⟩) (by simp;omega)).trans ((World.cell?_alloc_lt _ _ _ h3).trans d0)
               have k4:w1.cell? ⟨g,o+t*2+1,none⟩=some (.int .i64 x.2):=(hb1.cell (p:=⟨g,o+t*2+1,none⟩) (by simp;omega)).trans ((World.cell?_alloc_lt _ _ _ h3).trans d1)
               have r0:w1.heap[w.heap.size]? =some (.cells #[.int .i64 0,.int .i64 0] 48 (0,0)):=(hb1.block _ (by simp)).trans (heap_alloc_new w _)
               have x0:w1.cell? ⟨w.heap.size,0,none⟩=some (.int .i64 0):=by rw[cell_of_row _ _ _ _ _ _ r0];rfl
               have x1:w1.cell? ⟨w.heap.size,1,none⟩=some (.int .i64 0):=by rw[cell_of_row _ _ _ _ _ _ r0];rfl
               have y0:=Zl (o:=0) r0
               have y1:=Zl (o:=1) r0
               have n1: ¬w.heap.size=bt:=by omega
               have n2: ¬bt=w.heap.size:=by omega
               have HR:=Lib.hid r0
               clear hb1 r0)
  have hB:Below w.heap.size w w1:=((Below.refl _ w).alloc (Nat.le_refl _) (.cells #[.int .i64 0,.int .i64 0] 48)).trans (HB1.out.mono (by simp))
  have hw1:w1.heap[bt]? =some (.cells #[.int .i64 t] 3 (0,0)):=(hB.block bt hbl).trans HB.out
  refine bodyPost_ret (v:= .agg #[.int .i64 x.1,.int .i64 x.2]) ?_ rfl ⟨rfl,⟨hB.os,hB.tape,hB.output,?_,fun k hk hne=> ?_⟩,?_⟩
  ·simp[results,Tryz.results115,go_sem,x0,x1,n1,n2]
  ·simp[World.setCell];exact hB.size
  ·have hkb:k≠bt:=fun e=>hne (by rw[e])
   rw[Below.heap_setCell _ _ _ _ (by show k≠w.heap.size;omega),Below.heap_setCell _ _ _ _ (by show k≠w.heap.size;omega),Below.heap_setCell _ _ _ _ hkb]
   exact hB.block k hk
  ·rw[Below.heap_setCell _ _ _ _ (by show bt≠w.heap.size;omega),Below.heap_setCell _ _ _ _ (by show bt≠w.heap.size;omega)]
   simp[World.setCell,Array.getElem?_modify,hw1]
 ·simp at hx
end Vm
namespace Vm
open Go Go.Proofs Go.RowKit
set_option maxHeartbeats 1000000
set_option maxRecDepth 100000
theorem Ro(w:World)(f:FuncId)(vs:Array Value)(ws:List Int)(g o cap:Nat)(hw:Words w ws g o cap)(hg:g<w.heap.size)(a:Nat)(x:Int)(hx:ws[a]? =some x)(hna: ¬(adr x).2=0):
  Calls Tryz.prog 119 #[.slice (some ⟨g,o,none⟩) ws.length cap,.int .i64 a,.func (.func f) #[] vs] w fun e w'=>e=begE a x∧Below w.heap.size w w':=by
 have hl:=hw.len
 have hc:=hw.le
 have hm:=hw.cap
 have hlt:a<ws.length:=(List.getElem?_eq_some_iff.1 hx).1
 have hlt':(a:Int) <ws.length:=by omega
 have hu:U64 x:=hw.u64 x (List.mem_of_getElem? hx)
 have c0:=hw.at_ a x hx
 have cc: ∀W,Below w.heap.size w W→W.cell? ⟨g,o+a,none⟩=some (.int .u64 x):=fun W hb=>(hb.cell (p:=⟨g,o+a,none⟩) hg).trans c0
 have he:begE a x=if(unpk x).2.2=0 then .returned (obA ⟨a,(unpk x).1,(unpk x).2.1,false,0⟩)else .panicked (YY 3):=rfl
 generalize begE a x=E at*
 have HC:=Lib.hid cc
 have hfn:=fun W=>yB W f vs
 have hna':((adr x).2=0)=False:=eq_false hna
 clear hw hx cc
 by_cases h0:(unpk x).2.2=0
 ·rw[if_pos h0]at he
  have HE:=Lib.hid he
  clear he
  go_enter Tryz.func119,Tryz.ntmps119
  go_wp2_with (first
   | (go_at_call 59;refine(ZV hu _).mono ?_;rintro e w1 ⟨rfl,hb1⟩;have HB1:=Lib.hid hb1;have d0:=HC.out w1 (((((Below.refl _ w).alloc (Nat.le_refl _) _).alloc (by simp) _).trans (hb1.mono (by simp;omega))));clear hb1)
   | (go_at_call 72;refine(X5 hu _).mono ?_;rintro e w2 ⟨rfl,hb2⟩;have HB2:=Lib.hid hb2
      have hB:=HB1.out.block
      have r0:w2.heap[w.heap.size]? =some (.cells #[.int .i64 0,.int .i64 0,.int .i64 0,.bool false,.int .u64 0] 78 (0,0)):=(hb2.block _ (by have:=HB1.out.size;simp at this;omega)).trans ((HB1.out.block _ (by simp;omega)).trans ((Below.heap_alloc _ _ _ (by simp)).trans (heap_alloc_new w _)))
      have r1:w2.heap[w.heap.size+1]? =some (.cells #[.int .i64 a,.int .i64 0,.int .i64 0,.bool false,.int .u64 0] 78 (0,0)):=(hb2.block _ (by have:=HB1.out.size;simp at this;omega)).trans ((HB1.out.block _ (by simp)).trans (by have:=heap_alloc_new (w.alloc (.cells #[.int .i64 0,.int .i64 0,.int .i64 0,.bool false,.int .u64 0] 78)) (.cells #[.int .i64 a,.int .i64 0,.int .i64 0,.bool false,.int .u64 0] 78);simpa using this))
      obtain⟨⟨x0,x1,x2,x3,x4⟩,y0,y1,y2,y3,y4⟩:=row5 r0 (.cells #[.int .i64 (unpk x).1,.int .i64 (unpk x).2.1] 48)
      obtain⟨⟨p0,p1,p2,p3,p4⟩,q0,q1,q2,q3,q4⟩:=row5 r1 (.cells #[.int .i64 (unpk x).1,.int .i64 (unpk x).2.1] 48)
      have HR:=Lib.hid (And.intro r0 r1)
      clear hb2 hB r0 r1))
  refine bodyPost_ret (v:=obA ⟨a,(unpk x).1,(unpk x).2.1,false,0⟩) ?_ rfl ⟨HE.out.symm,?_⟩
  ·simp[results,Tryz.results119,go_sem,obA,x0,x1,x2,x3,x4]
  ·have h1:=(((Below.refl _ w).alloc (Nat.le_refl _) (.cells #[.int .i64 0,.int .i64 0,.int .i64 0,.bool false,.int .u64 0] 78)).alloc (by simp) (.cells #[.int .i64 a,.int .i64 0,.int .i64 0,.bool false,.int .u64 0] 78)).trans (HB1.out.mono (by simp;omega))
   have h2:=(h1.trans (HB2.out.mono (by have:=h1.size;omega))).alloc (by have:=h1.size;have:=HB2.out.size;omega) (.cells #[.int .i64 (unpk x).1,.int .i64 (unpk x).2.1] 48)
   exact((((((h2.setCell (p:=⟨w.heap.size+1,1,none⟩) (by simp) _).setCell (p:=⟨w.heap.size+1,2,none⟩) (by simp) _).setCell (p:=⟨w.heap.size,0,none⟩) (Nat.le_refl _) _).setCell (p:=⟨w.heap.size,1,none⟩) (Nat.le_refl _) _).setCell (p:=⟨w.heap.size,2,none⟩) (Nat.le_refl _) _).setCell (p:=⟨w.heap.size,3,none⟩) (Nat.le_refl _) _).setCell (p:=⟨w.heap.size,4,none⟩) (Nat.le_refl _) _
 ·rw[if_neg h0]at he
  have HE:=Lib.hid he
  clear he
  have h0':((unpk x).2.2=0)=False:=eq_false h0
  go_enter Tryz.func119,Tryz.ntmps119
  go_wp2_with (first
   | (go_at_call 59;refine(ZV hu _).mono ?_;rintro e w1 ⟨rfl,hb1⟩;have HB1:=Lib.hid hb1;have d0:=HC.out w1 (((((Below.refl _ w).alloc (Nat.le_refl _) _).alloc (by simp) _).trans (hb1.mono (by simp;omega))));clear hb1)
   | (go_at_call 72;refine(X5 hu _).mono ?_;rintro e w2 ⟨rfl,hb2⟩;have HB2:=Lib.hid hb2;clear hb2))
  refine⟨rfl,HE.out.symm,?_⟩
  have h1:=(((Below.refl _ w).alloc (Nat.le_refl _) (.cells #[.int .i64 0,.int .i64 0,.int .i64 0,.bool false,.int .u64 0] 78)).alloc (by simp) (.cells #[.int .i64 a,.int .i64 0,.int .i64 0,.bool false,.int .u64 0] 78)).trans (HB1.out.mono (by simp;omega))
  exact(h1.trans (HB2.out.mono (by have:=h1.size;omega))).alloc (by have:=h1.size;have:=HB2.out.size;omega) _
theorem Vc(w:World)(vs:Array Value)(ws:List Int)(g o cap:Nat)(hw:Words w ws g o cap)(hg:g<w.heap.size)(a:Nat)(x:Int)(hx:ws[a]? =some x)(hna:(adr x).2=0)
  (hcall: ∀W,Below w.heap.size w W→Calls Tryz.prog 115 vs W fun e W'=>e= .panicked (YY 3)∧Below W.heap.size W W'):
  Calls Tryz.prog 119 #[.slice (some ⟨g,o,none⟩) ws.length cap,.int .i64 a,.func (.func 115) #[] vs] w fun e w'=>e= .panicked (YY 3)∧Below w.heap.size w w':=by
 have hl:=hw.len
 have hc:=hw.le
 have hm:=hw.cap
 have hlt:a<ws.length:=(List.getElem?_eq_some_iff.1 hx).1
 have hlt':(a:Int) <ws.length:=by omega
 have hu:U64 x:=hw.u64 x (List.mem_of_getElem? hx)
 have c0:=hw.at_ a x hx
 have hfn:=fun W=>yB W 115 vs
 have HX:=Lib.hid hcall
 clear hw hx hcall
 go_enter Tryz.func119,Tryz.ntmps119
 go_wp2_with (first
  | (go_at_call 59;refine(ZV hu _).mono ?_;rintro e w1 ⟨rfl,hb1⟩
     have hB:Below w.heap.size w w1:=((((Below.refl _ w).alloc (Nat.le_refl _) _).alloc (by simp) _).trans (hb1.mono (by simp;omega)))
     have r1:w1.heap[w.heap.size+1]? =some (.cells #[.int .i64 a,.int .i64 0,.int .i64 0,.bool false,.int .u64 0] 78 (0,0)):=(hb1.block _ (by simp)).trans (by have:=heap_alloc_new (w.alloc (.cells #[.int .i64 0,.int .i64 0,.int .i64 0,.bool false,.int .u64 0] 78)) (.cells #[.int .i64 a,.int .i64 0,.int .i64 0,.bool false,.int .u64 0] 78);simpa using this)
     have p3:w1.cell? ⟨w.heap.size+1,3,none⟩=some (.bool false):=by rw[cell_of_row _ _ _ _ _ _ r1];rfl
     have p4:w1.cell? ⟨w.heap.size+1,4,none⟩=some (.int .u64 0):=by rw[cell_of_row _ _ _ _ _ _ r1];rfl
     have q3:=Zl (o:=3) r1
     have q4:=Zl (o:=4) r1
     have HB:=Lib.hid hB
     clear hb1 hB r1)
  | (go_at_call 115;refine(HX.out _ ?_).mono ?_;rotate_left;rintro e w2 ⟨rfl,hb2⟩;have HB2:=Lib.hid hb2;clear hb2))
 case refine_1=>exact(HB.out.setCell (p:=⟨w.heap.size+1,3,none⟩) (by simp) _).setCell (p:=⟨w.heap.size+1,4,none⟩) (by simp) _
 case refine_2=>
  have h2:=(HB.out.setCell (p:=⟨w.heap.size+1,3,none⟩) (by simp) (.bool true)).setCell (p:=⟨w.heap.size+1,4,none⟩) (by simp) (.int .u64 (adr x).1)
  exact⟨rfl,rfl,h2.trans (HB2.out.mono h2.size)⟩
theorem Xg{w W:World}{r:Option Nat}(h:w.grownBy W r){p:Addr}(hp:w.heap.size≤p.block)(u:Value):w.grownBy (W.setCell p u) r:=
 ⟨h.os,h.tape,h.output,by simpa[World.setCell]using h.size,fun k hk hne=>(Below.heap_setCell _ _ _ _ (by omega)).trans (h.block k hk hne)⟩
theorem RJ(w:World)(vs:Array Value)(ws:List Int)(g o cap:Nat)(hw:Words w ws g o cap)(hg:g<w.heap.size)(a:Nat)(x:Int)(hx:ws[a]? =some x)(hna:(adr x).2=0)
  (bt:Nat) (O:Obj) (s p:Int) (hbt:bt<w.heap.size)
  (hcall: ∀W,Below w.heap.size w W→Calls Tryz.prog 115 vs W fun e W'=>e= .returned (.agg #[.int .i64 s,.int .i64 p])∧W.grownBy W' (some bt)∧W'.heap[bt]? =some O):
  Calls Tryz.prog 119 #[.slice (some ⟨g,o,none⟩) ws.length cap,.int .i64 a,.func (.func 115) #[] vs] w fun e w'=>e= .returned (obA ⟨a,s,p,true,(adr x).1⟩)∧w.grownBy w' (some bt)∧w'.heap[bt]? =some O:=by
 have hl:=hw.len
 have hc:=hw.le
 have hm:=hw.cap
 have hlt:a<ws.length:=(List.getElem?_eq_some_iff.1 hx).1
 have hlt':(a:Int) <ws.length:=by omega
 have hu:U64 x:=hw.u64 x (List.mem_of_getElem? hx)
 have c0:=hw.at_ a x hx
 have hfn:=fun W=>yB W 115 vs
 have HX:=Lib.hid hcall
 clear hw hx hcall
 go_enter Tryz.func119,Tryz.ntmps119
 go_wp2_with (first
  | (go_at_call 59;refine(ZV hu _).mono ?_;rintro e w1 ⟨rfl,hb1⟩
     have hB:Below w.heap.size w w1:=((((Below.refl _ w).alloc (Nat.le_refl _) _).alloc (by simp) _).trans (hb1.mono (by simp;omega)))
     have r1:w1.heap[w.heap.size+1]? =some (.cells #[.int .i64 a,.int .i64 0,.int .i64 0,.bool false,.int .u64 0] 78 (0,0)):=(hb1.block _ (by simp)).trans (by have:=heap_alloc_new (w.alloc (.cells #[.int .i64 0,.int .i64 0,.int .i64 0,.bool false,.int .u64 0] 78)) (.cells #[.int .i64 a,.int .i64 0,.int .i64 0,.bool false,.int .u64 0] 78);simpa using this)
     have p3:w1.cell? ⟨w.heap.size+1,3,none⟩=some (.bool false):=by rw[cell_of_row _ _ _ _ _ _ r1];rfl
     have p4:w1.cell? ⟨w.heap.size+1,4,none⟩=some (.int .u64 0):=by rw[cell_of_row _ _ _ _ _ _ r1];rfl
     have q3:=Zl (o:=3) r1
     have q4:=Zl (o:=4) r1
     have r0:w1.heap[w.heap.size]? =some (.cells #[.int .i64 0,.int .i64 0,.int .i64 0,.bool false,.int .u64 0] 78 (0,0)):=(hb1.block _ (by simp;omega)).trans ((Below.heap_alloc _ _ _ (by simp)).trans (heap_alloc_new w _))
     have HR:=Lib.hid (And.intro r0 r1)
     have HB:=Lib.hid hB
     clear hb1 hB r0 r1)
  | (go_at_call 115;refine(HX.out _ ?_).mono ?_;rotate_left;rintro e w2 ⟨rfl,hb2,ho2⟩
     have HB2:=Lib.hid hb2
     have HO2:=Lib.hid ho2
     have z1:w2.heap[w.heap.size+1]? =some (.cells #[.int .i64 a,.int .i64 0,.int .i64 0,.bool true,.int .u64 (adr x).1] 78 (0,0)):=(hb2.block _ (by simp[World.setCell];exact Zj HR.out.2) (by simp;omega)).trans (by simp[World.setCell,Array.getElem?_modify,HR.out.2])
     have z0:w2.heap[w.heap.size]? =some (.cells #[.int .i64 0,.int .i64 0,.int .i64 0,.bool false,.int .u64 0] 78 (0,0)):=(hb2.block _ (by simp[World.setCell];exact Zj HR.out.1) (by simp;omega)).trans (by simp[World.setCell,Array.getElem?_modify,HR.out.1])
     have s0:w2.cell? ⟨w.heap.size+1,0,none⟩=some (.int .i64 a):=by rw[cell_of_row _ _ _ _ _ _ z1];rfl
     have s1:w2.cell? ⟨w.heap.size+1,1,none⟩=some (.int .i64 0):=by rw[cell_of_row _ _ _ _ _ _ z1];rfl
     have s2:w2.cell? ⟨w.heap.size+1,2,none⟩=some (.int .i64 0):=by rw[cell_of_row _ _ _ _ _ _ z1];rfl
     have s3:w2.cell? ⟨w.heap.size+1,3,none⟩=some (.bool true):=by rw[cell_of_row _ _ _ _ _ _ z1];rfl
     have s4:w2.cell? ⟨w.heap.size+1,4,none⟩=some (.int .u64 (adr x).1):=by rw[cell_of_row _ _ _ _ _ _ z1];rfl
     have t0:w2.cell? ⟨w.heap.size,0,none⟩=some (.int .i64 0):=by rw[cell_of_row _ _ _ _ _ _ z0];rfl
     have t1:w2.cell? ⟨w.heap.size,1,none⟩=some (.int .i64 0):=by rw[cell_of_row _ _ _ _ _ _ z0];rfl
     have t2:w2.cell? ⟨w.heap.size,2,none⟩=some (.int .i64 0):=by rw[cell_of_row _ _ _ _ _ _ z0];rfl
     have t3:w2.cell? ⟨w.heap.size,3,none⟩=some (.bool false):=by rw[cell_of_row _ _ _ _ _ _ z0];rfl
     have t4:w2.cell? ⟨w.heap.size,4,none⟩=some (.int .u64 0):=by rw[cell_of_row _ _ _ _ _ _ z0];rfl
     have u1:=Zl (o:=1) z1
     have u2:=Zl (o:=2) z1
     have v0:=Zl (o:=0) z0
     have v1:=Zl (o:=1) z0
     have v2:=Zl (o:=2) z0
     have v3:=Zl (o:=3) z0
     have v4:=Zl (o:=4) z0
     clear hb2 ho2 z0 z1))
 case refine_1=>exact(HB.out.setCell (p:=⟨w.heap.size+1,3,none⟩) (by simp) _).setCell (p:=⟨w.heap.size+1,4,none⟩) (by simp) _
 next=>
  have h2:=(HB.out.setCell (p:=⟨w.heap.size+1,3,none⟩) (by simp) (.bool true)).setCell (p:=⟨w.heap.size+1,4,none⟩) (by simp) (.int .u64 (adr x).1)
  have hg2:w.grownBy w2 (some bt):=⟨HB2.out.os.trans h2.os,HB2.out.tape.trans h2.tape,HB2.out.output.trans h2.output,Nat.le_trans h2.size HB2.out.size,fun k hk hne=>(HB2.out.block k (Nat.lt_of_lt_of_le hk h2.size) hne).trans (h2.block k hk)⟩
  have k1:bt≠w.heap.size+1:=by omega
  have k2:bt≠w.heap.size:=by omega
  clear h2
  refine bodyPost_ret (v:=obA ⟨a,s,p,true,(adr x).1⟩) ?_ rfl ⟨rfl,?_,?_⟩
  ·simp[results,Tryz.results119,go_sem,obA,t0,t1,t2,t3,t4]
  ·exact Xg (Xg (Xg (Xg (Xg (Xg (Xg hg2 (by simp) _) (by simp) _) (by simp) _) (by simp) _) (by simp) _) (by simp) _) (by simp) _
  ·rw[Below.heap_setCell _ _ _ _ k2,Below.heap_setCell _ _ _ _ k2,Below.heap_setCell _ _ _ _ k2,Below.heap_setCell _ _ _ _ k2,Below.heap_setCell _ _ _ _ k2,Below.heap_setCell _ _ _ _ k1,Below.heap_setCell _ _ _ _ k1]
   exact HO2.out
end Vm
namespace Vm
open Go Go.Proofs Go.RowKit Go.Shelf
set_option maxHeartbeats 1000000
set_option maxRecDepth 100000
def rowB(W:World)(bl:Nat):Option Nat:=(W.cell? ⟨bl,0,none⟩).bind Value.ownBlock
structure KpW (bl base:Nat) (A B:World):Prop where
 size:A.heap.size≤B.heap.size
 same: ∀k o,A.heap[k]? =some o→o.isCells=true→k≠bl→(k<base∨rowB A bl≠some k)→B.heap[k]? =some o
 row: ∀k,k<A.heap.size→rowB B bl=some k→rowB A bl=some k
theorem KpW.trans{bl base:Nat}{A B C:World}(h:KpW bl base A B)(k:KpW bl base B C):KpW bl base A C:=
 ⟨Nat.le_trans h.size k.size,fun i o hi hc hn hr=>k.same i o (h.same i o hi hc hn hr) hc hn (hr.imp id fun hne e=>hne (h.row i (Zj hi) e)),fun i hi hr=>h.row i hi (k.row i (Nat.lt_of_lt_of_le hi h.size) hr)⟩
theorem KpW.put{bl base:Nat}{W:World}{l:Nat}{o:Obj}(o':Obj)(hl:W.heap[l]? =some o)(ho:o.isCells=false)(hne:bl≠l):KpW bl base W (W.putObj l o'):=by
 have hcell:(W.putObj l o').cell? ⟨bl,0,none⟩=W.cell? ⟨bl,0,none⟩:=World.cell?_of_block (World.putObj_heap_other (by show bl≠l;exact hne))
 refine⟨(grownBy_putObj' W l o').size,fun k o2 hk hk2 _ _=> ?_,fun k _ hr=> ?_⟩
 ·have:k≠l:=fun e=>by rw[e,hl]at hk;cases hk;rw[ho]at hk2;cases hk2
  exact(World.putObj_heap_other this).trans hk
 ·unfold rowB at hr⊢
  rw[hcell]at hr
  exact hr
def je(ws:List Int)(g o cap:Nat)(gv:Value)(shs:List (Int×Int))(old:Bool)(bt:Option Nat)(K:Nat→World→Prop):Prop:=
 ∀(W:World) (a t:Nat) (x:Int),Words W ws g o cap→g<W.heap.size→K t W→ws[a]? =some x→
  Calls Tryz.prog 119 #[.slice (some ⟨g,o,none⟩) ws.length cap,.int .i64 a,gv] W fun e W'=>W.grownBy W' bt∧match objR shs old a t x with
   |some (ob,t')=>e= .returned (obA ob)∧K t' W'
   |none=>e= .panicked (YY 3)
def endS(ws:List Int)(shs:List (Int×Int))(old:Bool)(K:Nat→World→Prop)(xs:List Ob)(W:World):Prop:=
 ∃t,K t W∧Zg ws shs old=(if t<shs.length then([],3)else(xs,0))
def endP(ws:List Int)(shs:List (Int×Int))(old:Bool)(chain:List PanicEntry)(pre:List Ob)(W:World):Prop:=
 ∃e,(e=2∨e=3)∧chain=YY e∧Zg ws shs old=([],e)
structure Stat6 (ws:List Int) (g o cap:Nat) (sv:Value) (bw bg base bl:Nat) (bt:Option Nat) (gv:Value) (W:World):Prop where
 words:Words W ws g o cap
 sv_:sv= .slice (some ⟨g,o,none⟩) ws.length cap∨(ws= []∧ ∃a c,sv= .slice a 0 c)
 hbw:W.heap[bw]? =some (.cells #[sv] 23 (0,0))
 hbg:W.heap[bg]? =some (.cells #[gv] 188 (0,0))
 gb:ws≠ []→ ∃ob,W.heap[g]? =some ob∧ob.isCells=true
 lt:g<base∧bw<base∧bg<base∧base≤W.heap.size
 ne:g≠bl∧bw≠bl∧bg≠bl
 nt:some g≠bt∧some bw≠bt∧some bg≠bt
section
variable {ws:List Int} {g o cap bw bg base bl:Nat} {bt:Option Nat} {sv gv:Value} {W W':World}
theorem Stat6.of(h:Stat6 ws g o cap sv bw bg base bl bt gv W)(hs:W.heap.size≤W'.heap.size)(hb: ∀k ob,W.heap[k]? =some ob→ob.isCells=true→k<base→k≠bl→some k≠bt→W'.heap[k]? =some ob):Stat6 ws g o cap sv bw bg base bl bt gv W':=by
 refine⟨⟨fun i x hx=> ?_,h.words.le,h.words.cap,h.words.len,h.words.u64⟩,h.sv_,hb _ _ h.hbw rfl h.lt.2.1 h.ne.2.1 h.nt.2.1,hb _ _ h.hbg rfl h.lt.2.2.1 h.ne.2.2 h.nt.2.2,fun hn=> ?_,⟨h.lt.1,h.lt.2.1,h.lt.2.2.1,Nat.le_trans h.lt.2.2.2 hs⟩,h.ne,h.nt⟩
 ·have hn:ws≠ []:=fun e=>by rw[e]at hx;simp at hx
  obtain⟨ob,ho,hc⟩:=h.gb hn
  have h2:=hb _ _ ho hc h.lt.1 h.ne.1 h.nt.1
  rw[←h.words.at_ i x hx]
  exact World.cell?_of_block (h2.trans ho.symm)
 ·obtain⟨ob,ho,hc⟩:=h.gb hn
  exact⟨ob,hb _ _ ho hc h.lt.1 h.ne.1 h.nt.1,hc⟩
theorem Stat6.grown(h:Stat6 ws g o cap sv bw bg base bl bt gv W)(hg:W.grownBy W' bt):Stat6 ws g o cap sv bw bg base bl bt gv W':=
 h.of hg.size fun k ob hk _ _ _ hn=>(hg.block k (Zj hk) hn).trans hk
theorem Stat6.kp(h:Stat6 ws g o cap sv bw bg base bl bt gv W)(hk:KpW bl base W W'):Stat6 ws g o cap sv bw bg base bl bt gv W':=
 h.of hk.size fun k ob hk1 hc hlt hne _=>hk.same k ob hk1 hc hne (.inl hlt)
end
theorem Yz{W W':World}(hb:Below W.heap.size W W')(r:Option Nat):W.grownBy W' r:=⟨hb.os,hb.tape,hb.output,hb.size,fun k hk _=>hb.block k hk⟩
theorem Z0R{ws:List Int}{g o cap:Nat}:je ws g o cap .nilFunc [] false none (fun t _=>t=0):=by
 intro W a t x hw hg hK hx
 refine(zJ W ws g o cap hw hg a x hx).mono ?_
 rintro e W' ⟨rfl,hb⟩
 refine⟨Yz hb none,?_⟩
 unfold objR begE
 rw[if_neg (by simp)]
 by_cases hu:(unpk x).2.2=0
 ·simp only[hu,if_true]
  exact⟨trivial,hK⟩
 ·simp only[hu,if_false]
theorem Shps.grown{W W':World}{shs:List (Int×Int)}{bs:Nat}{v:Value}{r:Option Nat}(h:Shps W shs bs v)(hg:W.grownBy W' r)(hbs:some bs≠r)(hgb:shs≠ []→ ∀g o cap,v= .slice (some ⟨g,o,none⟩) shs.length cap→some g≠r):Shps W' shs bs v:=by
 refine⟨(hg.block _ (Zj h.box) hbs).trans h.box,?_⟩
 rcases h.val with ⟨g,o,cap,rfl,h1,h2,h3,h4⟩ | ⟨a,cap,rfl,rfl⟩
 ·refine .inl ⟨g,o,cap,rfl,h1,h2,Nat.lt_of_lt_of_le h3 hg.size,fun i x hx=> ?_⟩
  have hb:=hg.block g h3 (hgb (fun e=>by rw[e]at hx;simp at hx) _ _ _ rfl)
  exact⟨(World.cell?_of_block hb).trans (h4 i x hx).1,(World.cell?_of_block hb).trans (h4 i x hx).2⟩
 ·exact .inr ⟨a,cap,rfl,rfl⟩
def KOld(shs:List (Int×Int))(bt bs:Nat)(v:Value)(t:Nat)(W:World):Prop:=W.heap[bt]? =some (.cells #[.int .i64 t] 3 (0,0))∧Shps W shs bs v∧t≤shs.length
theorem Z1l{ws:List Int}{g o cap:Nat}{shs:List (Int×Int)}{bt bs:Nat}{v:Value}(hl:shs.length≤1000000)(hbs:bs≠bt)(hgb:shs≠ []→ ∀g o cap,v= .slice (some ⟨g,o,none⟩) shs.length cap→g≠bt):
  je ws g o cap (.func (.func 115) #[] #[.pointer (some ⟨bt,0,none⟩),.pointer (some ⟨bs,0,none⟩)]) shs true (some bt) (KOld shs bt bs v):=by
 intro W a t x hw hg hK hx
 obtain⟨hb,hs,ht⟩:=hK
 have hbs':some bs≠some bt:=fun e=>hbs (by simpa using e)
 have hgb':shs≠ []→ ∀g o cap,v= .slice (some ⟨g,o,none⟩) shs.length cap→some g≠some bt:=fun hn g o cap e e2=>hgb hn g o cap e (by simpa using e2)
 have hsB: ∀W',Below W.heap.size W W'→Shps W' shs bs v:=fun W' hB=>hs.grown (Yz hB none) (by simp) (fun _ _ _ _ _=>by simp)
 have hbB: ∀W',Below W.heap.size W W'→W'.heap[bt]? =some (.cells #[.int .i64 t] 3 (0,0)):=fun W' hB=>(hB.block _ (Zj hb)).trans hb
 by_cases ha:(adr x).2=0
 ·unfold objR
  rw[if_pos ⟨rfl,ha⟩]
  cases hxs:shs[t]? with
  |none=>
   have:t=shs.length:=by have:=List.getElem?_eq_none_iff.1 hxs;omega
   subst this
   refine(Vc W _ ws g o cap hw hg a x hx ha fun W' hB=>jb W' shs bt bs v hl (hsB W' hB) (hbB W' hB)).mono ?_
   rintro e W' ⟨rfl,hB⟩
   exact⟨Yz hB _,rfl⟩
  |some s=>
   simp only
   cases hok:Zf s.1 s.2
   ·refine(Vc W _ ws g o cap hw hg a x hx ha fun W' hB=>Z05 W' shs bt bs t v s hl (hsB W' hB) (hbB W' hB) hxs hok).mono ?_
    rintro e W' ⟨rfl,hB⟩
    exact⟨Yz hB _,by simp⟩
   ·refine(RJ W _ ws g o cap hw hg a x hx ha bt _ s.1 s.2 (Zj hb) fun W' hB=>Z1d W' shs bt bs t v s hl (hsB W' hB) (hbB W' hB) hxs hok hbs (hgb (fun e=>by rw[e]at hxs;simp at hxs))).mono ?_
    rintro e W' ⟨rfl,hG,hO⟩
    have hlt:=(List.getElem?_eq_some_iff.1 hxs).1
    refine⟨hG,?_⟩
    simp only[if_true]
    exact⟨trivial,hO,hs.grown hG hbs' hgb',by omega⟩
 ·refine(Ro W _ _ ws g o cap hw hg a x hx ha).mono ?_
  rintro e W' ⟨rfl,hB⟩
  refine⟨Yz hB _,?_⟩
  unfold objR begE
  rw[if_neg (fun hc=>ha hc.2)]
  by_cases hu:(unpk x).2.2=0
  ·simp only[hu,if_true]
   exact⟨trivial,hbB W' hB,hsB W' hB,ht⟩
  ·simp only[hu,if_false]
end Vm
end
section
namespace Vm
open Go Go.Proofs Go.RowKit Go.Shelf
set_option maxHeartbeats 1000000
set_option maxRecDepth 100000
def Z2W(bl:Nat)(W:World):Prop:= ∀k,rowB W bl=some k→k<W.heap.size
theorem Y2{A B C:World}{r:Option Nat}(h:A.grownBy B r)(k:B.grownBy C r):A.grownBy C r:=
 ⟨k.os.trans h.os,k.tape.trans h.tape,k.output.trans h.output,Nat.le_trans h.size k.size,fun i hi hn=>(k.block i (Nat.lt_of_lt_of_le hi h.size) hn).trans (h.block i hi hn)⟩
theorem LN(ws:List Int)(shs:List (Int×Int))(old:Bool){a t t':Nat}{x:Int}{ob:Ob}(hx:ws[a]? =some x)(ho:objR shs old a t x=some (ob,t')){f:Nat}{pre:List Ob}:
  Yp ws shs old (f+1) a t pre=if(ws.length:Int) <a+1+ob.size then([],2)else if Zt ((ws.drop (a+1)).take ob.size.toNat) ob.gone ob.ptrs 0=false then([],3)else Yp ws shs old f (a+1+ob.size.toNat) t' (pre++ [ob]):=by
 rw[Yp,hx]
 simp only
 rw[ho]
theorem yx(n:Nat){w:World}{ws:List Int}{g o cap bw bg base bl:Nat}{bt:Option Nat}{sv gv:Value}{shs:List (Int×Int)}{old:Bool}{K:Nat→World→Prop}(hst:Stat6 ws g o cap sv bw bg base bl bt gv w)
  (hbl:bl<base) (hltb:some bl≠bt) (hbeg:je ws g o cap gv shs old bt K) (hK0:K 0 w) (hKB: ∀t W W',K t W→Below W.heap.size W W'→K t W') (hKK: ∀t W W',K t W→KpW bl base W W'→K t W'):
  SeqP Fence.wide n Tryz.prog 118 #[.pointer (some ⟨bw,0,none⟩),.pointer (some ⟨bg,0,none⟩)] (fun ob:Ob=> #[obA ob]) (KpW bl base) (endS ws shs old K) (endP ws shs old) ws.length bt (Z2W bl) w:=by
 intro l J W hW hJx hJ hY h0
 refine callsIn_of_wp Tryz.func118 rfl trivial ?_ rfl
 simp only[Tryz.ntmps118,List.size_toArray,List.length_cons,List.length_nil,Nat.reduceAdd,Nat.reduceSub,Array.replicate_succ,Array.replicate_zero,List.push_toArray,List.append_toArray,List.nil_append,List.cons_append]
 have HS0:=Lib.hid (hst.grown (Yz hW bt))
 have HK0:=Lib.hid (hKB 0 w W hK0 hW)
 have HJ0:=Lib.hid h0
 clear h0
 gi_wp2
 gi_loopw [4] (fun p wr=> ∃(a t f:Nat) (pre:List Ob),p= .int .i64 a∧Hid (J pre wr∧K t wr∧Stat6 ws g o cap sv bw bg base bl bt gv wr∧ws.length<f+a∧0<f∧a≤ws.length∧pre.length≤a∧Zg ws shs old=Yp ws shs old f a t pre))
  (fun p _=>ws.length- (intOf p).toNat)
 case atStart=>exact⟨0,0,ws.length+1,[],rfl,Lib.hid ⟨HJ0.out,HK0.out,HS0.out,by omega,by omega,by omega,by simp,rfl⟩⟩
 case round=>
  obtain⟨a,t,f,pre,rfl,HI⟩:=hrel
  have hst':=HI.out.2.2.1
  have hsv:=hst'.sv_
  have c1:wr.cell? ⟨bw,0,none⟩=some sv:=by rw[cell_of_row _ _ _ _ _ _ hst'.hbw];rfl
  have c2:wr.cell? ⟨bg,0,none⟩=some gv:=by rw[cell_of_row _ _ _ _ _ _ hst'.hbg];rfl
  have hlen:=hst'.words.len
  clear hst'
  by_cases hlt:a<ws.length
  ·obtain⟨x,hx⟩: ∃x,ws[a]? =some x:=⟨_,List.getElem?_eq_getElem hlt⟩
   obtain rfl:sv= .slice (some ⟨g,o,none⟩) ws.length cap:=hsv.resolve_right (fun h=>by rw[h.1]at hlt;simp at hlt)
   clear hsv
   have hlt':((a:Int) <ws.length)=True:=eq_true (by omega)
   have hb:=hbeg wr a t x HI.out.2.2.1.words (by have:=HI.out.2.2.1.lt;omega) HI.out.2.1 hx
   cases ho:objR shs old a t x with
   |none=>
    rw[ho]at hb
    have HX:=Lib.hid hb
    clear hb
    gi_wp2
    refine⟨trivial,fun h=>(by cases h),(callsIn_wide.2 HX.out).mono ?_⟩
    rintro e w1 ⟨hg1,rfl⟩
    have HG1:=Lib.hid hg1
    clear hg1
    gi_wp2
    refine⟨rfl,.inr ⟨_,pre,rfl,⟨3,.inr rfl,rfl,?_⟩,hJ _ _ _ _ HI.out.1 HG1.out (fun r e=>e.symm)⟩⟩
    obtain⟨_,_,_,hf,hf0,_,_,hR⟩:=HI.out
    cases f with
    |zero=>omega
    |succ f=>
     rw[hR,Yp,hx]
     simp only
     rw[ho]
   |some q=>
    obtain⟨ob,t'⟩:=q
    rw[ho]at hb
    have HX:=Lib.hid hb
    clear hb
    obtain⟨hsh,hat⟩:=V5 ho
    gi_wp2
    refine⟨trivial,fun h=>(by cases h),(callsIn_wide.2 HX.out).mono ?_⟩
    rintro e w1 ⟨hg1,rfl,hk1⟩
    have HG1:=Lib.hid hg1
    have HK1:=Lib.hid hk1
    have hS1:=HI.out.2.2.1.grown hg1
    have HS1:=Lib.hid hS1
    have e1: ∀O,(w1.alloc O).cell? ⟨bw,0,none⟩=some (.slice (some ⟨g,o,none⟩) ws.length cap):=fun O=>by
     rw[World.cell?_alloc_lt _ _ _ (Zj hS1.hbw),cell_of_row _ _ _ _ _ _ hS1.hbw];rfl
    have hgO:wr.grownBy (w1.alloc (.cells #[.int .i64 a,.int .i64 ob.size,.int .i64 ob.ptrs,.bool ob.gone,.int .u64 ob.target] 78)) bt:=Y2 hg1 (World.grownBy_alloc _ _ _)
    have hSO:=Lib.hid (HI.out.2.2.1.grown hgO)
    have hh:=y5 (w1.alloc (.cells #[.int .i64 a,.int .i64 ob.size,.int .i64 ob.ptrs,.bool ob.gone,.int .u64 ob.target] 78)) ws g o cap hSO.out.words (by have:=hSO.out.lt;omega) ob a hat hlt hsh
    unfold obA at hh
    rw[hat]at hh
    have HGO:=Lib.hid hgO
    have HHold:=Lib.hid hh
    have hstep: ∀f pre,Yp ws shs old (f+1) a t pre=_:=fun f pre=>LN ws shs old hx ho (f:=f) (pre:=pre)
    have HST:=Lib.hid hstep
    clear hg1 hk1 hS1 hgO hh hstep hx
    unfold obA
    gi_wp2
    refine⟨trivial,fun h=>(by cases h),(callsIn_wide.2 HHold.out).mono ?_⟩
    rintro e w2 ⟨rfl,hb2⟩
    have hG2:wr.grownBy w2 bt:=Y2 HGO.out (Yz hb2 bt)
    have HG2:=Lib.hid hG2
    have HB2:=Lib.hid hb2
    unfold ju
    by_cases h1:(ws.length:Int) <ob.at_+1+ob.size
    ·rw[if_pos h1]
     rw[hat]at h1
     clear hb2 hG2
     gi_wp2
     refine⟨rfl,.inr ⟨_,pre,rfl,⟨2,.inl rfl,rfl,?_⟩,hJ _ _ _ _ HI.out.1 HG2.out (fun r e=>e.symm)⟩⟩
     obtain⟨_,_,_,hf,hf0,_,_,hR⟩:=HI.out
     obtain⟨f,rfl⟩: ∃f',f=f'+1:=⟨f-1,by omega⟩
     rw[hR,HST.out,if_pos h1]
    ·rw[if_neg h1]
     by_cases h2:Zt ((ws.drop (ob.at_.toNat+1)).take ob.size.toNat) ob.gone ob.ptrs 0=false
     ·rw[if_pos h2]
      rw[hat]at h1 h2
      clear hb2 hG2
      gi_wp2
      refine⟨rfl,.inr ⟨_,pre,rfl,⟨3,.inr rfl,rfl,?_⟩,hJ _ _ _ _ HI.out.1 HG2.out (fun r e=>e.symm)⟩⟩
      obtain⟨_,_,_,hf,hf0,_,_,hR⟩:=HI.out
      obtain⟨f,rfl⟩: ∃f',f=f'+1:=⟨f-1,by omega⟩
      rw[hR,HST.out,if_neg (by omega)]
      simp only[Int.toNat_natCast]at h2
      rw[if_pos h2]
     ·rw[if_neg h2]
      rw[hat]at h1 h2
      simp only[Int.toNat_natCast]at h2
      have HH2:=Lib.hid (And.intro h1 h2)
      have hJ2:=hJ _ _ _ _ HI.out.1 hG2 (fun r e=>e.symm)
      have HJ2:=Lib.hid hJ2
      have HS2:=Lib.hid (HI.out.2.2.1.grown hG2)
      have hbx:w2.heap[w1.heap.size]? =some (.cells #[.int .i64 a,.int .i64 ob.size,.int .i64 ob.ptrs,.bool ob.gone,.int .u64 ob.target] 78 (0,0)):=(hb2.block _ (by simp)).trans (heap_alloc_new w1 _)
      have HBX:=Lib.hid hbx
      obtain⟨fn,tmps,assign,body,hy,hR⟩:=hY pre ob w2 hJ2 (by have:=HI.out.2.2.2.2.2.2.1;omega)
      unfold obA at hy
      rw[hat]at hy
      have d0:w2.cell? ⟨w1.heap.size,0,none⟩=some (.int .i64 a):=by rw[cell_of_row _ _ _ _ _ _ hbx];rfl
      have d1:w2.cell? ⟨w1.heap.size,1,none⟩=some (.int .i64 ob.size):=by rw[cell_of_row _ _ _ _ _ _ hbx];rfl
      have d2:w2.cell? ⟨w1.heap.size,2,none⟩=some (.int .i64 ob.ptrs):=by rw[cell_of_row _ _ _ _ _ _ hbx];rfl
      have d3:w2.cell? ⟨w1.heap.size,3,none⟩=some (.bool ob.gone):=by rw[cell_of_row _ _ _ _ _ _ hbx];rfl
      have d4:w2.cell? ⟨w1.heap.size,4,none⟩=some (.int .u64 ob.target):=by rw[cell_of_row _ _ _ _ _ _ hbx];rfl
      clear hb2 hG2 hJ2 hbx
      gi_wp2
      refine⟨fun h=>(by cases h),hR.mono ?_⟩
      rintro e W3 ⟨rfl,hJ3,hk3⟩
      have HJ3:=Lib.hid hJ3
      have HK3:=Lib.hid hk3
      have hrow2:rowB w2 bl≠some w1.heap.size:=by
       intro e
       have hlb:bl<wr.heap.size:=by have:=HI.out.2.2.1.lt.2.2.2;omega
       have:rowB w2 bl=rowB wr bl:=by
        unfold rowB
        rw[World.cell?_of_block (a:=⟨bl,0,none⟩) (HG2.out.block bl hlb hltb)]
       rw[this]at e
       have:=hJx _ _ HI.out.1 _ e
       have:=HG1.out.size
       omega
      have hbx3:=hk3.same _ _ HBX.out rfl (by have:=HI.out.2.2.1.lt.2.2.2;have:=HG1.out.size;omega) (.inr hrow2)
      have f1:W3.cell? ⟨w1.heap.size,1,none⟩=some (.int .i64 ob.size):=by rw[cell_of_row _ _ _ _ _ _ hbx3];rfl
      have hS3:=HS2.out.kp hk3
      have hK2:K t' w2:=hKB _ _ _ HK1.out (((Below.refl _ _).alloc (Nat.le_refl _) _).trans (HB2.out.mono (by simp)))
      have hK3:=hKK _ _ _ hK2 hk3
      have HS3:=Lib.hid (And.intro hS3 hK3)
      obtain⟨m,hm⟩: ∃m:Nat,ob.size=m:=⟨ob.size.toNat,by have:=(Z2.1 hsh).1;omega⟩
      rw[hm]at f1
      have hm5:(m:Int)≤255:=by have:=(Z2.1 hsh);omega
      have q1:IntKind.i64.wrap (1+(m:Int))=((1+m:Nat):Int):=by rw[Z1 _ (by omega) (by omega)];omega
      have q2:IntKind.i64.wrap ((a:Int)+((1+m:Nat):Int))=((a+(1+m):Nat):Int):=by rw[Z1 _ (by omega) (by omega)];omega
      clear hJ3 hk3 hbx3 hS3 hK2 hK3 hrow2
      clear h2
      gi_wp2
      obtain⟨_,_,_,hf,hf0,hal,hpl,hR⟩:=HI.out
      obtain⟨f,rfl⟩: ∃f',f=f'+1:=⟨f-1,by omega⟩
      rw[HST.out,if_neg (by have:=HH2.out.1;omega),if_neg HH2.out.2]at hR
      have hle:a+1+m≤ws.length:=by omega
      refine⟨⟨a+(1+m),t',f,pre++ [ob],by simp,Lib.hid ⟨HJ3.out,HS3.out.2,HS3.out.1,by omega,by omega,by omega,by simp;omega,?_⟩⟩,by simp[intOf];omega⟩
      rw[hR,hm,Int.toNat_natCast,Nat.add_assoc a 1 m]
  ·have hnlt:((a:Int) <ws.length)=False:=eq_false (by omega)
   have HE:Hid (endS ws shs old K pre wr):=Lib.hid (by
    obtain⟨_,hK,_,hf,hf0,_,_,hR⟩:=HI.out
    refine⟨t,hK,?_⟩
    cases f with
    |zero=>omega
    |succ f=>
     rw[hR,Yp,List.getElem?_eq_none (by omega)])
   obtain⟨sa,sc,rfl⟩: ∃sa sc,sv= .slice sa ws.length sc:=by
    rcases hsv with rfl| ⟨h0,sa,sc,rfl⟩
    ·exact⟨_,_,rfl⟩
    ·exact⟨sa,sc,by rw[h0];rfl⟩
   clear hsv
   gi_wp2
   go_end0
   exact .inl ⟨_,pre,rfl,HE.out,HI.out.1⟩
end Vm
namespace Vm
open Go Go.Proofs Go.RowKit Go.Shelf
set_option maxHeartbeats 1000000
set_option maxRecDepth 100000
theorem yK(w:World)(sv gv:Value)(hs: ∃a n c,sv= .slice a n c)(hg:gv= .nilFunc∨ ∃f vs,gv= .func (.func f) #[] vs):
  Calls Tryz.prog 117 #[sv,gv] w fun e w'=>e= .returned (.func (.func 118) #[] #[.pointer (some ⟨w.heap.size,0,none⟩),.pointer (some ⟨w.heap.size+1,0,none⟩)])∧
   w'=(w.alloc (.cells #[sv] 23)).alloc (.cells #[gv] 188):=by
 have hmf: ∀(fn:Go.Fn) (first cap:Array Value) (w:World),(Instr.makeFunc fn first cap).run Tryz.prog w= .ok (.func fn first cap) w:=fun _ _ _ _=>rfl
 obtain⟨a,n,c,rfl⟩:=hs
 rcases hg with rfl| ⟨f,vs,rfl⟩
 ·go_enter Tryz.func117,Tryz.ntmps117
  go_wp2
  exact bodyPost_ret (results_tmp rfl _ _ _) rfl ⟨rfl,rfl⟩
 ·go_enter Tryz.func117,Tryz.ntmps117
  go_wp2
  exact bodyPost_ret (results_tmp rfl _ _ _) rfl ⟨rfl,rfl⟩
theorem Z23(w:World):Sem.run Tryz.prog (binOp .neq 20 .nilIface .nilIface) w= .ok (.bool false) w:=by rfl
theorem Z38(w:World)(T:TypeId)(v:Value):Sem.run Tryz.prog (binOp .neq 20 (.iface T v) .nilIface) w= .ok (.bool true) w:=by rfl
theorem Z4O(w:World)(x:Int):Sem.run Tryz.prog (Instr.typeAssert (.iface 187 (.agg #[.int .i64 x])) 20 187 true) w= .ok (.tuple #[.agg #[.int .i64 x],.bool true]) w:=by rfl
theorem Ln(n:Nat)(p q:Addr)(w:World):
  CallsDIn Fence.wide n Tryz.prog 116 #[.pointer (some p),.pointer (some q)] .returning w fun e u' w'=>e= .returned (.tuple #[])∧u'= .returning∧w'=w:=by
 have h1:=Z23
 refine callsDIn_of_wpSIn Tryz.func116 rfl trivial fun c₀ cs hu=> ?_
 simp only[Tryz.ntmps116,List.size_toArray,List.length_cons,List.length_nil,Nat.reduceAdd,Nat.reduceSub,Array.replicate_succ,Array.replicate_zero,List.push_toArray,List.append_toArray,List.nil_append,List.cons_append]
 apply wpSIn_seq
 apply wpSIn_region
 simp[wpOpsSIn,go_sem,recoverD,hu,Exit.thenS]
 refine wpSIn_of_wpIn rfl ?_
 gi_wp2
 cases c₀
 simp_all [bodyPostS,results,Tryz.results116]
theorem TM(n:Nat)(bp bq:Nat)(x:Int)(w:World)(vp vq:Value)(hp:Boxed w bp 74 vp)(hq:Boxed w bq 36 vq)(hne:bp≠bq):
  CallsDIn Fence.wide n Tryz.prog 116 #[.pointer (some ⟨bp,0,none⟩),.pointer (some ⟨bq,0,none⟩)] (.panicking (YY x)) w fun e u' w'=>
   e= .returned (.tuple #[])∧u'= .panicking [{v:= .iface 187 (.agg #[.int .i64 x]),recovered:=true}]∧
   Boxed w' bp 74 (.slice none 0 0)∧Boxed w' bq 36 (.int .i64 x)∧(w.heap.size≤w'.heap.size∧ ∀k,k<w.heap.size→k≠bp→k≠bq→w'.heap[k]? =w.heap[k]?)∧w'.os=w.os∧w'.tape=w.tape∧w'.output=w.output:=by
 have h1:=Z38
 have h2:=Z4O
 have p1:=(hp.alloc (.cells #[.int .i64 x] 187)).cell
 have p2:=(hp.alloc (.cells #[.int .i64 x] 187)).frozen
 have q1:=(hq.alloc (.cells #[.int .i64 x] 187)).cell
 have q2:=(hq.alloc (.cells #[.int .i64 x] 187)).frozen
 have p3:=hp.cell
 have p4:=hp.frozen
 have q3:=hq.cell
 have q4:=hq.frozen
 have l1:=hp.lt
 have l2:=hq.lt
 have n1: ¬bp=bq:=hne
 have n2: ¬bq=bp:=fun e=>hne e.symm
 have n3: ¬bp=w.heap.size:=by omega
 have n4: ¬w.heap.size=bp:=by omega
 have n5: ¬bq=w.heap.size:=by omega
 have n6: ¬w.heap.size=bq:=by omega
 have HP:=Lib.hid (And.intro hp hq)
 clear hp hq hne
 refine callsDIn_of_wpSIn Tryz.func116 rfl trivial fun c₀ cs hu=> ?_
 simp only[Tryz.ntmps116,List.size_toArray,List.length_cons,List.length_nil,Nat.reduceAdd,Nat.reduceSub,Array.replicate_succ,Array.replicate_zero,List.push_toArray,List.append_toArray,List.nil_append,List.cons_append]
 apply wpSIn_seq
 apply wpSIn_region
 simp[wpOpsSIn,go_sem,recoverD,hu,YY,Exit.thenS]
 refine wpSIn_of_wpIn rfl ?_
 gi_wp2
 gi_region
 all_goals gi_wp2
 obtain⟨hp,hq⟩:=HP.out
 have b1:Boxed ((w.setCell ⟨bp,0,none⟩ (.slice none 0 0)).setCell ⟨bq,0,none⟩ (.int .i64 x)) bp 74 (.slice none 0 0):=(Below.heap_setCell _ ⟨bq,0,none⟩ _ bp n1).trans (hp.set _)
 have b2:Boxed ((w.setCell ⟨bp,0,none⟩ (.slice none 0 0)).setCell ⟨bq,0,none⟩ (.int .i64 x)) bq 36 (.int .i64 x):=Boxed.set _ (show Boxed (w.setCell ⟨bp,0,none⟩ (.slice none 0 0)) bq 36 vq from(Below.heap_setCell _ ⟨bp,0,none⟩ _ bq n2).trans hq)
 refine⟨rfl,_,rfl,_,by simp[results,Tryz.results116],rfl,rfl,b1.alloc _,b2.alloc _,⟨?_,fun k hk k1 k2=> ?_⟩,rfl,rfl,rfl⟩
 ·show _≤(World.alloc _ _).heap.size
  rw[World.size_alloc]
  simp[World.setCell]
 ·show(World.alloc _ _).heap[k]? =_
  rw[Below.heap_alloc _ _ _ (by simp[World.setCell];exact hk),Below.heap_setCell _ _ _ _ k2,Below.heap_setCell _ _ _ _ k1]
end Vm
namespace Vm
open Go Go.Proofs Go.RowKit Go.Shelf
set_option maxHeartbeats 1000000
set_option maxRecDepth 100000
def obC(ob:Ob):List Value:= [.int .i64 ob.at_,.int .i64 ob.size,.int .i64 ob.ptrs,.bool ob.gone,.int .u64 ob.target]
def obsC(l:List Ob):List Value:=l.flatMap obC
theorem yH(l:List Ob)(x:Ob):obsC (l++ [x])=obsC l++obC x:=by simp[obsC]
structure WIv (w:World) (bt:Option Nat) (pre:List Ob) (W:World):Prop where
 row: ∃v,Boxed W w.heap.size 74 v∧W.ownsRow (w.heap.size+4) 78 5 v pre.length (obsC pre)
 e:Boxed W (w.heap.size+1) 36 (.int .i64 0)
 gr:w.grownBy W bt
 size:w.heap.size+4≤W.heap.size
theorem Yf{w X Y:World}{bt row:Option Nat}(h:w.grownBy X bt)(k:X.grownBy Y row)(hr: ∀r,row=some r→some r=bt∨w.heap.size≤r):w.grownBy Y bt:=
 ⟨k.os.trans h.os,k.tape.trans h.tape,k.output.trans h.output,Nat.le_trans h.size k.size,fun i hi hn=>
  (k.block i (Nat.lt_of_lt_of_le hi h.size) (fun e=>by rcases hr i e.symm with e2|e2;exact hn e2;omega)).trans (h.block i hi hn)⟩
theorem RH{W:World}{b:Nat}{t:TypeId}{v:Value}(h:Boxed W b t v):rowB W b=v.ownBlock:=by
 unfold rowB
 rw[h.cell]
 rfl
theorem WIv.rowIn{w:World}{bt:Option Nat}{pre:List Ob}{W:World}(h:WIv w bt pre W):Z2W w.heap.size W:=by
 obtain⟨v,hv,hr⟩:=h.row
 intro k hk
 rw[RH hv]at hk
 exact(hr.lt k hk).2
theorem WIv.own{w:World}{bt:Option Nat}(hbt: ∀r,bt=some r→r<w.heap.size):OwnP bt (w.heap.size+4) (WIv w bt):=by
 intro s X Y row h hg hr
 have hne: ∀k,w.heap.size≤k→k<w.heap.size+4→some k≠row:=by
  intro k h1 h2 e
  rcases hr k e.symm with e2| ⟨e2,_⟩
  ·have:=hbt k e2.symm;omega
  ·omega
 obtain⟨v,hv,hrow⟩:=h.row
 refine⟨⟨v,hv.kept hg (hne _ (Nat.le_refl _) (by omega)),hrow.kept hg ?_⟩,h.e.kept hg (hne _ (by omega) (by omega)),Yf h.gr hg fun r e=>(hr r e).imp id fun h2=>by omega,Nat.le_trans h.size hg.size⟩
 cases hb:v.ownBlock with
 |none=>exact .inl rfl
 |some b=>
  refine .inr fun e=> ?_
  have h1:=hrow.lt b hb
  rcases hr b e.symm with e2| ⟨_,o,ho,hc⟩
  ·have:=hbt b e2.symm;omega
  ·rcases hrow.2 with ⟨rfl,_⟩ | ⟨g,cap,cur,rfl,_,hgb,_⟩
   ·simp[Value.ownBlock]at hb
   ·obtain rfl:g=b:=by simpa[Value.ownBlock]using hb
    rw[hgb]at ho;cases ho;cases hc
theorem WIv.appended{w W w1:World}{bt:Option Nat}{pre:List Ob}{x:Ob}{v v':Value}{tmp:Obj}(hbt: ∀r,bt=some r→r<w.heap.size)(h:WIv w bt pre W)(hv:Boxed W w.heap.size 74 v)
  (hrow:W.ownsRow (w.heap.size+4) 78 5 v pre.length (obsC pre)) (hown':w1.ownsRow (w.heap.size+4) 78 5 v' (pre.length+1) (obsC pre++obC x))
  (hgrow:(W.alloc tmp).grownBy w1 v.ownBlock) (hat:v'.ownBlock=v.ownBlock∨v'.ownBlock=some (W.alloc tmp).heap.size):
  Boxed w1 w.heap.size 74 v∧KeepsFrom (w.heap.size+4) W (w1.setCell ⟨w.heap.size,0,none⟩ v')∧KpW w.heap.size (w.heap.size+4) W (w1.setCell ⟨w.heap.size,0,none⟩ v')∧WIv w bt (pre++ [x]) (w1.setCell ⟨w.heap.size,0,none⟩ v'):=by
 have hsz:=h.size
 obtain⟨hv1,hv2,hr2,hk2,hb2⟩:=hv.appended (by decide) (VY hrow (B':=w.heap.size) (by omega)) (by omega) (Nat.le_refl _) (VY hown' (B':=w.heap.size) (by omega)) hgrow
 have hlow: ∀b,v.ownBlock=some b→w.heap.size+4≤b:=fun b hb=>(hrow.lt b hb).1
 have hrow2:(w1.setCell ⟨w.heap.size,0,none⟩ v').ownsRow (w.heap.size+4) 78 5 v' (pre.length+1) (obsC pre++obC x):=hown'.kept (grownBy_setCell' w1 w.heap.size v') (by
  cases hb:v'.ownBlock with
  |none=>exact .inl rfl
  |some b=>exact .inr fun e=>by have h1:=(hown'.lt b hb).1;cases e;omega)
 refine⟨hv1,hk2.from _,⟨hk2.size,fun k o hk hc hn hr=> ?_,fun k hk e=> ?_⟩,⟨v',hv2,?_⟩,?_,?_,Nat.le_trans hsz hk2.size⟩
 ·rw[Below.heap_setCell _ _ _ _ hn,hgrow.block k (by have:=Zj hk;simp;omega) (fun e=> ?_),Below.heap_alloc _ _ _ (Zj hk),hk]
  rcases hr with hr|hr
  ·have:=hlow k e.symm;omega
  ·exact hr ((RH hv).trans e.symm)
 ·rw[RH hv2]at e
  rw[RH hv]
  rcases hat with hat|hat
  ·rw[←hat];exact e
  ·rw[hat]at e
   simp at e
   omega
 ·rw[List.length_append,yH];exact hrow2
 ·have he1:Boxed w1 (w.heap.size+1) 36 (.int .i64 0):=(h.e.alloc tmp).kept hgrow (fun e=>by have:=hlow _ e.symm;omega)
  exact(Below.heap_setCell _ _ _ _ (by show w.heap.size+1≠w.heap.size;omega)).trans he1
 ·refine Yf (Yf (Yf h.gr (World.grownBy_alloc W tmp none) (by simp)) hgrow fun r e=> .inr ?_) (grownBy_setCell' w1 w.heap.size v') fun r e=> .inr ?_
  ·have:=hlow r e;omega
  ·cases e;exact Nat.le_refl _
theorem KpW.alloc{bl base:Nat}{W:World}(o:Obj)(hbl:bl<W.heap.size):KpW bl base W (W.alloc o):=by
 refine⟨by simp,fun k o2 hk _ _ _=>(Below.heap_alloc _ _ _ (Zj hk)).trans hk,fun k _ hr=> ?_⟩
 unfold rowB at hr⊢
 rw[World.cell?_alloc_lt _ _ _ hbl]at hr
 exact hr
end Vm
namespace Vm
open Go Go.Proofs Go.RowKit Go.Shelf
attribute [local go_sem] Oper.semAt_some
set_option maxHeartbeats 1000000
set_option maxRecDepth 100000
theorem Z55:(Tryz.prog.info? 78).map (fun i=>(i.zero,i.size,i.bytes))=some (some (.agg #[.int .i64 0,.int .i64 0,.int .i64 0,.bool false,.int .u64 0]),5,40):=by kernel_rfl
theorem unO:Tryz.prog.underlying 74=some (.slice 78):=by kernel_rfl
theorem zl(w:World)(a b c d e:Value)(t:TypeId): ∀j u,[a,b,c,d,e][j]? =some u→(w.alloc (.cells #[a,b,c,d,e] t)).cell? ((⟨w.heap.size,0,none⟩:Addr).add j)=some u:=by
 intro j u h
 have:=cell_of_row _ _ j _ _ _ (heap_alloc_new w (.cells #[a,b,c,d,e] t))
 have e2:(⟨w.heap.size,0,none⟩:Addr).add j=⟨w.heap.size,j,none⟩:=by unfold Addr.add;split<;>simp_all
 rw[e2,this]
 simpa using h
def yY(w:World)(ws:List Int)(shs:List (Int×Int))(old:Bool)(bt:Option Nat)(K:Nat→World→Prop)(e:Ending)(W:World):Prop:=
 ∃v n xs,e= .returned (.tuple #[v,.int .i64 n])∧w.grownBy W bt∧W.ownsRow (w.heap.size+4) 78 5 v xs.length (obsC xs)∧((n=0∧endS ws shs old K xs W)∨((n=2∨n=3)∧xs= []∧Zg ws shs old=([],n)))
theorem QX{w:World}{ws:List Int}{g o cap:Nat}{bt:Option Nat}{sv gv:Value}{shs:List (Int×Int)}{old:Bool}{K:Nat→World→Prop}(hw:Words w ws g o cap)
  (hsv:sv= .slice (some ⟨g,o,none⟩) ws.length cap∨(ws= []∧ ∃a c,sv= .slice a 0 c)) (hg:(ws≠ []→g<w.heap.size)∧g<w.heap.size+4∧g≠w.heap.size) (hgv:gv= .nilFunc∨ ∃f vs,gv= .func (.func f) #[] vs)
  (hbt: ∀r,bt=some r→r<w.heap.size) (hgt:some g≠bt) (hbeg:je ws g o cap gv shs old bt K) (hK0:K 0 w)
  (hKG: ∀t A B row,K t A→A.grownBy B row→(∀r,row=some r→w.heap.size≤r)→K t B)
  (hKK: ∀bl base t A B,w.heap.size≤bl→w.heap.size≤base→K t A→KpW bl base A B→K t B):
  Calls Tryz.prog 114 #[sv,gv] w (yY w ws shs old bt K):=by
 refine(callsIn_wide (n:=5)).1 ?_
 have hmf: ∀(fn:Go.Fn) (first cap:Array Value) (w:World),(Instr.makeFunc fn first cap).run Tryz.prog w= .ok (.func fn first cap) w:=fun _ _ _ _=>rfl
 have hsf: ∃a n c,sv= .slice a n c:=by
  rcases hsv with rfl| ⟨_,a,c,rfl⟩
  ·exact⟨_,_,_,rfl⟩
  ·exact⟨_,_,_,rfl⟩
 refine callsIn_of_wp_marks Tryz.func114 rfl trivial ?_ rfl
 simp only[Tryz.ntmps114,List.size_toArray,List.length_cons,List.length_nil,Nat.reduceAdd,Nat.reduceSub,Array.replicate_succ,Array.replicate_zero,List.push_toArray,List.append_toArray,List.nil_append,List.cons_append]
 have he:=fun W=>yK W sv gv hsf hgv
 gi_wp2
 refine⟨trivial,(callsIn_wide.2 (he _)).mono ?_⟩
 rintro e w1 ⟨rfl,rfl⟩
 gi_wp2
 have hnx: ∀b:Nat,b<w.heap.size→((((w.alloc (Obj.cells #[.slice none 0 0] 74)).alloc (.cells #[.int .i64 0] 36)).alloc (.cells #[sv] 23)).alloc (.cells #[gv] 188)).heap[b]? =w.heap[b]? :=fun b hb=>by
  rw[Below.heap_alloc _ _ _ (by simp;omega),Below.heap_alloc _ _ _ (by simp;omega),Below.heap_alloc _ _ _ (by simp;omega),Below.heap_alloc _ _ _ hb]
 have b0:Boxed ((((w.alloc (Obj.cells #[.slice none 0 0] 74)).alloc (.cells #[.int .i64 0] 36)).alloc (.cells #[sv] 23)).alloc (.cells #[gv] 188)) w.heap.size 74 (.slice none 0 0):=(((Boxed.new w _ _).alloc _).alloc _).alloc _
 have b1:Boxed ((((w.alloc (Obj.cells #[.slice none 0 0] 74)).alloc (.cells #[.int .i64 0] 36)).alloc (.cells #[sv] 23)).alloc (.cells #[gv] 188)) (w.heap.size+1) 36 (.int .i64 0):=by
  have:=((Boxed.new (w.alloc (Obj.cells #[.slice none 0 0] 74)) 36 (.int .i64 0)).alloc (.cells #[sv] 23)).alloc (.cells #[gv] 188)
  rwa[World.size_alloc]at this
 have b2:Boxed ((((w.alloc (Obj.cells #[.slice none 0 0] 74)).alloc (.cells #[.int .i64 0] 36)).alloc (.cells #[sv] 23)).alloc (.cells #[gv] 188)) (w.heap.size+2) 23 sv:=by
  have:=(Boxed.new ((w.alloc (Obj.cells #[.slice none 0 0] 74)).alloc (.cells #[.int .i64 0] 36)) 23 sv).alloc (.cells #[gv] 188)
  simpa using this
 have b3:Boxed ((((w.alloc (Obj.cells #[.slice none 0 0] 74)).alloc (.cells #[.int .i64 0] 36)).alloc (.cells #[sv] 23)).alloc (.cells #[gv] 188)) (w.heap.size+3) 188 gv:=by
  have:=Boxed.new (((w.alloc (Obj.cells #[.slice none 0 0] 74)).alloc (.cells #[.int .i64 0] 36)).alloc (.cells #[sv] 23)) 188 gv
  simpa using this
 have hgr:w.grownBy ((((w.alloc (Obj.cells #[.slice none 0 0] 74)).alloc (.cells #[.int .i64 0] 36)).alloc (.cells #[sv] 23)).alloc (.cells #[gv] 188)) bt:=⟨rfl,rfl,rfl,by simp;omega,fun k hk _=>hnx k hk⟩
 have hsz:((((w.alloc (Obj.cells #[.slice none 0 0] 74)).alloc (.cells #[.int .i64 0] 36)).alloc (.cells #[sv] 23)).alloc (.cells #[gv] 188)).heap.size=w.heap.size+4:=by simp
 generalize hW0:(((w.alloc (Obj.cells #[.slice none 0 0] 74)).alloc (.cells #[.int .i64 0] 36)).alloc (.cells #[sv] 23)).alloc (.cells #[gv] 188)=W0 at*
 have hst:Stat6 ws g o cap sv (w.heap.size+2) (w.heap.size+3) (w.heap.size+4) w.heap.size bt gv W0:=by
  refine⟨⟨fun i x hx=> ?_,hw.le,hw.cap,hw.len,hw.u64⟩,hsv,b2,b3,fun hn=> ?_,⟨by omega,by omega,by omega,by omega⟩,⟨by omega,by omega,by omega⟩,hgt,?_,?_⟩
  ·rw[←hw.at_ i x hx]
   exact World.cell?_of_block (hnx g (hg.1 (fun e=>by rw[e]at hx;simp at hx)))
  ·obtain⟨x,hx⟩: ∃x,ws[0]? =some x:=by cases ws with|nil=>exact absurd rfl hn|cons x l=>exact⟨x,rfl⟩
   have:=hw.at_ 0 x hx
   rw[hnx g (hg.1 hn)]
   unfold World.cell? at this
   cases hh:w.heap[g]? with
   |none=>simp[hh]at this
   |some ob=>
    refine⟨ob,rfl,?_⟩
    rw[hh]at this
    cases ob<;>simp_all [Obj.isCells]
  ·intro e;have:=hbt _ e.symm;omega
  ·intro e;have:=hbt _ e.symm;omega
 have hK0':K 0 W0:=hKG 0 w W0 none hK0 ⟨hgr.os,hgr.tape,hgr.output,hgr.size,fun k hk _=>hnx k hk⟩ (by simp)
 have hseq:=yx 4 hst (by omega) (fun e=>by have:=hbt _ e.symm;omega) hbeg hK0' (fun t A B hA hB=>hKG t A B none hA ⟨hB.os,hB.tape,hB.output,hB.size,fun k hk _=>hB.block k hk⟩ (by simp)) (fun t A B hA hB=>hKK _ _ t A B (Nat.le_refl _) (by omega) hA hB)
 refine UJ rfl (by omega) (gf:=118) (lb:= #[.pointer (some ⟨w.heap.size+2,0,none⟩),.pointer (some ⟨w.heap.size+3,0,none⟩)]) rfl trivial (enters_of Tryz.func118 (by kernel_rfl) rfl)
  hseq (fun r e=>by have:=hbt r e;omega) KpW.trans (fun W l o o' h1 h2 h3 _=>KpW.put o' h2 h3 (by omega)) (Below.refl _ _) (fun _=>rfl)
  (WIv w bt) (hsz▸WIv.own hbt) (fun pre W h=>h.rowIn) ⟨⟨_,b0,World.ownsRow_nil _ _ _ _⟩,b1,hgr,by omega⟩ ?hS
  (fun x a' W=> ∃Bx,w.heap.size+4≤Bx∧W.heap[Bx]? =some (.cells #[.int .i64 x.at_,.int .i64 x.size,.int .i64 x.ptrs,.bool x.gone,.int .u64 x.target] 78 (0,0))∧
   a'= {tmps:= #[sv,gv,undef,undef,.pointer (some ⟨w.heap.size,0,none⟩),.pointer (some ⟨w.heap.size+1,0,none⟩),.pointer (some ⟨Bx,0,none⟩),
    .func (.func 116) #[] #[.pointer (some ⟨w.heap.size,0,none⟩),.pointer (some ⟨w.heap.size+1,0,none⟩)],sv,gv,.func (.func 118) #[] #[.pointer (some ⟨w.heap.size+2,0,none⟩),.pointer (some ⟨w.heap.size+3,0,none⟩)],obA x,undef,undef,undef,undef,undef],defers:= []})
  ?hAx ?assign ?body ?done ?panic
 case hS=>
  rintro xs X Y row ⟨t,hK,hR⟩ hgr2 hrow
  exact⟨t,hKG t X Y row hK hgr2 fun r e=>(hrow r e).elim (fun e2=>by cases e2) (fun e2=>by omega),hR⟩
 case hAx=>
  rintro x a' s X Y row ⟨Bx,hB,hx,ha⟩ hgr2 hrow
  refine⟨Bx,hB,(hgr2.block Bx (Zj hx) fun e=> ?_).trans hx,ha⟩
  rcases hrow Bx e.symm with e2| ⟨_,o2,h2,h3⟩
  ·cases e2
  ·rw[hx]at h2;cases h2;cases h3
 case assign=>
  rintro l pre x W K2 hi hK2
  simp only[List.zip_cons_cons,Array.zip,obA]
  gi_wp2
  exact hK2 _ _ ((KeepsOthers.alloc W _).from _) (KpW.alloc _ (by have:=hi.size;omega)) ((WIv.own hbt).alloc _ hi) ⟨W.heap.size,hi.size,heap_alloc_new W _,rfl⟩
 case body=>
  rintro l pre x a' W hi ⟨Bx,hBx,hx,rfl⟩ hlen
  obtain⟨v,hv,hrow⟩:=hi.row
  obtain⟨i0,hin,hz0,hz1,hz2⟩:=info_parts Z55
  obtain⟨va,vc,rfl⟩:=Zd hrow
  have c1:=hv.cell
  have c2:=hv.frozen
  have d0:W.cell? ⟨Bx,0,none⟩=some (.int .i64 x.at_):=by rw[cell_of_row _ _ _ _ _ _ hx];rfl
  have d1:W.cell? ⟨Bx,1,none⟩=some (.int .i64 x.size):=by rw[cell_of_row _ _ _ _ _ _ hx];rfl
  have d2:W.cell? ⟨Bx,2,none⟩=some (.int .i64 x.ptrs):=by rw[cell_of_row _ _ _ _ _ _ hx];rfl
  have d3:W.cell? ⟨Bx,3,none⟩=some (.bool x.gone):=by rw[cell_of_row _ _ _ _ _ _ hx];rfl
  have d4:W.cell? ⟨Bx,4,none⟩=some (.int .u64 x.target):=by rw[cell_of_row _ _ _ _ _ _ hx];rfl
  have hpl:pre.length≤1000000:=Nat.le_trans (Nat.le_of_lt hlen) hw.len
  have hszW:=hi.size
  have HA:=fun tmp w1 v'=>WIv.appended (W:=W) (w1:=w1) (x:=x) (v':=v') (tmp:=tmp) hbt hi hv hrow
  gi_wp2_with (gi_at_builtin;refine wpListIn_append_own_at _ rfl _ _ 74 rfl (w.heap.size+4) 78 i0 _ 5 40 unO hin hz0 hz1 hz2 rfl (by decide) _ _ _ rfl (hrow.alloc _) ⟨W.heap.size,0,none⟩ 1 1 (obC x) rfl rfl (zl _ _ _ _ _ _ _) (by simp[obC,Value.oneCell']) (by unfold maxLen;omega) (by omega) (by simp;omega) ?_;intro v' w1 hown' hgrow _ hat;obtain⟨g',cap',rfl⟩:=ownsRow_succ hown';obtain⟨e1,e2,e3,e4⟩:=HA _ _ _ hown' hgrow hat;have e5:=e1.cell;have e6:=e1.frozen)
  rw[hsz]
  exact⟨e2,e3,e4⟩
 case done=>
  rintro D xs W hD hS hi hD2
  obtain⟨v,hv,hrow⟩:=hi.row
  obtain⟨va,vc,rfl⟩:=Zd hrow
  have c1:=hv.cell
  have c2:=hv.frozen
  have c3:=hi.e.cell
  have c4:=hi.e.frozen
  rw[hsz]at hD
  gi_wp2
  have hDX:((W.setCell ⟨w.heap.size,0,none⟩ (.slice va xs.length vc)).setCell ⟨w.heap.size+1,0,none⟩ (.int .i64 0)).heap[D]? =some (.deferred (some [])):=by
   rw[Below.heap_setCell _ _ _ _ (by show D≠w.heap.size+1;omega),Below.heap_setCell _ _ _ _ (by show D≠w.heap.size;omega)]
   exact hD2
  have f0:Boxed ((W.setCell ⟨w.heap.size,0,none⟩ (.slice va xs.length vc)).setCell ⟨w.heap.size+1,0,none⟩ (.int .i64 0)) w.heap.size 74 (.slice va xs.length vc):=
   (Below.heap_setCell _ _ _ _ (by show w.heap.size≠w.heap.size+1;omega)).trans (hv.set _)
  have f1:Boxed ((W.setCell ⟨w.heap.size,0,none⟩ (.slice va xs.length vc)).setCell ⟨w.heap.size+1,0,none⟩ (.int .i64 0)) (w.heap.size+1) 36 (.int .i64 0):=
   Boxed.set _ (show Boxed (W.setCell ⟨w.heap.size,0,none⟩ (.slice va xs.length vc)) (w.heap.size+1) 36 (.int .i64 0)from(Below.heap_setCell _ _ _ _ (by show w.heap.size+1≠w.heap.size;omega)).trans hi.e)
  have g1:=grownBy_setCell' W w.heap.size (.slice va xs.length vc)
  have g2:=grownBy_setCell' (W.setCell ⟨w.heap.size,0,none⟩ (.slice va xs.length vc)) (w.heap.size+1) (.int .i64 0)
  have hlow:=hrow.lt
  have r2:=(hrow.kept g1 (by
   cases hb:(Value.slice va xs.length vc).ownBlock with
   |none=>exact .inl rfl
   |some b=>exact .inr fun e=>by have:=(hlow b hb).1;cases e;omega)).kept g2 (by
   cases hb:(Value.slice va xs.length vc).ownBlock with
   |none=>exact .inl rfl
   |some b=>exact .inr fun e=>by have:=(hlow b hb).1;cases e;omega)
  generalize hW2:(W.setCell ⟨w.heap.size,0,none⟩ (.slice va xs.length vc)).setCell ⟨w.heap.size+1,0,none⟩ (.int .i64 0)=W2 at*
  have g3:=grownBy_putObj' W2 D (.deferred none)
  have f0':Boxed (W2.putObj D (.deferred none)) w.heap.size 74 (.slice va xs.length vc):=(World.putObj_heap_other (by omega)).trans f0
  have f1':Boxed (W2.putObj D (.deferred none)) (w.heap.size+1) 36 (.int .i64 0):=(World.putObj_heap_other (by omega)).trans f1
  have k0:=f0'.cell
  have k1:=f1'.cell
  refine⟨by simp,.inl ⟨D,_,rfl,run_takeDeferred hDX,?_⟩⟩
  refine⟨by simp,.inr ⟨fun h=>(by cases h),.func 116,_,116, #[.pointer (some ⟨w.heap.size,0,none⟩),.pointer (some ⟨w.heap.size+1,0,none⟩)],rfl,by simp[go_sem],fun _ _=>trivial,?_⟩⟩
  refine(Ln _ _ _ _).mono ?_
  rintro e u' w'' ⟨rfl,rfl,rfl⟩
  refine⟨.tuple #[.slice va xs.length vc,.int .i64 0],by simp[results,Tryz.results114,go_sem,k0,k1],?_⟩
  obtain⟨t,hK,hR⟩:=hS
  refine⟨_,0,xs,rfl,Yf (Yf (Yf hi.gr g1 fun r e=> .inr ?_) g2 fun r e=> .inr ?_) g3 fun r e=> .inr ?_,ownsRow_putObj r2 _ hDX rfl,.inl ⟨rfl,t,hKG t _ _ _ (hKG t _ _ _ (hKG t _ _ _ hK g1 fun r e=> ?_) g2 fun r e=> ?_) g3 fun r e=> ?_,hR⟩⟩
  all_goals (cases e;omega)
 case panic=>
  rintro D chain pre W hD ⟨e,he2,rfl,hWk⟩ hi hD2
  rw[hsz]at hD
  obtain⟨v,hv,hrow⟩:=hi.row
  have g3:=grownBy_putObj' W D (.deferred none)
  have f0':Boxed (W.putObj D (.deferred none)) w.heap.size 74 v:=(World.putObj_heap_other (by omega)).trans hv
  have f1':Boxed (W.putObj D (.deferred none)) (w.heap.size+1) 36 (.int .i64 0):=(World.putObj_heap_other (by omega)).trans hi.e
  have hg4:w.grownBy (W.putObj D (.deferred none)) bt:=Yf hi.gr g3 fun r e=> .inr (by cases e;omega)
  refine⟨by simp,.inl ⟨D,_,rfl,run_takeDeferred hD2,?_⟩⟩
  refine⟨by simp,.inr ⟨fun h=>(by cases h),.func 116,_,116, #[.pointer (some ⟨w.heap.size,0,none⟩),.pointer (some ⟨w.heap.size+1,0,none⟩)],rfl,by simp[go_sem],fun _ _=>trivial,?_⟩⟩
  refine(TM _ w.heap.size (w.heap.size+1) e _ _ _ f0' f1' (by omega)).mono ?_
  rintro e' u' w'' ⟨rfl,rfl,h0,h1,⟨hs2,hk⟩,hos,htape,hout⟩
  have k0:=h0.cell
  have k1:=h1.cell
  refine⟨.tuple #[.slice none 0 0,.int .i64 e],by simp[results,Tryz.results114,go_sem,k0,k1],?_⟩
  refine⟨_,e,[],rfl,⟨hos.trans hg4.os,htape.trans hg4.tape,hout.trans hg4.output,Nat.le_trans hg4.size hs2,fun k hk2 hn=> ?_⟩,World.ownsRow_nil _ _ _ _,.inr ⟨he2,rfl,hWk⟩⟩
  exact(hk k (Nat.lt_of_lt_of_le hk2 hg4.size) (by omega) (by omega)).trans (hg4.block k hk2 hn)
end Vm
namespace Vm
open Go Go.Proofs Go.RowKit Go.Shelf
set_option maxHeartbeats 1000000
set_option maxRecDepth 100000
theorem Jz{w:World}{G:Nat→Prop}{k:IntKind}{n:Int}{v:Value}(r:Rd w G (.int k n) v):v= .int k n:=by cases r;rfl
theorem TR{w:World}{G:Nat→Prop}{ws:List Int}{v:Value}(r:Rd w G (.sl (ws.map vu)) v)(hG: ∀b,G b→b<w.heap.size)(hl:ws.length≤1000000)(hu: ∀x∈ws,U64 x)(q:Nat):
  ∃g o cap,Words w ws g o cap∧(v= .slice (some ⟨g,o,none⟩) ws.length cap∨(ws= []∧ ∃a c,v= .slice a 0 c))∧((ws≠ []→g<w.heap.size)∧(g<w.heap.size∨g=q)):=by
 generalize hL:ws.map vu=L at r
 cases r with
 |nil a cap hc=>
  have:ws= []:=List.map_eq_nil_iff.1 hL
  subst this
  exact⟨q,0,0,⟨fun i x hx=>by simp at hx,by simp,by unfold maxLen;omega,by simp,by simp⟩,.inr ⟨rfl,a,cap,rfl⟩,fun h=>absurd rfl h,.inr rfl⟩
 |sl _ b o cap k vs h1 h2 h3 h4 h5 h6=>
  subst hL
  simp only[List.length_map]at h1 h5⊢
  refine⟨b,o,cap,⟨fun i x hx=> ?_,h1,h2,hl,hu⟩,.inl rfl,fun _=>hG b h3,.inl (hG b h3)⟩
  have hm:(ws.map vu)[i]? =some (vu x):=by rw[List.getElem?_map,hx];rfl
  have hk:k=1:=((h4 _ (List.mem_of_getElem? hm)).1).symm
  subst hk
  have hi:i<ws.length:=(List.getElem?_eq_some_iff.1 hx).1
  rw[h5 i (by omega)]
  have:=h6 i (vu x) (by have:=Wk h4 hm 0 (by omega);simpa using this)
  rw[Jz this]
theorem zb{w:World}{G:Nat→Prop}{shs:List (Int×Int)}{v:Value}(r:Rd w G (.sl (shs.map shP)) v)(hG: ∀b,G b→b<w.heap.size):
  (∃g o cap,v= .slice (some ⟨g,o,none⟩) shs.length cap∧shs.length≤cap∧cap≤maxLen∧g<w.heap.size∧ ∀(i:Nat) (x:Int×Int),shs[i]? =some x→w.cell? ⟨g,o+i*2,none⟩=some (.int .i64 x.1)∧w.cell? ⟨g,o+i*2+1,none⟩=some (.int .i64 x.2))∨
  (∃a cap,v= .slice a 0 cap∧shs= []):=by
 generalize hL:shs.map shP=L at r
 cases r with
 |nil a cap hc=>
  have:shs= []:=List.map_eq_nil_iff.1 hL
  exact .inr ⟨a,cap,rfl,this⟩
 |sl _ b o cap k vs h1 h2 h3 h4 h5 h6=>
  subst hL
  simp only[List.length_map]at h1 h5⊢
  refine .inl ⟨b,o,cap,rfl,h1,h2,hG b h3,fun i x hx=> ?_⟩
  have hm:(shs.map shP)[i]? =some (shP x):=by rw[List.getElem?_map,hx];rfl
  have hk:k=2:=((h4 _ (List.mem_of_getElem? hm)).1).symm
  subst hk
  have hi:i<shs.length:=(List.getElem?_eq_some_iff.1 hx).1
  have e0:=h6 (i*2) (vi x.1) (by have:=Wk h4 hm 0 (by omega);simpa using this)
  have e1:=h6 (i*2+1) (vi x.2) (by have:=Wk h4 hm 1 (by omega);simpa using this)
  refine⟨?_,?_⟩
  ·rw[h5 (i*2) (by omega)]
   rw[Jz e0]
  ·rw[Nat.add_assoc,h5 (i*2+1) (by omega)]
   rw[Jz e1]
theorem Qu{w:World}{G:Nat→Prop}: ∀(l:List Ob) (i:Nat) (c:V),(flat (l.map obV))[i]? =some c→Rd w G c ((obsC l).getD i undef)
 | [],i,c,h=>by simp[flat]at h
 |x::l,i,c,h=>by
  rw[List.map_cons,YS]at h
  have e:obsC (x::l)=obC x++obsC l:=by simp[obsC]
  rw[e]
  by_cases hi:i<5
  ·match i,hi with
   |0,_=>simp[obV,V.cells]at h;subst h;exact .int _ _
   |1,_=>simp[obV,V.cells]at h;subst h;exact .int _ _
   |2,_=>simp[obV,V.cells]at h;subst h;exact .int _ _
   |3,_=>simp[obV,V.cells]at h;subst h;exact .bool _
   |4,_=>simp[obV,V.cells]at h;subst h;exact .int _ _
  ·have h2:(flat (l.map obV))[i-5]? =some c:=by
    rw[List.getElem?_append_right (by simp[obV,V.cells];omega)]at h
    simpa[obV,V.cells]using h
   have:=Qu (w:=w) (G:=G) l (i-5) c h2
   have hg:(obC x++obsC l).getD i undef=(obsC l).getD (i-5) undef:=by
    simp only[List.getD_eq_getElem?_getD]
    rw[List.getElem?_append_right (by simp[obC];omega)]
    simp[obC]
   rw[hg]
   exact this
theorem Z1k(l:List Ob): ∀x∈l.map obV,V.fits 5 x:=by
 intro x hx
 obtain⟨o,_,rfl⟩:=List.mem_map.1 hx
 exact⟨rfl,fun c hc=>by simp[obV,V.cells]at hc;rcases hc with rfl|rfl|rfl|rfl|rfl<;>rfl⟩
theorem Z0j{w:World}{G:Nat→Prop}{B:Nat}{e:TypeId}{v:Value}{l:List Ob}(h:w.ownsRow B e 5 v l.length (obsC l))(hG: ∀c,B≤c→c<w.heap.size→G c):Rd w G (.sl (l.map obV)) v:=by
 have hlen:(obsC l).length=l.length*5:=h.1
 rcases h.2 with ⟨rfl,h0⟩ | ⟨g,cap,cur,rfl,hb,hg,hnc,hcm,_⟩
 ·have:l= []:=List.length_eq_zero_iff.1 h0
  subst this
  exact .nil _ _ (by unfold maxLen;omega)
 ·have:=Rd.sl (w:=w) (G:=G) (l.map obV) g 0 cap 5 (fun i=>(obsC l).getD i undef) (by simpa using hnc) hcm (hG g hb (Zj hg)) (Z1k l) (fun i hi=>by
    have hi':i< (obsC l).length:=by rw[hlen];simpa using hi
    rw[Nat.zero_add,h.cellAt i (by rw[←hlen];exact hi')]
    simp[hi']) (fun i c hc=>Qu l i c hc)
  simpa using this
theorem Z3k{ws:List Int}{shs:List (Int×Int)}{old:Bool}{K:Nat→World→Prop}{n:Int}{xs:List Ob}{W:World}(h0:shs= [])(h:(n=0∧endS ws shs old K xs W)∨((n=2∨n=3)∧xs= []∧Zg ws shs old=([],n))):Zg ws shs old=(xs,n):=by
 subst h0
 rcases h with ⟨rfl,t,_,h⟩ | ⟨_,rfl,h⟩
 ·rw[h,if_neg (by simp)]
 ·exact h
theorem Z10:QS:=by
 intro ws hl hu
 refine⟨by kernel_rfl,fun w G vs hG hsz hvs=> ?_⟩
 have r0:=hvs 0 _ rfl
 obtain⟨⟨l⟩⟩:=vs
 ·simp at hsz
 rename_i v0 l
 cases l with
 |cons _ _=>simp at hsz
 |nil=>
  simp at r0
  obtain⟨g,o,cap,hw,hsv,hg1,hg2⟩:=TR r0 hG hl hu (w.heap.size+1)
  have hk:=QX (w:=w) (shs:= []) (old:=false) (bt:=none) (K:=fun t _=>t=0) hw hsv ⟨hg1,by omega,by omega⟩ (.inl rfl) (by simp) (by simp) Z0R rfl (fun t A B row h _ _=>h) (fun bl base t A B _ _ h _=>h)
  obtain⟨sa,sn,sc,rfl⟩: ∃a n c,v0= .slice a n c:=by
   rcases hsv with rfl| ⟨_,a,c,rfl⟩
   ·exact⟨_,_,_,rfl⟩
   ·exact⟨_,_,_,rfl⟩
  have HK:=Lib.hid hk
  clear hk hw hsv r0 hvs
  go_enter Tryz.func101,Tryz.ntmps101
  go_wp2_with (go_at_call 114;refine HK.out.mono ?_;rintro e w1 ⟨v,n,xs,rfl,hgr,hrow,hE⟩;have HR:=Lib.hid (And.intro hgr (And.intro hrow hE));clear hgr hrow hE)
  obtain⟨hgr,hrow,hE⟩:=HR.out
  have hW:=Z3k rfl hE
  refine bodyPost_ret (v:= .tuple #[v,.int .i64 n]) (by simp[results,Tryz.results101,go_sem]) rfl ⟨_,rfl,(Below.refl _ w).grown hgr (Nat.le_refl _) (fun j e=>by cases e),?_⟩
  rw[hW]
  refine .tup _ _ rfl ?_
  intro i y hy
  match i,hy with
  |0,hy=>cases hy;exact Z0j hrow fun c h1 h2=> .inr ⟨by omega,h2⟩
  |1,hy=>cases hy;exact .int _ _
theorem KpW.cell{bl base:Nat}{A B:World}(h:KpW bl base A B){k i:Nat}{c:Value}(hc:A.cell? ⟨k,i,none⟩=some c)(hk:k<base)(hn:k≠bl):B.cell? ⟨k,i,none⟩=some c:=by
 have hc2:=hc
 unfold World.cell? at hc
 cases hh:A.heap[k]? with
 |none=>simp[hh]at hc
 |some ob=>
  have hob:ob.isCells=true:=by
   rw[hh]at hc
   cases ob<;>simp_all [Obj.isCells]
  rw[←hc2]
  exact World.cell?_of_block (a:=⟨k,i,none⟩) ((h.same k ob hh hob hn (.inl hk)).trans hh.symm)
theorem KOld.grown{shs:List (Int×Int)}{bt bs t n:Nat}{v:Value}{A B:World}{row:Option Nat}(h:KOld shs bt bs v t A)(hg:A.grownBy B row)(hbt:bt<n)(hbs:bs<n)(hv:shs≠ []→ ∀g o cap,v= .slice (some ⟨g,o,none⟩) shs.length cap→g<n)(hr: ∀r,row=some r→n≤r):KOld shs bt bs v t B:=by
 obtain⟨h1,h2,h3⟩:=h
 exact⟨(hg.block _ (Zj h1) (fun e=>by have:=hr _ e.symm;omega)).trans h1,h2.grown hg (fun e=>by have:=hr _ e.symm;omega) (fun hn g o cap e e2=>by have:=hr _ e2.symm;have:=hv hn _ _ _ e;omega),h3⟩
theorem KOld.kp{shs:List (Int×Int)}{bt bs t n bl base:Nat}{v:Value}{A B:World}(h:KOld shs bt bs v t A)(hg:KpW bl base A B)(hbt:bt<n)(hbs:bs<n)(hv:shs≠ []→ ∀g o cap,v= .slice (some ⟨g,o,none⟩) shs.length cap→g<n)(h1:n≤bl)(h2:n≤base):KOld shs bt bs v t B:=by
 obtain⟨k1,⟨k2,k3⟩,k4⟩:=h
 refine⟨hg.same _ _ k1 rfl (by omega) (.inl (by omega)),⟨hg.same _ _ k2 rfl (by omega) (.inl (by omega)),?_⟩,k4⟩
 rcases k3 with ⟨g,o,cap,rfl,a1,a2,a3,a4⟩ |h
 ·refine .inl ⟨g,o,cap,rfl,a1,a2,Nat.lt_of_lt_of_le a3 hg.size,fun i x hx=> ?_⟩
  have:=hv (fun e=>by rw[e]at hx;simp at hx) _ _ _ rfl
  exact⟨hg.cell (a4 i x hx).1 (by omega) (by omega),hg.cell (a4 i x hx).2 (by omega) (by omega)⟩
 ·exact .inr h
theorem Words.below2{w W:World}{ws:List Int}{g o cap:Nat}(h:Words w ws g o cap)(hs:ws≠ []→g<w.heap.size)(hb:Below w.heap.size w W):Words W ws g o cap:=
 ⟨fun i x hx=>by rw[hb.cell (p:=⟨g,o+i,none⟩) (hs (fun e=>by rw[e]at hx;simp at hx))];exact h.at_ i x hx,h.le,h.cap,h.len,h.u64⟩
theorem zw:WB:=by
 intro ws shs hl hsl hu hsh
 refine⟨by kernel_rfl,fun w G vs hG hsz hvs=> ?_⟩
 have r0:=hvs 0 _ rfl
 have r1:=hvs 1 _ rfl
 obtain⟨⟨l⟩⟩:=vs
 ·simp at hsz
 rename_i v0 l
 cases l with
 |nil=>simp at hsz
 |cons v1 l=>
 cases l with
 |cons _ _=>simp at hsz
 |nil=>
  simp at r0 r1
  obtain⟨g,o,cap,hw,hsv,hg1,hg2⟩:=TR r0 hG hl hu (w.heap.size+3)
  have hv1:=zb r1 hG
  obtain⟨sa,sn,sc,rfl⟩: ∃a n c,v0= .slice a n c:=by
   rcases hsv with rfl| ⟨_,a,c,rfl⟩
   ·exact⟨_,_,_,rfl⟩
   ·exact⟨_,_,_,rfl⟩
  obtain⟨ta,tc,rfl⟩: ∃a c,v1= .slice a shs.length c:=by
   rcases hv1 with ⟨_,_,_,rfl,_⟩ | ⟨a,c,rfl,rfl⟩
   ·exact⟨_,_,rfl⟩
   ·exact⟨_,_,rfl⟩
  have b0:((w.alloc (.cells #[.slice ta shs.length tc] 156)).alloc (.cells #[.int .i64 0] 3)).heap[w.heap.size]? =some (.cells #[.slice ta shs.length tc] 156 (0,0)):=(Below.heap_alloc _ _ _ (by simp)).trans (heap_alloc_new w _)
  have b1:((w.alloc (.cells #[.slice ta shs.length tc] 156)).alloc (.cells #[.int .i64 0] 3)).heap[w.heap.size+1]? =some (.cells #[.int .i64 0] 3 (0,0)):=by
   have:=heap_alloc_new (w.alloc (.cells #[.slice ta shs.length tc] 156)) (.cells #[.int .i64 0] 3)
   simpa using this
  have hB1:Below w.heap.size w ((w.alloc (.cells #[.slice ta shs.length tc] 156)).alloc (.cells #[.int .i64 0] 3)):=((Below.refl _ w).alloc (Nat.le_refl _) _).alloc (by simp) _
  have hsz1:((w.alloc (.cells #[.slice ta shs.length tc] 156)).alloc (.cells #[.int .i64 0] 3)).heap.size=w.heap.size+2:=by simp
  have hgb:shs≠ []→ ∀g o cap,Value.slice ta shs.length tc= .slice (some ⟨g,o,none⟩) shs.length cap→g<w.heap.size:=by
   intro hn g o cap e
   rcases hv1 with ⟨g1,o1,c1,e1,_,_,h4,_⟩ | ⟨_,_,_,h⟩
   ·rw[e]at e1;cases e1;exact h4
   ·exact absurd h hn
  have hk:Calls Tryz.prog 114 #[.slice sa sn sc,.func (.func 115) #[] #[.pointer (some ⟨w.heap.size+1,0,none⟩),.pointer (some ⟨w.heap.size,0,none⟩)]] ((w.alloc (.cells #[.slice ta shs.length tc] 156)).alloc (.cells #[.int .i64 0] 3))
    (yY ((w.alloc (.cells #[.slice ta shs.length tc] 156)).alloc (.cells #[.int .i64 0] 3)) ws shs true (some (w.heap.size+1)) (KOld shs (w.heap.size+1) w.heap.size (.slice ta shs.length tc))):=by
   generalize hW1:(w.alloc (.cells #[.slice ta shs.length tc] 156)).alloc (.cells #[.int .i64 0] 3)=W1 at*
   have hgb1:shs≠ []→ ∀g o cap,Value.slice ta shs.length tc= .slice (some ⟨g,o,none⟩) shs.length cap→g<W1.heap.size:=fun hn g o cap e=>by have:=hgb hn g o cap e;omega
   refine QX (hw.below2 hg1 hB1) hsv ⟨fun h=>by have:=hg1 h;omega,by omega,by omega⟩ (.inr ⟨_,_,rfl⟩) (fun r e=>by cases e;omega) (fun e=>by cases e;omega) (Z1l hsl (by omega) (fun hn g o cap e=>by have:=hgb hn g o cap e;omega)) ⟨b1,⟨b0,?_⟩,by omega⟩ (fun t A B row h hg hr=>h.grown hg (n:=W1.heap.size) (by omega) (by omega) hgb1 hr) (fun bl base t A B h1 h2 h hk=>h.kp hk (n:=W1.heap.size) (by omega) (by omega) hgb1 h1 h2)
   rcases hv1 with ⟨g1,o1,c1,e1,a1,a2,a3,a4⟩ | ⟨a,c,e1,h⟩
   ·exact .inl ⟨g1,o1,c1,e1,a1,a2,by omega,fun i x hx=>⟨(hB1.cell (p:=⟨g1,o1+i*2,none⟩) a3).trans (a4 i x hx).1,(hB1.cell (p:=⟨g1,o1+i*2+1,none⟩) a3).trans (a4 i x hx).2⟩⟩
   ·exact .inr ⟨a,c,e1,h⟩
  have hrd: ∀w1 v n (xs:List Ob),(v= .slice none 0 0∧xs= []∨w1.ownsRow (w.heap.size+6) 78 5 v xs.length (obsC xs))→Zg ws shs true=(xs,n)→Rd w1 (fun b=>true=false∧G b∨w.heap.size≤b∧b<w1.heap.size) (.tup [.sl ((Zg ws shs true).1.map obV),vi (Zg ws shs true).2]) (.tuple #[v,.int .i64 n]):=by
   intro w1 v n xs hrow hW
   rw[hW]
   refine .tup _ _ rfl ?_
   intro i y hy
   match i,hy with
   |0,hy=>
    cases hy
    rcases hrow with ⟨rfl,rfl⟩ |hrow
    ·exact .nil _ _ (by unfold maxLen;omega)
    ·exact Z0j hrow fun c h1 h2=> .inr ⟨by omega,h2⟩
   |1,hy=>cases hy;exact .int _ _
  have hk2:Calls Tryz.prog 114 #[.slice sa sn sc,.func (.func 115) #[] #[.pointer (some ⟨w.heap.size+1,0,none⟩),.pointer (some ⟨w.heap.size,0,none⟩)]] ((w.alloc (.cells #[.slice ta shs.length tc] 156)).alloc (.cells #[.int .i64 0] 3)) fun e w1=>
    (∃(v:Value) (t:Nat),e= .returned (.tuple #[v,.int .i64 0])∧w1.cell? ⟨w.heap.size+1,0,none⟩=some (.int .i64 t)∧w1.cell? ⟨w.heap.size,0,none⟩=some (.slice ta shs.length tc)∧(t:Int) <shs.length∧Hid (Below w.heap.size w w1∧Rd w1 (fun b=>true=false∧G b∨w.heap.size≤b∧b<w1.heap.size) (.tup [.sl ((Zg ws shs true).1.map obV),vi (Zg ws shs true).2]) (.tuple #[.slice none 0 0,.int .i64 3])))∨
    (∃(v:Value) (t:Nat),e= .returned (.tuple #[v,.int .i64 0])∧w1.cell? ⟨w.heap.size+1,0,none⟩=some (.int .i64 t)∧w1.cell? ⟨w.heap.size,0,none⟩=some (.slice ta shs.length tc)∧ ¬(t:Int) <shs.length∧Hid (Below w.heap.size w w1∧Rd w1 (fun b=>true=false∧G b∨w.heap.size≤b∧b<w1.heap.size) (.tup [.sl ((Zg ws shs true).1.map obV),vi (Zg ws shs true).2]) (.tuple #[v,.int .i64 0])))∨
    (∃(v:Value) (n:Int),e= .returned (.tuple #[v,.int .i64 n])∧ ¬n=0∧Hid (Below w.heap.size w w1∧Rd w1 (fun b=>true=false∧G b∨w.heap.size≤b∧b<w1.heap.size) (.tup [.sl ((Zg ws shs true).1.map obV),vi (Zg ws shs true).2]) (.tuple #[.slice none 0 0,.int .i64 n]))):=by
   refine hk.mono ?_
   rintro e w1 ⟨v,n,xs,rfl,hgr,hrow,hE⟩
   rw[hsz1]at hrow
   have hB:Below w.heap.size w w1:=hB1.trans ((Below.refl _ _).grown hgr (by rw[hsz1];omega) (fun j e=>by cases e;omega))
   rcases hE with ⟨rfl,t,⟨hb,hs,ht⟩,hWk⟩ | ⟨hn,rfl,hWk⟩
   ·have q1:w1.cell? ⟨w.heap.size+1,0,none⟩=some (.int .i64 t):=by rw[cell_of_row _ _ _ _ _ _ hb];rfl
    have q2:w1.cell? ⟨w.heap.size,0,none⟩=some (.slice ta shs.length tc):=by rw[cell_of_row _ _ _ _ _ _ hs.box];rfl
    by_cases hlt:t<shs.length
    ·rw[if_pos hlt]at hWk
     exact .inl ⟨v,t,rfl,q1,q2,by omega,Lib.hid ⟨hB,hrd w1 _ _ [] (.inl ⟨rfl,rfl⟩) hWk⟩⟩
    ·rw[if_neg hlt]at hWk
     exact .inr (.inl ⟨v,t,rfl,q1,q2,by omega,Lib.hid ⟨hB,hrd w1 _ _ xs (.inr hrow) hWk⟩⟩)
   ·exact .inr (.inr ⟨v,n,rfl,by omega,Lib.hid ⟨hB,hrd w1 _ _ [] (.inl ⟨rfl,rfl⟩) hWk⟩⟩)
  have HK:=Lib.hid hk2
  clear hw hsv r0 r1 hvs hv1 hg1 hg2 hk hk2 hB1 b0 b1 hgb hsz1 hrd
  go_enter Tryz.func103,Tryz.ntmps103
  have hmf: ∀(fn:Go.Fn) (first cap:Array Value) (w:World),(Instr.makeFunc fn first cap).run Tryz.prog w= .ok (.func fn first cap) w:=fun _ _ _ _=>rfl
  go_wp2_with (go_at_call 114;refine HK.out.mono ?_;rintro e w1 (⟨v,t,rfl,q1,q2,hlt,HF⟩ | ⟨v,t,rfl,q1,q2,hlt,HF⟩ | ⟨v,n,rfl,hn,HF⟩))
  ·refine bodyPost_ret (v:= .tuple #[.slice none 0 0,.int .i64 3]) (by simp[results,Tryz.results103,go_sem]) rfl ⟨_,rfl,HF.out.1,HF.out.2⟩
  ·refine bodyPost_ret (v:= .tuple #[v,.int .i64 0]) (by simp[results,Tryz.results103,go_sem]) rfl ⟨_,rfl,HF.out.1,HF.out.2⟩
  ·refine bodyPost_ret (v:= .tuple #[.slice none 0 0,.int .i64 n]) (by simp[results,Tryz.results103,go_sem]) rfl ⟨_,rfl,HF.out.1,HF.out.2⟩
end Vm
namespace Vm
open Go Go.Proofs Go.RowKit
set_option maxHeartbeats 1000000
set_option maxRecDepth 100000
end Vm
end
section

end
section
namespace Vm
open Go Go.Proofs
set_option maxRecDepth 100000
set_option maxHeartbeats 1000000
theorem Z2g{h:Hp}(hh:h.ok):VC Tryz.prog 26 false [hpV h] (.bool (ZY h)):=by
 rw[←(Lo h).1]
 exact zU Z10 zw hh
end Vm
end
section
namespace Vm
open Go Go.Proofs
set_option maxRecDepth 100000
set_option maxHeartbeats 1000000
structure Hp.raw (h:Hp):Prop where
 base:U64 h.base
 cap:Fit h.cap
 to:Fit h.to
 scan:Fit h.scan
 len: ∀k,(Z5 h k).length≤9223372036854775807
 roots:h.roots.length≤9223372036854775807
 words: ∀k,∀w∈Z5 h k,U64 w
 rootsW: ∀w∈h.roots,U64 w
def fewN(h:Hp):Nat→Hp
 |0=>h
 |k+1=>Ym (fewN h k) ((k+1:Nat):Int) ((Z5 (fewN h k) ((k+1:Nat):Int)).take 12)
theorem qu{l:List Int}{k:Nat}{K:Int} [inst:Decidable (K< (l.length:Int))](h:K=k):slcV 1 (.sl (l.map vu)) (.int .i64 0) (.int .i64 (if K< (l.length:Int)then K else(l.length:Int)))=some (.sl ((l.take k).map vu)):=by
 have e:(if K< (l.length:Int)then K else(l.length:Int))=((min l.length k:Nat):Int):=by split<;>omega
 rw[e]
 have:=Ky (k:= .i64) (l:=l.map vu) 0 (min l.length k) 1
 rw[show((0:Nat):Int)=0 from rfl]at this
 rw[this,if_pos ⟨by omega,by simp;omega,X7 fun _=>rfl⟩]
 congr 2
 rw[List.drop_zero,←List.map_take]
 congr 1
 rw[List.take_eq_take_iff]
 omega
theorem Z2R{h:Hp}(ho:h.raw):({fewN h 4 with roots:=h.roots.take 20}:Hp).ok:=by
 have w1:=ho.words 1
 have w2:=ho.words 2
 have w3:=ho.words 3
 have w4:=ho.words 4
 have e:({fewN h 4 with roots:=h.roots.take 20}:Hp)= {h with low:=h.low.take 12,high:=h.high.take 12,old:=h.old.take 12,far:=h.far.take 12,roots:=h.roots.take 20}:=by rfl
 rw[e]
 exact⟨ho.base,ho.cap,ho.to,ho.scan,by simp;omega,by simp;omega,by simp;omega,by simp;omega,by simp;omega,fun w hw=>w1 w (List.mem_of_mem_take hw),fun w hw=>w2 w (List.mem_of_mem_take hw),fun w hw=>w3 w (List.mem_of_mem_take hw),fun w hw=>w4 w (List.mem_of_mem_take hw),fun w hw=>ho.rootsW w (List.mem_of_mem_take hw)⟩
end Vm
end
section
namespace Vm
open Go Go.Proofs
set_option maxRecDepth 100000
theorem Z4W{n:Nat}{x:V}(h:tyV Tryz.prog (n+1) 4 x): ∃b,x= .bool b:=
 Z15 Tryz.underlying4 h
theorem Z4m{n:Nat}{x:V}(h:tyV Tryz.prog (n+3) 25 x): ∃r:Hp,x=hpV r∧r.raw:=by
 obtain⟨ys,rfl,hl,hf⟩:=Tc Tryz.underlying25 h
 match ys,hl with
 | [a,b,c,d,e,f,g,i,j,k],_=>
   obtain⟨a,rfl,h0⟩:=jf (hf 0 _ a rfl rfl)
   obtain⟨b,rfl,h1⟩:=Sj (hf 1 _ b rfl rfl)
   obtain⟨c,rfl,h2⟩:=Sj (hf 2 _ c rfl rfl)
   obtain⟨d,rfl⟩:=Z4W (hf 3 _ d rfl rfl)
   obtain⟨e,rfl,h4⟩:=Sj (hf 4 _ e rfl rfl)
   obtain⟨f,rfl,l5,h5⟩:=SA (hf 5 _ f rfl rfl)
   obtain⟨g,rfl,l6,h6⟩:=SA (hf 6 _ g rfl rfl)
   obtain⟨i,rfl,l7,h7⟩:=SA (hf 7 _ i rfl rfl)
   obtain⟨j,rfl,l8,h8⟩:=SA (hf 8 _ j rfl rfl)
   obtain⟨k,rfl,l9,h9⟩:=SA (hf 9 _ k rfl rfl)
   unfold maxLen at l5 l6 l7 l8 l9
   refine⟨⟨a,b,c,d,e,f,g,i,j,k⟩,rfl,h0,h1,h2,h4,fun q=> ?_,l9,fun q=> ?_,h9⟩
   ·unfold Z5
    split
    ·exact l5
    split
    ·exact l6
    split
    ·exact l7
    ·exact l8
   ·unfold Z5
    split
    ·exact h5
    split
    ·exact h6
    split
    ·exact h7
    ·exact h8
end Vm
end
