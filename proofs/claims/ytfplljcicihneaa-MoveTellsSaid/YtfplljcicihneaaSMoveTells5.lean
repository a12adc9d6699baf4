import Derived.RangeFuncNested
import Derived.RangeFuncBound
import Derived.RangeFuncLeaves
import Derived.Test.YtfplljcicihneaaChecked
import Derived.WalkKit
import Derived.WalkSpells
import Derived.WalkLawsBesides
import Derived.StillTailTactics
import Derived.Deep.RegionHeld3
import Derived.Deep.AppendLies
import Derived.Deep.Onto
import Derived.Deep.RegionLaw
import Derived.Deep.OwnRows
import Derived.Lib.Hide
import Derived.Lib.AppendZerosOnto
import Derived.Lib.SliceRun
import Derived.Laws.CopyOwn
import Derived.Recover
import Derived.OwnWalkIn
import Derived.TacticsInMore
import Derived.LoopNIn
import Derived.LoopIn
import Derived.Shelf.RegionOpen
import Derived.Test.YtfplljcicihneaaSMoveTells4
set_option linter.unusedSimpArgs false
set_option linter.unusedVariables false
section
namespace Vm
open Go Go.Proofs
set_option maxRecDepth 100000
set_option maxHeartbeats 1000000
theorem adr_u{w:Int}(hw:U64 w):U64 (adr w).1:=by
 unfold U64 adr at*
 split
 ·simp
 split
 ·simp
 ·simp only;omega
theorem sizL_layH{h:Hp}{k:Int}(hk:1≤k∧k≤4):sizL (layH h) k=(partH h k).length:=by
 have:k=1∨k=2∨k=3∨k=4:=by omega
 rcases this with rfl|rfl|rfl|rfl<;>rfl
def Hp.zero:Hp:=⟨0,0,0,false,0,[],[],[],[],[]⟩
def zr(ws:List Int)(a:Nat):Nat→List Int
 |0=>ws
 |i+1=>(zr ws a i).set (a+i) 0
@[simp] theorem zr_len(ws:List Int)(a n:Nat):(zr ws a n).length=ws.length:=by
 induction n with
 |zero=>rfl
 |succ n ih=>simp[zr,ih]
theorem addr_u{l:Ly}{k a:Int}:U64 (addrL l k a).1:=by
 unfold addrL
 cases hr:rightL l
 ·simp[U64]
 simp only[Bool.true_eq_false,if_false]
 split
 ·simp[U64]
 split
 ·simp[U64]
 ·have:=fstL_range hr k
  simp only[U64]
  omega
theorem addr_63{l:Ly}{k a:Int}:0≤(addrL l k a).1∧(addrL l k a).1<9223372036854775808:=by
 unfold addrL
 cases hr:rightL l
 ·simp
 simp only[Bool.true_eq_false,if_false]
 split
 ·simp
 split
 ·simp
 ·have:=fstL_range hr k
  simp only
  omega
end Vm
namespace Vm
open Go Go.Proofs
set_option maxRecDepth 100000
set_option maxHeartbeats 1000000
def i6V(a b c d e f:Int):V:= .agg [vi a,vi b,vi c,vi d,vi e,vi f]
@[simp] theorem ai6_0(k:IntKind)(a b c d e f:Int):aiV (.agg [.int k a,.int k b,.int k c,.int k d,.int k e,.int k f]) (.int .i64 0) 6 1 false=some (.int k a):=rfl
@[simp] theorem ai6b_0(a b c d e f:Bool):aiV (.agg [.bool a,.bool b,.bool c,.bool d,.bool e,.bool f]) (.int .i64 0) 6 1 false=some (.bool a):=rfl
@[simp] theorem ai6_1(k:IntKind)(a b c d e f:Int):aiV (.agg [.int k a,.int k b,.int k c,.int k d,.int k e,.int k f]) (.int .i64 1) 6 1 false=some (.int k b):=rfl
@[simp] theorem ai6b_1(a b c d e f:Bool):aiV (.agg [.bool a,.bool b,.bool c,.bool d,.bool e,.bool f]) (.int .i64 1) 6 1 false=some (.bool b):=rfl
@[simp] theorem ai6_2(k:IntKind)(a b c d e f:Int):aiV (.agg [.int k a,.int k b,.int k c,.int k d,.int k e,.int k f]) (.int .i64 2) 6 1 false=some (.int k c):=rfl
@[simp] theorem ai6b_2(a b c d e f:Bool):aiV (.agg [.bool a,.bool b,.bool c,.bool d,.bool e,.bool f]) (.int .i64 2) 6 1 false=some (.bool c):=rfl
@[simp] theorem ai6_3(k:IntKind)(a b c d e f:Int):aiV (.agg [.int k a,.int k b,.int k c,.int k d,.int k e,.int k f]) (.int .i64 3) 6 1 false=some (.int k d):=rfl
@[simp] theorem ai6b_3(a b c d e f:Bool):aiV (.agg [.bool a,.bool b,.bool c,.bool d,.bool e,.bool f]) (.int .i64 3) 6 1 false=some (.bool d):=rfl
@[simp] theorem ai6_4(k:IntKind)(a b c d e f:Int):aiV (.agg [.int k a,.int k b,.int k c,.int k d,.int k e,.int k f]) (.int .i64 4) 6 1 false=some (.int k e):=rfl
@[simp] theorem ai6b_4(a b c d e f:Bool):aiV (.agg [.bool a,.bool b,.bool c,.bool d,.bool e,.bool f]) (.int .i64 4) 6 1 false=some (.bool e):=rfl
@[simp] theorem ai6_5(k:IntKind)(a b c d e f:Int):aiV (.agg [.int k a,.int k b,.int k c,.int k d,.int k e,.int k f]) (.int .i64 5) 6 1 false=some (.int k f):=rfl
@[simp] theorem ai6b_5(a b c d e f:Bool):aiV (.agg [.bool a,.bool b,.bool c,.bool d,.bool e,.bool f]) (.int .i64 5) 6 1 false=some (.bool f):=rfl
def lay7(base a b c d e f:Int):Ly:=
 let cap:=pick a 41
 let low:=pick c (cap+1)
 let old:=pick e (cap+1)
 ⟨1+base% (9223372036854775808-2*cap),cap,pick b 2,low,pick d (cap-low+1),old,pick f (cap-old+1)⟩
theorem lay7_ok(base a b c d e f:Int):rightL (lay7 base a b c d e f)=true∧(lay7 base a b c d e f).cap≤40:=by
 have p1:=pick_lt (c:=a) (n:=41) (by omega)
 have p2:=pick_lt (c:=b) (n:=2) (by omega)
 have p3:=pick_lt (c:=c) (n:=pick a 41+1) (by omega)
 have p4:=pick_lt (c:=d) (n:=pick a 41-pick c (pick a 41+1)+1) (by omega)
 have p5:=pick_lt (c:=e) (n:=pick a 41+1) (by omega)
 have p6:=pick_lt (c:=f) (n:=pick a 41-pick e (pick a 41+1)+1) (by omega)
 have m1:=Int.emod_nonneg base (b:=9223372036854775808-2*pick a 41) (by omega)
 have m2:=Int.emod_lt_of_pos base (b:=9223372036854775808-2*pick a 41) (by omega)
 refine⟨rightL_iff.2 ?_,by simp only[lay7];omega⟩
 simp only[lay7]
 omega
theorem lay7_vc{base a b c d e f:Int}(hb:U64 base)(ha:Fit a)(h2:Fit b)(hc:Fit c)(hd:Fit d)(he:Fit e)(hf:Fit f):
  VC Try.prog 48 false [vu base,i6V a b c d e f] (lyV (lay7 base a b c d e f)):=by
 refine vc_of_wp Try.func48 follows (by kernel_rfl) c48 rfl ?_
 have p1:=pick_lt (c:=a) (n:=41) (by omega)
 have p3:=pick_lt (c:=c) (n:=pick a 41+1) (by omega)
 have p4:=pick_lt (c:=d) (n:=pick a 41-pick c (pick a 41+1)+1) (by omega)
 have p5:=pick_lt (c:=e) (n:=pick a 41+1) (by omega)
 have p6:=pick_lt (c:=f) (n:=pick a 41-pick e (pick a 41+1)+1) (by omega)
 have m1:=Int.emod_nonneg base (b:=9223372036854775808-2*pick a 41) (by omega)
 have m2:=Int.emod_lt_of_pos base (b:=9223372036854775808-2*pick a 41) (by omega)
 unfold lay7
 have k1:=pick07_vc ha (n:=41) (by omega)
 have k2:=pick07_vc h2 (n:=2) (by omega)
 have k3:=pick07_vc hc (n:=pick a 41+1) (by omega)
 have k4:=pick07_vc hd (n:=pick a 41-pick c (pick a 41+1)+1) (by omega)
 have k5:=pick07_vc he (n:=pick a 41+1) (by omega)
 have k6:=pick07_vc hf (n:=pick a 41-pick e (pick a 41+1)+1) (by omega)
 simp only
 generalize pick a 41=cap at*
 generalize pick c (cap+1)=low at*
 generalize pick e (cap+1)=old at*
 have w1:=wrap_i (cap+1) (by omega) (by omega)
 have w2:=wrap_i (cap-low) (by omega) (by omega)
 have w3:=wrap_i (cap-low+1) (by omega) (by omega)
 have w4:=wrap_i (cap-old) (by omega) (by omega)
 have w5:=wrap_i (cap-old+1) (by omega) (by omega)
 have u0:=wrap_u cap (by omega) (by omega)
 have u1:=wrap_u (2*cap) (by omega) (by omega)
 have u2:=wrap_u (9223372036854775808-2*cap) (by omega) (by omega)
 have u3:=wrap_u (1+base% (9223372036854775808-2*cap)) (by omega) (by omega)
 have hne: ¬(9223372036854775808-2*cap=0):=by omega
 have hbb:=hb.1
 have u4:base.tmod (9223372036854775808-2*cap)=base% (9223372036854775808-2*cap):=Int.tmod_eq_emod_of_nonneg hbb
 simp[p48,i6V]
 refine callW_of k1 (by simp) ?_
 simp
 refine callW_of k2 (by simp) ?_
 simp[u0,u1,u2,u3,u4,hne,w1]
 refine callW_of k3 (by simp) ?_
 simp[w2,w3]
 refine callW_of k4 (by simp) ?_
 simp[w1]
 refine callW_of k5 (by simp) ?_
 simp[w4,w5]
 refine callW_of k6 (by simp) ?_
 simp[lyV]
end Vm
namespace Vm
open Go Go.Proofs
set_option maxRecDepth 100000
set_option maxHeartbeats 1000000
def turned(h:Hp)(which x w:Int):Hp:=
 if pick (which.tdiv 4) 11=0 then {h with cycle:= !h.cycle}
 else if pick (which.tdiv 4) 11=1 then {h with scan:=x}
 else if pick (which.tdiv 4) 11=2 then {h with cap:=x}
 else if pick (which.tdiv 4) 11=3 then {h with to:=x}
 else if pick (which.tdiv 4) 11=4 then {h with roots:=h.roots++ [w]}
 else if pick (which.tdiv 4) 11=5 then withH h (1+pick which 4) (partH h (1+pick which 4)++ [w])
 else if pick (which.tdiv 4) 11=6 then withH h (1+pick which 4) ((partH h (1+pick which 4)).take (pick x ((partH h (1+pick which 4)).length+1)).toNat)
 else if partH h (1+pick which 4)= []then h
 else withH h (1+pick which 4) ((partH h (1+pick which 4)).set (pick x (partH h (1+pick which 4)).length).toNat w)
theorem withH_ok{h:Hp}(hh:h.ok){k:Int}{l:List Int}(h1:l.length≤1000000)(h2: ∀w∈l,U64 w):(withH h k l).ok:=by
 obtain⟨a1,a2,a3,a4,a5,a6,a7,a8,a9,b1,b2,b3,b4,b5⟩:=hh
 unfold withH
 split
 ·exact⟨a1,a2,a3,a4,h1,a6,a7,a8,a9,h2,b2,b3,b4,b5⟩
 split
 ·exact⟨a1,a2,a3,a4,a5,h1,a7,a8,a9,b1,h2,b3,b4,b5⟩
 split
 ·exact⟨a1,a2,a3,a4,a5,a6,h1,a8,a9,b1,b2,h2,b4,b5⟩
 ·exact⟨a1,a2,a3,a4,a5,a6,a7,h1,a9,b1,b2,b3,h2,b5⟩
theorem turned_ok{h:Hp}(hh:h.ok)(hs: ∀k,(partH h k).length≤999999)(hro:h.roots.length≤999999){which x w:Int}(hx:Fit x)(hw:U64 w):(turned h which x w).ok:=by
 have hp:=partH_ok hh (1+pick which 4)
 have hs:=hs (1+pick which 4)
 have hho:=hh
 obtain⟨a1,a2,a3,a4,a5,a6,a7,a8,a9,b1,b2,b3,b4,b5⟩:=hh
 unfold turned
 split
 ·exact⟨a1,a2,a3,a4,a5,a6,a7,a8,a9,b1,b2,b3,b4,b5⟩
 split
 ·exact⟨a1,a2,a3,hx,a5,a6,a7,a8,a9,b1,b2,b3,b4,b5⟩
 split
 ·exact⟨a1,hx,a3,a4,a5,a6,a7,a8,a9,b1,b2,b3,b4,b5⟩
 split
 ·exact⟨a1,a2,hx,a4,a5,a6,a7,a8,a9,b1,b2,b3,b4,b5⟩
 split
 ·refine⟨a1,a2,a3,a4,a5,a6,a7,a8,by simp;omega,b1,b2,b3,b4,?_⟩
  intro v hv
  rcases List.mem_append.1 hv with hv|hv
  ·exact b5 v hv
  ·simp at hv;subst hv;exact hw
 split
 ·refine withH_ok hho (by simp;omega) ?_
  intro v hv
  rcases List.mem_append.1 hv with hv|hv
  ·exact hp.1 v hv
  ·simp at hv;subst hv;exact hw
 split
 ·exact withH_ok hho (by simp;omega) fun v hv=>hp.1 v (List.mem_of_mem_take hv)
 split
 ·exact hho
 ·refine withH_ok hho (by simp;omega) fun v hv=> ?_
  rcases List.mem_or_eq_of_mem_set hv with hv|hv
  ·exact hp.1 v hv
  ·subst hv;exact hw
theorem tdiv4_fit{c:Int}(h:Fit c):Fit (c.tdiv 4):=by
 unfold Fit at*
 rcases Int.le_total 0 c with h0|h0
 ·rw[Int.tdiv_eq_ediv_of_nonneg h0];omega
 ·have e:c= -(-c):=by omega
  have:c.tdiv 4= -((-c) / 4):=by
   conv=>lhs;rw[e]
   rw[Int.neg_tdiv,Int.tdiv_eq_ediv_of_nonneg (by omega)]
  omega
theorem Turned_vc{h:Hp}(hh:h.ok){which x w:Int}(hwh:Fit which)(hx:Fit x):VC Try.prog 18 false [hpV h,vi which,vi x,vu w] (hpV (turned h which x w)):=by
 refine vc_of_wp Try.func18 follows (by kernel_rfl) c18 rfl ?_
 have hpk:=pick_lt (c:=which) (n:=4) (by omega)
 have hq:Fit (which.tdiv 4):=by
  exact tdiv4_fit hwh
 have hpl:=(partH_ok hh (1+pick which 4)).2
 unfold turned
 simp[p18]
 refine callW_of (pick11_vc hwh (n:=4) (by omega)) (by simp) ?_
 have w1:=wrap_i (1+pick which 4) (by omega) (by omega)
 have w2:=wrap_i (which.tdiv 4) (by unfold Fit at hq;omega) (by unfold Fit at hq;omega)
 simp[w1]
 refine callW_of (Part_vc (h:=h) (n:=1+pick which 4)) (by simp[hpV]) ?_
 have k5:=fun l=>With_vc (h:=h) (n:=1+pick which 4) (l:=l)
 generalize partH h (1+pick which 4)=l at*
 generalize 1+pick which 4=part at*
 have hlim:l.length+1≤lim:=by unfold lim;omega
 have hlim':l.length≤lim:=by unfold lim;omega
 have hrl:h.roots.length+1≤lim:=by have:=hh.roots;unfold lim;omega
 have hrl':h.roots.length≤lim:=by omega
 simp[hlim',w2]
 refine callW_of (pick11_vc hq (n:=11) (by omega)) (by simp) ?_
 generalize pick (which.tdiv 4) 11=q at*
 unfold hpV at k5
 by_cases h0:q=0
 ·simp[h0,hpV]
 by_cases h1:q=1
 ·simp[h1,hpV]
 by_cases h2:q=2
 ·simp[h2,hpV]
 by_cases h3:q=3
 ·simp[h3,hpV]
 by_cases h4:q=4
 ·simp[h4,hpV,hrl,hrl']
 by_cases h5:q=5
 ·have k6:=k5 (l++ [w])
  simp at k6
  simp[h5,hlim]
  refine callW_of k6 (by simp) ?_
  simp[hpV]
 by_cases h6:q=6
 ·have hpp:=pick_lt (c:=x) (n:=(l.length:Int)+1) (by omega)
  have w3:=wrap_i ((l.length:Int)+1) (by omega) (by omega)
  simp[h6,w3]
  refine callW_of (pick11_vc hx (n:=(l.length:Int)+1) (by omega)) (by simp) ?_
  obtain⟨m,hm⟩:=Int.eq_ofNat_of_zero_le hpp.1
  rw[hm]at hpp⊢
  have k6:=k5 (l.take m)
  simp at k6
  simp[show m≤l.length by omega]
  refine callW_of k6 (by simp) ?_
  simp[hpV]
 simp[h0,h1,h2,h3,h4,h5,h6]
 by_cases h7:l= []
 ·simp[h7,hpV]
 ·have hpos:0<l.length:=List.length_pos_iff.2 h7
  have hpp:=pick_lt (c:=x) (n:=(l.length:Int)) (by omega)
  simp[h7,hpos]
  refine callW_of (pick11_vc hx (n:=(l.length:Int)) (by omega)) (by simp) ?_
  obtain⟨m,hm⟩:=Int.eq_ofNat_of_zero_le hpp.1
  rw[hm]at hpp⊢
  have k6:=k5 (l.set m w)
  simp at k6
  simp[show m<l.length by omega]
  refine callW_of k6 (by simp) ?_
  simp[hpV]
end Vm
end
section
namespace Vm
open Go Go.Proofs
set_option maxRecDepth 100000
theorem ty_vi{n:Nat}{x:V}(h:tyV Try.prog (n+1) 3 x): ∃m,x=vi m∧Fit m:=by
 obtain⟨m,rfl,h1,h2⟩:=ty_int Try.underlying3 h
 exact⟨m,rfl,h1,h2⟩
theorem ty_vu{n:Nat}{x:V}(h:tyV Try.prog (n+1) 24 x): ∃m,x=vu m∧U64 m:=by
 obtain⟨m,rfl,h1,h2⟩:=ty_int Try.underlying24 h
 exact⟨m,rfl,h1,Int.lt_of_le_of_lt h2 (by decide)⟩
theorem ty_vis{n:Nat}{x:V}(h:tyV Try.prog (n+2) 23 x): ∃l:List Int,x= .sl (l.map vi)∧l.length≤maxLen∧ ∀p∈l,Fit p:=
 ty_slice Try.underlying23 h fun y hy=>ty_vi hy
theorem ty_vus{n:Nat}{x:V}(h:tyV Try.prog (n+2) 28 x): ∃l:List Int,x= .sl (l.map vu)∧l.length≤maxLen∧ ∀p∈l,U64 p:=
 ty_slice Try.underlying28 h fun y hy=>ty_vu hy
def Nd.fits(x:Nd):Prop:=(x.ptrs.length≤maxLen∧ ∀p∈x.ptrs,Fit p)∧x.data.length≤maxLen∧ ∀p∈x.data,U64 p
theorem ty_raw{n:Nat}{x:V}(h:tyV Try.prog (n+3) 161 x): ∃a:Nd,x=ndV a∧a.fits:=by
 obtain⟨ys,rfl,hl,hf⟩:=ty_struct Try.underlying161 h
 match ys,hl with
 | [a,b],_=>
   obtain⟨ps,rfl,h1,h2⟩:=ty_vis (hf 0 _ a rfl rfl)
   obtain⟨ds,rfl,h3,h4⟩:=ty_vus (hf 1 _ b rfl rfl)
   exact⟨⟨ps,ds⟩,rfl,⟨h1,h2⟩,h3,h4⟩
theorem ty_raws{n:Nat}{x:V}(h:tyV Try.prog (n+4) 22 x): ∃l:List Nd,x= .sl (l.map ndV)∧l.length≤maxLen∧ ∀a∈l,a.fits:=
 ty_slice Try.underlying22 h fun y hy=>ty_raw hy
theorem ty_rw{n:Nat}{x:V}(h:tyV Try.prog (n+5) 26 x): ∃r:Rw,x=rwV r∧r.ok:=by
 obtain⟨ys,rfl,hl,hf⟩:=ty_struct Try.underlying26 h
 match ys,hl with
 | [a,b,c,d,e,f,g],_=>
   obtain⟨ns,rfl,_,h0⟩:=ty_raws (hf 0 _ a rfl rfl)
   obtain⟨rs,rfl,_,h1⟩:=ty_vis (hf 1 _ b rfl rfl)
   obtain⟨cs,rfl,_,h2⟩:=ty_vis (hf 2 _ c rfl rfl)
   obtain⟨d,rfl,h3⟩:=ty_vu (hf 3 _ d rfl rfl)
   obtain⟨e,rfl,h4⟩:=ty_vi (hf 4 _ e rfl rfl)
   obtain⟨f,rfl,h5⟩:=ty_vi (hf 5 _ f rfl rfl)
   obtain⟨g,rfl,h6⟩:=ty_vi (hf 6 _ g rfl rfl)
   exact⟨⟨ns,rs,cs,d,e,f,g⟩,rfl,fun n hn p hp=>(h0 n hn).1.2 p hp,fun n hn p hp=>(h0 n hn).2.2 p hp,h1,h2,h3,h4,h5,h6⟩
theorem ty_i6{n:Nat}{x:V}(h:tyV Try.prog (n+2) 27 x): ∃a b c d e f:Int,x=i6V a b c d e f∧Fit a∧Fit b∧Fit c∧Fit d∧Fit e∧Fit f:=by
 obtain⟨ys,rfl,hl,hy⟩:=ty_array Try.underlying27 h
 match ys,hl with
 | [a,b,c,d,e,f],_=>
   obtain⟨a,rfl,ha⟩:=ty_vi (hy a (by simp))
   obtain⟨b,rfl,hb⟩:=ty_vi (hy b (by simp))
   obtain⟨c,rfl,hc⟩:=ty_vi (hy c (by simp))
   obtain⟨d,rfl,hd⟩:=ty_vi (hy d (by simp))
   obtain⟨e,rfl,he⟩:=ty_vi (hy e (by simp))
   obtain⟨f,rfl,hf⟩:=ty_vi (hy f (by simp))
   exact⟨a,b,c,d,e,f,rfl,ha,hb,hc,hd,he,hf⟩
theorem own:ownKnob Try.prog.godebug=none:=by kernel_rfl
theorem laidOut:laidOutB Try.prog=true:=by kernel_rfl
end Vm
end
section
namespace Vm
open Go Go.Proofs
set_option maxRecDepth 100000
theorem ty_ly{n:Nat}{x:V}(h:tyV Try.prog (n+2) 62 x): ∃l:Ly,x=lyV l∧l.fits:=by
 obtain⟨ys,rfl,hl,hf⟩:=ty_struct Try.underlying62 h
 match ys,hl with
 | [a,b,c,d,e,f,g],_=>
   obtain⟨a,rfl,h1⟩:=ty_vu (hf 0 _ a rfl rfl)
   obtain⟨b,rfl,h2⟩:=ty_vi (hf 1 _ b rfl rfl)
   obtain⟨c,rfl,h3⟩:=ty_vi (hf 2 _ c rfl rfl)
   obtain⟨d,rfl,h4⟩:=ty_vi (hf 3 _ d rfl rfl)
   obtain⟨e,rfl,h5⟩:=ty_vi (hf 4 _ e rfl rfl)
   obtain⟨f,rfl,h6⟩:=ty_vi (hf 5 _ f rfl rfl)
   obtain⟨g,rfl,h7⟩:=ty_vi (hf 6 _ g rfl rfl)
   exact⟨⟨a,b,c,d,e,f,g⟩,rfl,h1,h2,h3,h4,h5,h6,h7⟩
end Vm
end
section
namespace Vm
open Go
open Go.Proofs
set_option maxRecDepth 100000
def p3:Fn:=⟨31,[0,1,2,3,4,5,6,7,8,10,16,17,18,45,44,46,20,43,21,76,75,77,23,74,25,24,26,28,27,29,116],
(.seq
(.reg ⟨[],[],[(8,.m [(.fld (.sz (.s 0) 7) 0),(.fld (.sz (.s 0) 7) 1),(.fld (.sz (.s 0) 7) 2),(.fld (.sz (.s 0) 7) 3),(.fld (.sz (.s 0) 7) 4),(.fld (.sz (.s 0) 7) 5),(.fld (.sz (.s 0) 7) 6)]),(9,.m [(.fld (.sz (.s 2) 6) 0),(.fld (.sz (.s 2) 6) 1),(.fld (.sz (.s 2) 6) 2),(.fld (.sz (.s 2) 6) 3),(.fld (.sz (.s 2) 6) 4),(.fld (.sz (.s 2) 6) 5)]),(10,.v (.c (.bool false)))]⟩)
(.seq
(.reg ⟨[.call 31 [] (.id 15) false false []],[],[(11,.v (.s 31))]⟩)
(.seq
(.reg ⟨[.call 32 [] (.id 16) false false [(.mm 8 0 7)]],[],[(12,.m [(.fld (.sz (.s 32) 10) 0),(.fld (.sz (.s 32) 10) 1),(.fld (.sz (.s 32) 10) 2),(.fld (.sz (.s 32) 10) 3),(.fld (.sz (.s 32) 10) 4),(.fld (.sz (.s 32) 10) 5),(.fld (.sz (.s 32) 10) 6),(.fld (.sz (.s 32) 10) 7),(.fld (.sz (.s 32) 10) 8),(.fld (.sz (.s 32) 10) 9)])]⟩)
(.seq
(.seq
(.reg ⟨[.call 33 [] (.id 17) false false [(.s 1),(.mm 9 0 6),(.s 3)],.call 34 [] (.id 18) false false [(.mm 12 0 10),(.s 4),(.s 5),(.s 6)]],[],[(13,.v (.c (.int .i64 (0)))),(14,.v (.len (.lit [(.mm 12 0 10),(.sz (.s 33) 10),(.sz (.s 34) 10)]))),(17,.v (.lit [(.mm 12 0 10),(.sz (.s 33) 10),(.sz (.s 34) 10)]))]⟩)
(.block 0
 (.loop [0,1,2,3,4,5,6,7,8,9,10,11,12,13,14,17]
  (.seq
  (.reg ⟨[],[],[(15,.v (.bin .lss (.s 13) (.s 14)))]⟩)
  (.seq
  (.cond (.s 15)
   .skip
   (.exit 0))
  (.seq
  (.block 1
   (.seq
   (.reg ⟨[],[],[(16,.m [(.fld (.flds (.idx (.s 17) (.s 13) 10) 0 10) 0),(.fld (.flds (.idx (.s 17) (.s 13) 10) 0 10) 1),(.fld (.flds (.idx (.s 17) (.s 13) 10) 0 10) 2),(.fld (.flds (.idx (.s 17) (.s 13) 10) 0 10) 3),(.fld (.flds (.idx (.s 17) (.s 13) 10) 0 10) 4),(.fld (.flds (.idx (.s 17) (.s 13) 10) 0 10) 5),(.fld (.flds (.idx (.s 17) (.s 13) 10) 0 10) 6),(.fld (.flds (.idx (.s 17) (.s 13) 10) 0 10) 7),(.fld (.flds (.idx (.s 17) (.s 13) 10) 0 10) 8),(.fld (.flds (.idx (.s 17) (.s 13) 10) 0 10) 9)])]⟩)
   (.seq
   (.reg ⟨[],[],[(18,.v (.bin .add (.m 16 0) (.bin .rem (.s 7) (.bin .add (.bin .mul (.c (.int .u64 (2))) (.conv .u64 (.mn (.mx (.m 16 1) (.c (.int .i64 (0)))) (.c (.int .i64 (5000)))))) (.c (.int .u64 (2)))))))]⟩)
   (.seq
   (.reg ⟨[.call 35 [] (.id 19) false false [(.mm 12 0 10),(.c (.int .i64 (3))),(.s 5)],.call 36 [] (.id 19) false false [(.mm 12 0 10),(.c (.int .i64 (4))),(.s 5)],.call 37 [] (.id 19) false false [(.mm 12 0 10),(.c (.int .i64 (1))),(.s 5)]],[],[(19,.v (.c (.int .i64 (0)))),(20,.v (.len (.lit [(.one (.s 6)),(.bin .add (.bin .mul (.c (.int .u64 (2))) (.s 18)) (.c (.int .u64 (1)))),(.one (.s 35)),(.one (.s 36)),(.one (.s 37)),(.c (.int .u64 (0)))]))),(23,.v (.lit [(.one (.s 6)),(.bin .add (.bin .mul (.c (.int .u64 (2))) (.s 18)) (.c (.int .u64 (1)))),(.one (.s 35)),(.one (.s 36)),(.one (.s 37)),(.c (.int .u64 (0)))]))]⟩)
   (.block 2
    (.loop [0,1,2,3,4,5,6,7,8,9,10,11,12,13,14,15,16,17,18,19,20,23]
     (.seq
     (.reg ⟨[],[],[(21,.v (.bin .lss (.s 19) (.s 20)))]⟩)
     (.seq
     (.cond (.s 21)
      .skip
      (.exit 2))
     (.seq
     (.block 3
      (.seq
      (.reg ⟨[],[],[(22,.v (.fld (.idx (.s 23) (.s 19) 1) 0))]⟩)
      (.seq
      (.reg ⟨[.call 38 [] (.id 20) false false [(.mm 16 0 10),(.s 22)]],[],[(24,.m [(.fld (.sz (.ext (.s 38) 1) 10) 0),(.fld (.sz (.ext (.s 38) 1) 10) 1),(.fld (.sz (.ext (.s 38) 1) 10) 2),(.fld (.sz (.ext (.s 38) 1) 10) 3),(.fld (.sz (.ext (.s 38) 1) 10) 4),(.fld (.sz (.ext (.s 38) 1) 10) 5),(.fld (.sz (.ext (.s 38) 1) 10) 6),(.fld (.sz (.ext (.s 38) 1) 10) 7),(.fld (.sz (.ext (.s 38) 1) 10) 8),(.fld (.sz (.ext (.s 38) 1) 10) 9)]),(25,.v (.ext (.s 38) 0)),(26,.v (.ext (.s 38) 2))]⟩)
      (.seq
      (.reg ⟨[.call 39 [] (.id 21) false false [(.mm 16 0 10),(.s 22)]],[],[(27,.m [(.fld (.sz (.ext (.s 39) 1) 10) 0),(.fld (.sz (.ext (.s 39) 1) 10) 1),(.fld (.sz (.ext (.s 39) 1) 10) 2),(.fld (.sz (.ext (.s 39) 1) 10) 3),(.fld (.sz (.ext (.s 39) 1) 10) 4),(.fld (.sz (.ext (.s 39) 1) 10) 5),(.fld (.sz (.ext (.s 39) 1) 10) 6),(.fld (.sz (.ext (.s 39) 1) 10) 7),(.fld (.sz (.ext (.s 39) 1) 10) 8),(.fld (.sz (.ext (.s 39) 1) 10) 9)]),(28,.v (.ext (.s 39) 0)),(29,.v (.ext (.s 39) 2))]⟩)
      (.seq
      (.reg ⟨[.lt 40 [] (.bin .neq (.s 25) (.s 28)),.lt 41 [] (.ite (.s 40) (.c (.bool true)) (.bin .neq (.s 26) (.s 29))),.call 42 [(41,false)] (.id 22) false false [(.mm 24 0 10),(.mm 27 0 10)],.lt 43 [] (.ite (.s 41) (.c (.bool true)) (.un .not (.s 42))),.call 44 [(43,false)] (.id 23) false false [(.mm 16 0 10),(.s 22)],.call 45 [(43,false)] (.id 24) false false [(.mm 16 0 10),(.s 22)]],[([(40,false)],(.bin .neq (.s 26) (.s 29))),([(41,false)],(.un .not (.s 42))),([(43,false)],(.eqv true (.s 44) (.s 45)))],[(30,.v (.ite (.s 43) (.c (.bool true)) (.eqv true (.s 44) (.s 45))))]⟩)
      (.cond (.s 30)
       (.seq
       (.reg ⟨[],[],[(10,.v (.c (.bool false)))]⟩)
       .ret)
       .skip))))))
     (.reg ⟨[],[],[(19,.v (.bin .add (.s 19) (.c (.int .i64 (1)))))]⟩))))))))))
  (.reg ⟨[],[],[(13,.v (.bin .add (.s 13) (.c (.int .i64 (1)))))]⟩)))))))
(.seq
(.reg ⟨[],[],[(10,.v (.s 11))]⟩)
.ret))))),
[(10,.v)]⟩
theorem c3:compFn Try.prog fresh sig [.fz,.fz,.fz,.fz,.fz,.fz,.fz,.fz] [] Try.f3=some p3:=by kernel_rfl
def p4:Fn:=⟨30,[0,1,2,3,4,8,9,10,11,12,14,13,15,17,16,18,20,19,21,99,23,22,24,26,25,27,29,28,30,139],
(.seq
(.reg ⟨[],[],[(4,.m [(.fld (.sz (.s 0) 7) 0),(.fld (.sz (.s 0) 7) 1),(.fld (.sz (.s 0) 7) 2),(.fld (.sz (.s 0) 7) 3),(.fld (.sz (.s 0) 7) 4),(.fld (.sz (.s 0) 7) 5),(.fld (.sz (.s 0) 7) 6)]),(5,.v (.c (.bool false)))]⟩)
(.seq
(.reg ⟨[.call 30 [] (.id 15) false false []],[],[(6,.v (.s 30))]⟩)
(.seq
(.reg ⟨[.call 31 [] (.id 16) false false [(.mm 4 0 7)]],[],[(7,.m [(.fld (.sz (.s 31) 10) 0),(.fld (.sz (.s 31) 10) 1),(.fld (.sz (.s 31) 10) 2),(.fld (.sz (.s 31) 10) 3),(.fld (.sz (.s 31) 10) 4),(.fld (.sz (.s 31) 10) 5),(.fld (.sz (.s 31) 10) 6),(.fld (.sz (.s 31) 10) 7),(.fld (.sz (.s 31) 10) 8),(.fld (.sz (.s 31) 10) 9)])]⟩)
(.seq
(.reg ⟨[.call 32 [] (.id 25) false false [(.s 1),(.c (.int .i64 (4)))],.call 33 [] (.id 19) false false [(.mm 7 0 10),(.bin .add (.c (.int .i64 (1))) (.s 32)),(.s 2)]],[],[(8,.v (.s 33))]⟩)
(.seq
(.reg ⟨[.call 34 [] (.id 25) false false [(.bin .quo (.s 1) (.c (.int .i64 (4)))),(.c (.int .i64 (4)))],.call 35 [] (.id 19) false false [(.mm 7 0 10),(.bin .add (.c (.int .i64 (1))) (.s 34)),(.s 3)]],[],[(9,.v (.s 35))]⟩)
(.seq
(.reg ⟨[.call 36 [] (.id 20) false false [(.mm 7 0 10),(.s 8)]],[],[(10,.m [(.fld (.sz (.ext (.s 36) 1) 10) 0),(.fld (.sz (.ext (.s 36) 1) 10) 1),(.fld (.sz (.ext (.s 36) 1) 10) 2),(.fld (.sz (.ext (.s 36) 1) 10) 3),(.fld (.sz (.ext (.s 36) 1) 10) 4),(.fld (.sz (.ext (.s 36) 1) 10) 5),(.fld (.sz (.ext (.s 36) 1) 10) 6),(.fld (.sz (.ext (.s 36) 1) 10) 7),(.fld (.sz (.ext (.s 36) 1) 10) 8),(.fld (.sz (.ext (.s 36) 1) 10) 9)]),(11,.v (.ext (.s 36) 0)),(12,.v (.ext (.s 36) 2))]⟩)
(.seq
(.reg ⟨[.call 37 [] (.id 20) false false [(.mm 10 0 10),(.s 8)]],[],[(13,.m [(.fld (.sz (.ext (.s 37) 1) 10) 0),(.fld (.sz (.ext (.s 37) 1) 10) 1),(.fld (.sz (.ext (.s 37) 1) 10) 2),(.fld (.sz (.ext (.s 37) 1) 10) 3),(.fld (.sz (.ext (.s 37) 1) 10) 4),(.fld (.sz (.ext (.s 37) 1) 10) 5),(.fld (.sz (.ext (.s 37) 1) 10) 6),(.fld (.sz (.ext (.s 37) 1) 10) 7),(.fld (.sz (.ext (.s 37) 1) 10) 8),(.fld (.sz (.ext (.s 37) 1) 10) 9)]),(14,.v (.ext (.s 37) 0)),(15,.v (.ext (.s 37) 2))]⟩)
(.seq
(.reg ⟨[.call 38 [] (.id 20) false false [(.mm 10 0 10),(.s 11)]],[],[(16,.m [(.fld (.sz (.ext (.s 38) 1) 10) 0),(.fld (.sz (.ext (.s 38) 1) 10) 1),(.fld (.sz (.ext (.s 38) 1) 10) 2),(.fld (.sz (.ext (.s 38) 1) 10) 3),(.fld (.sz (.ext (.s 38) 1) 10) 4),(.fld (.sz (.ext (.s 38) 1) 10) 5),(.fld (.sz (.ext (.s 38) 1) 10) 6),(.fld (.sz (.ext (.s 38) 1) 10) 7),(.fld (.sz (.ext (.s 38) 1) 10) 8),(.fld (.sz (.ext (.s 38) 1) 10) 9)]),(17,.v (.ext (.s 38) 0)),(18,.v (.ext (.s 38) 2))]⟩)
(.seq
(.seq
(.reg ⟨[.lt 39 [] (.bin .neq (.s 12) (.c (.int .i64 (0)))),.lt 40 [] (.ite (.s 39) (.c (.bool true)) (.bin .neq (.s 15) (.c (.int .i64 (0))))),.lt 41 [] (.ite (.s 40) (.c (.bool true)) (.bin .neq (.s 18) (.c (.int .i64 (0))))),.lt 42 [] (.ite (.s 41) (.c (.bool true)) (.bin .neq (.s 11) (.s 14))),.lt 43 [] (.ite (.s 42) (.c (.bool true)) (.bin .neq (.s 11) (.s 17))),.call 44 [(43,false)] (.id 22) false false [(.mm 10 0 10),(.mm 13 0 10)],.lt 45 [] (.ite (.s 43) (.c (.bool true)) (.un .not (.s 44))),.call 46 [(45,false)] (.id 22) false false [(.mm 10 0 10),(.mm 16 0 10)]],[([(39,false)],(.bin .neq (.s 15) (.c (.int .i64 (0))))),([(40,false)],(.bin .neq (.s 18) (.c (.int .i64 (0))))),([(41,false)],(.bin .neq (.s 11) (.s 14))),([(42,false)],(.bin .neq (.s 11) (.s 17))),([(43,false)],(.un .not (.s 44))),([(45,false)],(.un .not (.s 46)))],[(19,.v (.ite (.s 45) (.c (.bool true)) (.un .not (.s 46))))]⟩)
(.cond (.s 19)
 (.seq
 (.reg ⟨[],[],[(5,.v (.c (.bool false)))]⟩)
 .ret)
 .skip))
(.seq
(.reg ⟨[.call 47 [] (.id 20) false false [(.mm 10 0 10),(.s 9)]],[],[(20,.m [(.fld (.sz (.ext (.s 47) 1) 10) 0),(.fld (.sz (.ext (.s 47) 1) 10) 1),(.fld (.sz (.ext (.s 47) 1) 10) 2),(.fld (.sz (.ext (.s 47) 1) 10) 3),(.fld (.sz (.ext (.s 47) 1) 10) 4),(.fld (.sz (.ext (.s 47) 1) 10) 5),(.fld (.sz (.ext (.s 47) 1) 10) 6),(.fld (.sz (.ext (.s 47) 1) 10) 7),(.fld (.sz (.ext (.s 47) 1) 10) 8),(.fld (.sz (.ext (.s 47) 1) 10) 9)]),(21,.v (.ext (.s 47) 0)),(22,.v (.ext (.s 47) 2))]⟩)
(.seq
(.reg ⟨[.call 48 [] (.id 20) false false [(.mm 7 0 10),(.s 9)]],[],[(23,.m [(.fld (.sz (.ext (.s 48) 1) 10) 0),(.fld (.sz (.ext (.s 48) 1) 10) 1),(.fld (.sz (.ext (.s 48) 1) 10) 2),(.fld (.sz (.ext (.s 48) 1) 10) 3),(.fld (.sz (.ext (.s 48) 1) 10) 4),(.fld (.sz (.ext (.s 48) 1) 10) 5),(.fld (.sz (.ext (.s 48) 1) 10) 6),(.fld (.sz (.ext (.s 48) 1) 10) 7),(.fld (.sz (.ext (.s 48) 1) 10) 8),(.fld (.sz (.ext (.s 48) 1) 10) 9)]),(24,.v (.ext (.s 48) 0)),(25,.v (.ext (.s 48) 2))]⟩)
(.seq
(.reg ⟨[.call 49 [] (.id 20) false false [(.mm 23 0 10),(.s 8)]],[],[(26,.m [(.fld (.sz (.ext (.s 49) 1) 10) 0),(.fld (.sz (.ext (.s 49) 1) 10) 1),(.fld (.sz (.ext (.s 49) 1) 10) 2),(.fld (.sz (.ext (.s 49) 1) 10) 3),(.fld (.sz (.ext (.s 49) 1) 10) 4),(.fld (.sz (.ext (.s 49) 1) 10) 5),(.fld (.sz (.ext (.s 49) 1) 10) 6),(.fld (.sz (.ext (.s 49) 1) 10) 7),(.fld (.sz (.ext (.s 49) 1) 10) 8),(.fld (.sz (.ext (.s 49) 1) 10) 9)]),(27,.v (.ext (.s 49) 0)),(28,.v (.ext (.s 49) 2))]⟩)
(.seq
(.seq
(.reg ⟨[.lt 50 [] (.bin .neq (.s 22) (.c (.int .i64 (0)))),.lt 51 [] (.ite (.s 50) (.c (.bool true)) (.bin .neq (.s 25) (.c (.int .i64 (0))))),.lt 52 [] (.ite (.s 51) (.c (.bool true)) (.bin .neq (.s 28) (.c (.int .i64 (0)))))],[([(50,false)],(.bin .neq (.s 25) (.c (.int .i64 (0))))),([(51,false)],(.bin .neq (.s 28) (.c (.int .i64 (0))))),([(52,false)],(.bin .lss (.len (.m 20 5)) (.len (.m 23 5))))],[(29,.v (.ite (.s 52) (.c (.bool true)) (.bin .lss (.len (.m 20 5)) (.len (.m 23 5)))))]⟩)
(.cond (.s 29)
 (.seq
 (.reg ⟨[],[],[(5,.v (.c (.bool false)))]⟩)
 .ret)
 .skip))
(.seq
(.reg ⟨[.lt 53 [] (.s 6)],[([(53,true)],(.eqv false (.bin .eql (.s 21) (.s 11)) (.bin .eql (.s 27) (.s 24))))],[(5,.v (.ite (.s 53) (.eqv false (.bin .eql (.s 21) (.s 11)) (.bin .eql (.s 27) (.s 24))) (.c (.bool false))))]⟩)
.ret)))))))))))))),
[(5,.v)]⟩
theorem c4:compFn Try.prog fresh sig [.fz,.fz,.fz,.fz] [] Try.f4=some p4:=by kernel_rfl
end Vm
end
section
namespace Vm
open Go Go.Proofs
set_option maxRecDepth 100000
set_option maxHeartbeats 1000000
theorem heapX_ok{x:Rw}(hx:x.ok):(heapX x).ok∧rightL (layH (heapX x))=true∧(heapX x).roots.length≤5:=by
 have key: ∀c,(fillH x (standB x c)).ok∧rightL (layH (fillH x (standB x c)))=true∧(fillH x (standB x c)).roots.length≤5:=fun c=>by
  obtain⟨h1,h2,h3⟩:=stand_ok hx c
  obtain⟨k1,k2,_,_⟩:=fillH_ok (x:=x) h1 h2
  refine⟨k1,by rw[k2];exact h3,?_⟩
  simp only[fillH,List.length_map]
  exact h1.rl
 unfold heapX stillX
 split
 ·exact key false
 ·exact key true
theorem right_len{h:Hp}(hr:rightL (layH h)=true)(k:Int):(partH h k).length≤4096:=by
 have:=rightL_iff.1 hr
 have q1:(layH h).low=h.low.length:=rfl
 have q2:(layH h).high=h.high.length:=rfl
 have q3:(layH h).old=h.old.length:=rfl
 have q4:(layH h).far=h.far.length:=rfl
 unfold partH
 split
 ·omega
 split
 ·omega
 split<;>omega
@[simp] theorem fldsV_hpV(h:Hp):fldsV (hpV h) 0 10=some (hpV h):=rfl
@[simp] theorem sizeOk_hpV(l:List Hp):sizeOk 10 (l.map hpV)=true:=sizeOk_map fun _=>rfl
theorem wrap_u64in(n:Int):U64 (IntKind.u64.wrap n):=by
 rw[IntKind.wrap_u64]
 unfold U64
 omega
end Vm
end
section
namespace Vm
open Go Go.Proofs
set_option maxRecDepth 100000
structure Stands (ws:List Int) (old:Bool) (o:Ob):Prop where
 nat:0≤o.at_
 shape:shapeOk o.size o.ptrs=true
 fits:o.at_+1+o.size≤ws.length
 slots:slotsOk ((ws.drop (o.at_.toNat+1)).take o.size.toNat) o.gone o.ptrs 0=true
 word: ∃w,ws[o.at_.toNat]? =some w∧(if o.gone then old=true∧(adr w).2=0∧o.target=(adr w).1 else(old=true→ ¬(adr w).2=0)∧unpk w=(o.size,o.ptrs,0)∧o.target=0)
def Tiles(ws:List Int)(old:Bool):Nat→List Ob→Prop
 |a,[]=>ws.length≤a
 |a,o::l=>o.at_=a∧Stands ws old o∧Tiles ws old (a+1+o.size.toNat) l
theorem objR_stands{ws:List Int}{shs:List (Int×Int)}{old:Bool}{a tk t:Nat}{w:Int}{o:Ob}(hw:ws[a]? =some w)(ho:objR shs old a tk w=some (o,t))(hl: ¬(ws.length:Int) <a+1+o.size)
  (hs: ¬slotsOk ((ws.drop (a+1)).take o.size.toNat) o.gone o.ptrs 0=false):o.at_=a∧Stands ws old o:=by
 have h2:=objR_shape ho
 refine⟨h2.2,?_,h2.1,?_,?_,w,?_,?_⟩
 ·rw[h2.2];omega
 ·rw[h2.2];omega
 ·rw[h2.2];simpa using hs
 ·rw[h2.2];simpa using hw
 ·unfold objR at ho
  split at ho
  ·rename_i hc
   split at ho
   ·cases ho
   ·split at ho
    ·cases ho;simpa using hc
    ·cases ho
  ·rename_i hc
   split at ho
   ·rename_i hu
    cases ho
    simp only[Bool.false_eq_true,if_false]
    refine⟨fun h1 h3=>hc ⟨h1,h3⟩,?_,trivial⟩
    rw[←hu]
   ·cases ho
theorem walkR_tiles{ws:List Int}{shs:List (Int×Int)}{old:Bool}: ∀(f a tk:Nat) (acc l:List Ob),walkR ws shs old f a tk acc=(l,0)→ ∃r,l=acc++r∧Tiles ws old a r
 |0,_,_,_,_,h=>by simp[walkR]at h
 |f+1,a,tk,acc,l,h=>by
  unfold walkR at h
  split at h
  ·rename_i hn
   split at h
   ·simp at h
   ·simp only[Prod.mk.injEq,and_true]at h
    subst h
    exact⟨[],by simp,List.getElem?_eq_none_iff.1 hn⟩
  ·rename_i w hw
   split at h
   ·simp at h
   ·rename_i o t ho
    split at h
    ·simp at h
    rename_i h1
    split at h
    ·simp at h
    rename_i h2
    obtain⟨r,rfl,hr⟩:=walkR_tiles f _ _ _ _ h
    have hs:=objR_stands hw ho h1 h2
    exact⟨o::r,by simp,hs.1,hs.2,hr⟩
theorem walkW_tiles{ws:List Int}{shs:List (Int×Int)}{old:Bool}{l:List Ob}(h:walkW ws shs old=(l,0)):Tiles ws old 0 l:=by
 obtain⟨r,h1,h2⟩:=walkR_tiles _ _ _ _ _ h
 simp at h1
 subst h1
 exact h2
theorem Tiles.stands{ws:List Int}{old:Bool}: ∀ {a:Nat} {l:List Ob},Tiles ws old a l→ ∀o∈l,Stands ws old o∧(a:Int)≤o.at_
 |_,[],_,_,h=>by simp at h
 |a,o::l,h,x,hx=>by
  have hs:=shapeOk_iff.1 h.2.1.shape
  rcases List.mem_cons.1 hx with rfl|hx
  ·exact⟨h.2.1,by rw[h.1];omega⟩
  ·have:=Tiles.stands h.2.2 x hx
   exact⟨this.1,by have:=this.2;omega⟩
theorem Tiles.apart{ws:List Int}{old:Bool}: ∀ {a:Nat} {l:List Ob},Tiles ws old a l→ ∀o∈l,∀q∈l,o=q∨o.at_+1+o.size≤q.at_∨q.at_+1+q.size≤o.at_
 |_,[],_,_,h,_,_=>by simp at h
 |a,x::l,h,o,ho,q,hq=>by
  have hs:=shapeOk_iff.1 h.2.1.shape
  have e:=h.1
  rcases List.mem_cons.1 ho with rfl|ho
  ·rcases List.mem_cons.1 hq with rfl|hq
   ·exact .inl rfl
   ·have:=(Tiles.stands h.2.2 q hq).2
    exact .inr (.inl (by omega))
  ·rcases List.mem_cons.1 hq with hq|hq
   ·have:=(Tiles.stands h.2.2 o ho).2
    rw[hq]
    exact .inr (.inr (by omega))
   ·exact Tiles.apart h.2.2 o ho q hq
structure RightH (h:Hp) (p:Pts):Prop where
 parts:partsR h=some p
 num:numR h=true
 ok:rightP h p=true
 low:Tiles h.low false 0 p.low
 high:Tiles h.high false 0 p.high
 old:Tiles h.old true 0 p.old
 far:Tiles h.far true 0 p.far
theorem rightH_of{h:Hp}(hr:rightR h=true): ∃p,RightH h p:=by
 obtain⟨p,h1,h2,h3⟩:=right_parts hr
 refine⟨p,h1,h3,h2,?_,?_,?_,?_⟩
 all_goals
  clear h3
  unfold partsR at h1
  dsimp only at h1
  split at h1
  ·cases h1
  rename_i c1
  split at h1
  ·cases h1
  rename_i c2
  cases h1
  have c3:(walkW h.low [] false).2=0∧(walkW h.high [] false).2=0:=by
   refine⟨Decidable.byContradiction fun hc=>c1 (.inl hc),Decidable.byContradiction fun hc=>c1 (.inr hc)⟩
  have c4: ∀x:Int,¬x≠0→x=0:=fun x hx=>Decidable.byContradiction hx
  have e3:=c4 _ (fun hx=>c2 (.inr (.inr (.inl hx))))
  have e4:=c4 _ (fun hx=>c2 (.inr (.inr (.inr hx))))
  first|exact walkW_tiles (Prod.ext rfl c3.1) |exact walkW_tiles (Prod.ext rfl c3.2) |exact walkW_tiles (Prod.ext rfl e3) |exact walkW_tiles (Prod.ext rfl e4)
theorem RightH.tiles{h:Hp}{p:Pts}(r:RightH h p){k:Int}(hk:1≤k∧k≤4):Tiles (partH h k) (decide (2<k)) 0 (p.at k):=by
 have:k=1∨k=2∨k=3∨k=4:=by omega
 rcases this with rfl|rfl|rfl|rfl
 ·exact r.low
 ·exact r.high
 ·exact r.old
 ·exact r.far
theorem RightH.lay{h:Hp}{p:Pts}(r:RightH h p):rightL (layH h)=true:=by
 have:=r.num
 unfold numR at this
 simp only[Bool.and_eq_true]at this
 exact this.1.1.1.1
def refR(l:Ly)(k a:Int):Int:=2*(fstL l k+a)+1
theorem adr_ref{l:Ly}(hr:rightL l=true){k a:Int}(ha:0≤a):adr (refR l k a)=(fstL l k+a,0):=by
 have:=fstL_range hr k
 unfold adr refR
 rw[if_neg (by omega),if_neg (by omega)]
 simp only[Prod.mk.injEq,and_true]
 omega
theorem addr_in{l:Ly}(hr:rightL l=true){k a:Int}(hk:1≤k∧k≤4)(ha:0≤a∧a<sizL l k):addrL l k a=(fstL l k+a,0):=by
 unfold addrL
 rw[if_neg (by simp[hr]),if_neg (by omega),if_neg (by omega)]
theorem find_in{l:Ly}(hr:rightL l=true){k a:Int}(hk:1≤k∧k≤4)(ha:0≤a∧a<sizL l k):findL l (fstL l k+a)=(k,a,0):=by
 have h:=rightL_iff.1 hr
 have ht:=toCap hr
 unfold findL inL
 rw[if_neg (by simp[hr])]
 simp only[Bool.and_eq_true,decide_eq_true_eq]
 have hk4:k=1∨k=2∨k=3∨k=4:=by omega
 rcases hk4 with rfl|rfl|rfl|rfl
 ·rw[if_pos (by omega)];simp;omega
 ·simp only[fstL,sizL]at ha⊢
  simp only[show ¬(2:Int)=1 by omega,if_false,if_true]at ha⊢
  rw[if_neg (by omega),if_pos (by omega)];simp;omega
 ·simp only[fstL,sizL]at ha⊢
  simp only[show ¬(3:Int)=1 by omega,show ¬(3:Int)=2 by omega,show ¬(2:Int)=1 by omega,if_false,if_true]at ha⊢
  rw[if_neg (by omega),if_neg (by omega),if_pos (by omega)];simp;omega
 ·simp only[fstL,sizL]at ha⊢
  simp only[show ¬(4:Int)=1 by omega,show ¬(4:Int)=2 by omega,show ¬(4:Int)=3 by omega,show ¬(3:Int)=1 by omega,show ¬(3:Int)=2 by omega,show ¬(2:Int)=1 by omega,if_false,if_true]at ha⊢
  rw[if_neg (by omega),if_neg (by omega),if_neg (by omega),if_pos (by omega)];simp;omega
end Vm
namespace Vm
open Go Go.Proofs
set_option maxRecDepth 100000
end Vm
namespace Vm
open Go Go.Proofs
set_option maxRecDepth 100000
theorem shapesR_pre{h:Hp}{ws:List Int}{low:List Ob}: ∀(f i:Nat) (acc l:List (Int×Int)),shapesR h ws low f i acc=some l→ ∃r,l=acc++r
 |0,_,_,_,he=>by simp[shapesR]at he
 |f+1,i,acc,l,he=>by
  unfold shapesR at he
  split at he
  ·cases he;exact⟨[],by simp⟩
  ·split at he
   ·split at he
    ·cases he
    ·obtain⟨r,hr⟩:=shapesR_pre f _ _ _ he
     exact⟨_,by rw[hr,List.append_assoc]⟩
   ·split at he
    ·exact shapesR_pre f _ _ _ he
    ·cases he
theorem shapes_walk{h:Hp}{ws:List Int}{low:List Ob}: ∀(f i:Nat) (acc shs:List (Int×Int)),shapesR h ws low f i acc=some shs→ ∀(f':Nat) (acc' l:List Ob),walkR ws shs true f' i acc.length acc'=(l,0)→
  ∃r,l=acc'++r∧ ∀o∈r,o.gone=true→ ∃q,atR h 1 low o.target=some q∧q.size=o.size∧q.ptrs=o.ptrs
 |0,_,_,_,he=>by simp[shapesR]at he
 |f+1,i,acc,shs,he=>by
  intro f' acc' l hw
  cases f' with
  |zero=>simp[walkR]at hw
  |succ f'=>
   unfold shapesR at he
   unfold walkR at hw
   cases hwi:ws[i]? with
   |none=>
    simp only[hwi]at hw
    split at hw
    ·simp at hw
    ·simp only[Prod.mk.injEq,and_true]at hw
     exact⟨[],by simp[hw],by simp⟩
   |some w=>
    simp only[hwi]at he hw
    by_cases ha:(adr w).2=0
    ·simp only[ha,if_true]at he
     cases hq:atR h 1 low (adr w).1 with
     |none=>simp only[hq]at he;cases he
     |some q=>
      simp only[hq]at he
      obtain⟨r,hr⟩:=shapesR_pre _ _ _ _ he
      have hs:shs[acc.length]? =some (q.size,q.ptrs):=by rw[hr];simp
      unfold objR at hw
      rw[if_pos ⟨rfl,ha⟩]at hw
      simp only[hs]at hw
      by_cases hsh:shapeOk q.size q.ptrs=true
      ·rw[if_pos hsh]at hw
       simp only at hw
       split at hw
       ·simp at hw
       split at hw
       ·simp at hw
       have hlen:acc.length+1=(acc++ [(q.size,q.ptrs)]).length:=by simp
       rw[hlen]at hw
       obtain⟨r',h1,h2⟩:=shapes_walk f _ _ _ he _ _ _ hw
       refine⟨_::r',by rw[h1,List.append_assoc];rfl,?_⟩
       intro o ho hg
       rcases List.mem_cons.1 ho with rfl|ho
       ·exact⟨q,hq,rfl,rfl⟩
       ·exact h2 o ho hg
      ·rw[if_neg hsh]at hw
       simp at hw
    ·simp only[ha,if_false]at he
     by_cases hu:(unpk w).2.2=0
     ·simp only[hu,if_true]at he
      unfold objR at hw
      rw[if_neg (fun hc=>ha hc.2),if_pos hu]at hw
      simp only at hw
      split at hw
      ·simp at hw
      split at hw
      ·simp at hw
      obtain⟨r',h1,h2⟩:=shapes_walk f _ _ _ he _ _ _ hw
      refine⟨_::r',by rw[h1,List.append_assoc];rfl,?_⟩
      intro o ho hg
      rcases List.mem_cons.1 ho with rfl|ho
      ·simp at hg
      ·exact h2 o ho hg
     ·simp only[hu,if_false]at he
      cases he
theorem RightH.gone_low{h:Hp}{p:Pts}(r:RightH h p){k:Int}(hk:3≤k∧k≤4){o:Ob}(ho:o∈p.at k)(hg:o.gone=true): ∃q∈p.low,startR h 1 q.at_=o.target∧q.size=o.size∧q.ptrs=o.ptrs:=by
 have h1:=r.parts
 unfold partsR at h1
 dsimp only at h1
 split at h1
 ·cases h1
 split at h1
 ·cases h1
 rename_i c2
 have aux: ∀(ws:List Int) (x:Option (List (Int×Int))),x=shapesW h ws (walkW h.low [] false).1→ ¬x=none→(walkW ws (x.getD []) true).2=0→o∈(walkW ws (x.getD []) true).1→
   ∃q∈(walkW h.low [] false).1,startR h 1 q.at_=o.target∧q.size=o.size∧q.ptrs=o.ptrs:=by
  intro ws x hx hn h0 ho
  cases x with
  |none=>exact(hn rfl).elim
  |some shs=>
   simp only[Option.getD_some]at h0 ho
   obtain⟨r',e1,e2⟩:=shapes_walk _ _ _ _ hx.symm (ws.length+1) [] (walkW ws shs true).1 (Prod.ext rfl h0)
   simp only[List.nil_append]at e1
   rw[e1]at ho
   obtain⟨q,hq,hs⟩:=e2 o ho hg
   have:=List.find?_some hq
   exact⟨q,atR_in hq,by simpa using this,hs⟩
 have e3: ¬shapesW h h.old (walkW h.low [] false).1=none:=fun e=>c2 (.inl e)
 have e4: ¬shapesW h h.far (walkW h.low [] false).1=none:=fun e=>c2 (.inr (.inl e))
 have e5:(walkW h.old ((shapesW h h.old (walkW h.low [] false).1).getD []) true).2=0:=Decidable.byContradiction fun e=>c2 (.inr (.inr (.inl e)))
 have e6:(walkW h.far ((shapesW h h.far (walkW h.low [] false).1).getD []) true).2=0:=Decidable.byContradiction fun e=>c2 (.inr (.inr (.inr e)))
 cases h1
 have:k=3∨k=4:=by omega
 rcases this with rfl|rfl
 ·exact aux _ _ rfl e3 e5 (by simpa using ho)
 ·exact aux _ _ rfl e4 e6 (by simpa using ho)
theorem word_of{u a:Int}(h0:(adr u).2=0)(h:(adr u).1=a):u=2*a+1:=by
 unfold adr at h0 h
 by_cases c1:u=0
 ·simp[c1]at h0
 rw[if_neg c1]at h0 h
 by_cases c2:u%2=0∨u=1
 ·rw[if_pos c2]at h0;simp at h0
 rw[if_neg c2]at h
 simp only at h
 omega
end Vm
namespace Vm
open Go Go.Proofs
set_option maxRecDepth 100000
end Vm
end
section
namespace Vm
open Go Go.Proofs
set_option maxRecDepth 100000
def goneSh(l:List Ob):List (Int×Int):=(l.filter fun o=>o.gone).map fun o=>(o.size,o.ptrs)
theorem walkR_of{ws:List Int}{shs:List (Int×Int)}{old:Bool}: ∀(l:List Ob) (f a tk:Nat) (acc:List Ob),Tiles ws old a l→ws.length<f+a→0<f→shs.drop tk=goneSh l→walkR ws shs old f a tk acc=(acc++l,0)
 | [],f,a,tk,acc,ht,hf,h0,hs=>by
   obtain⟨f,rfl⟩: ∃f',f=f'+1:=⟨f-1,by omega⟩
   have:ws.length≤a:=ht
   have h2:shs.length≤tk:=List.drop_eq_nil_iff.1 hs
   rw[walkR,List.getElem?_eq_none this]
   simp only
   rw[if_neg (by omega),List.append_nil]
 |o::l,f,a,tk,acc,ht,hf,h0,hs=>by
  obtain⟨f,rfl⟩: ∃f',f=f'+1:=⟨f-1,by omega⟩
  obtain⟨h1,h2,h3⟩:=ht
  obtain⟨w,hw,hc⟩:=h2.word
  have hsh:=shapeOk_iff.1 h2.shape
  have hfit:=h2.fits
  have hsl:=h2.slots
  rw[h1]at hw hfit hsl
  simp only[Int.toNat_natCast]at hw hsl
  have hrec: ∀tk':Nat,shs.drop tk'=goneSh l→walkR ws shs old f (a+1+o.size.toNat) tk' (acc++ [o])=(acc++o::l,0):=fun tk' hs'=>by
   rw[walkR_of l f _ tk' _ h3 (by omega) (by omega) hs']
   simp
  have hobj: ∃tk',objR shs old a tk w=some (o,tk')∧shs.drop tk'=goneSh l:=by
   unfold objR
   cases hg:o.gone
   ·rw[hg]at hc
    simp only[Bool.false_eq_true,if_false]at hc
    rw[if_neg (fun h=>hc.1 h.1 h.2),hc.2.1]
    refine⟨tk,?_,?_⟩
    ·simp only[if_true]
     obtain⟨oa,os,op,og,ot⟩:=o
     simp only at hg h1 hc⊢
     rw[hg,h1,hc.2.2]
    ·rw[hs]
     simp[goneSh,hg]
   ·rw[hg]at hc
    simp only[if_true]at hc
    rw[if_pos ⟨hc.1,hc.2.1⟩]
    have hd:shs.drop tk=(o.size,o.ptrs)::goneSh l:=by rw[hs];simp[goneSh,hg]
    have hlt:tk<shs.length:=by
     have:=congrArg List.length hd
     simp at this
     omega
    rw[List.drop_eq_getElem_cons hlt]at hd
    have e1:=(List.cons.inj hd).1
    have e2:=(List.cons.inj hd).2
    rw[List.getElem?_eq_getElem hlt,e1]
    simp only[h2.shape,if_true]
    refine⟨tk+1,?_,e2⟩
    obtain⟨oa,os,op,og,ot⟩:=o
    simp only at hg h1 hc⊢
    rw[hg,h1,hc.2.2]
  obtain⟨tk',ho,hs'⟩:=hobj
  rw[walkR,hw]
  simp only
  rw[ho]
  simp only
  rw[if_neg (by omega),if_neg (by rw[hsl];simp)]
  exact hrec tk' hs'
theorem walkW_of{ws:List Int}{shs:List (Int×Int)}{old:Bool}{l:List Ob}(ht:Tiles ws old 0 l)(hs:shs=goneSh l):walkW ws shs old=(l,0):=by
 unfold walkW
 rw[walkR_of l (ws.length+1) 0 0 [] ht (by omega) (by omega) (by simpa using hs),List.nil_append]
def GoneOk(h:Hp)(low l:List Ob):Prop:= ∀o∈l,o.gone=true→ ∃q,atR h 1 low o.target=some q∧q.size=o.size∧q.ptrs=o.ptrs
theorem shapesR_of{h:Hp}{ws:List Int}{low:List Ob}: ∀(l:List Ob) (f i:Nat) (acc:List (Int×Int)),Tiles ws true i l→ws.length<f+i→0<f→GoneOk h low l→shapesR h ws low f i acc=some (acc++goneSh l)
 | [],f,i,acc,ht,hf,h0,hg=>by
   obtain⟨f,rfl⟩: ∃f',f=f'+1:=⟨f-1,by omega⟩
   have:ws.length≤i:=ht
   rw[shapesR,List.getElem?_eq_none this]
   simp[goneSh]
 |o::l,f,i,acc,ht,hf,h0,hg=>by
  obtain⟨f,rfl⟩: ∃f',f=f'+1:=⟨f-1,by omega⟩
  obtain⟨h1,h2,h3⟩:=ht
  obtain⟨w,hw,hc⟩:=h2.word
  have hsh:=shapeOk_iff.1 h2.shape
  have hfit:=h2.fits
  rw[h1]at hw hfit
  simp only[Int.toNat_natCast]at hw
  have hg':GoneOk h low l:=fun q hq=>hg q (List.mem_cons_of_mem _ hq)
  rw[shapesR,hw]
  simp only
  cases hgo:o.gone
  ·rw[hgo]at hc
   simp only[Bool.false_eq_true,if_false,true_implies]at hc
   rw[if_neg hc.1,hc.2.1]
   simp only[if_true]
   rw[shapesR_of l f _ acc h3 (by omega) (by omega) hg']
   simp[goneSh,hgo]
  ·rw[hgo]at hc
   simp only[if_true,true_and]at hc
   rw[if_pos hc.1]
   obtain⟨q,hq,e1,e2⟩:=hg o (.head _) hgo
   rw[←hc.2,hq]
   simp only
   rw[e1,e2,shapesR_of l f _ _ h3 (by omega) (by omega) hg']
   simp[goneSh,hgo]
theorem parts_of{h:Hp}{p:Pts}(h1:Tiles h.low false 0 p.low)(h2:Tiles h.high false 0 p.high)(h3:Tiles h.old true 0 p.old)(h4:Tiles h.far true 0 p.far)(g3:GoneOk h p.low p.old)(g4:GoneOk h p.low p.far):partsR h=some p:=by
 have ng: ∀ {ws:List Int} {a:Nat} {l:List Ob},Tiles ws false a l→goneSh l= []:=fun {ws a l} ht=>by
  unfold goneSh
  rw[List.map_eq_nil_iff,List.filter_eq_nil_iff]
  intro o ho hg
  obtain⟨w,_,hc⟩:=(ht.stands o ho).1.word
  rw[if_pos hg]at hc
  cases hc.1
 unfold partsR
 rw[walkW_of h1 (ng h1).symm,walkW_of h2 (ng h2).symm]
 unfold shapesW
 simp only[ne_eq,not_true_eq_false,or_self,if_false]
 rw[shapesR_of p.old _ 0 [] h3 (by omega) (by omega) g3,shapesR_of p.far _ 0 [] h4 (by omega) (by omega) g4]
 simp only[List.nil_append,Option.getD_some]
 rw[walkW_of h3 rfl,walkW_of h4 rfl]
 simp
theorem right_of{h:Hp}{p:Pts}(hn:numR h=true)(hp:partsR h=some p)(hr:rightP h p=true):rightR h=true:=by
 unfold rightR
 rw[hn,hp]
 simpa using hr
theorem atR_of{h:Hp}{k:Int}{l:List Ob}{o:Ob}(ho:o∈l)(hd: ∀q∈l,startR h k q.at_=startR h k o.at_→q=o):atR h k l (startR h k o.at_)=some o:=by
 unfold atR
 induction l with
 |nil=>simp at ho
 |cons x l ih=>
  rw[List.find?_cons]
  by_cases hx:startR h k x.at_=startR h k o.at_
  ·rw[hd x (.head _) hx]
   simp
  ·have:(startR h k x.at_==startR h k o.at_)=false:=by simpa using hx
   rw[this]
   rcases List.mem_cons.1 ho with rfl|ho
   ·exact absurd rfl hx
   ·exact ih ho fun q hq=>hd q (List.mem_cons_of_mem _ hq)
theorem atR_isSome{h:Hp}{k:Int}{l:List Ob}{a:Int}:(atR h k l a).isSome=true↔ ∃o∈l,startR h k o.at_=a:=by
 unfold atR
 rw[List.find?_isSome]
 simp
end Vm
end
section
namespace Vm
open Go Go.Proofs
set_option maxRecDepth 100000
structure Tld (h:Hp) (p:Pts):Prop where
 lay:rightL (layH h)=true
 tiles: ∀k:Int,1≤k∧k≤4→Tiles (partH h k) (decide (2<k)) 0 (p.at k)
def Gos(h:Hp)(p:Pts)(w one two:Int):Prop:=w=0∨ ∃k o,(k=one∨k=two)∧o∈p.at k∧w=refR (layH h) k o.at_
def PtrAt(h:Hp)(p:Pts)(k:Int)(i:Nat)(w:Int):Prop:=if 2<k then Gos h p w 3 4 else if k=1∧h.scan≤i then Gos h p w 1 2∨Gos h p w 3 4 else Gos h p w 1 2
section
variable {h:Hp} {p:Pts}
theorem Tld.ob(t:Tld h p){k:Int}(hk:1≤k∧k≤4){o:Ob}(ho:o∈p.at k): ∃a n m:Nat,o.at_=a∧o.size=n∧o.ptrs=m∧a+(n+1)≤(partH h k).length∧n≤255∧m≤n:=by
 have hs:=((t.tiles k hk).stands o ho).1
 have h1:=shapeOk_iff.1 hs.shape
 obtain⟨a,ha⟩:=Int.eq_ofNat_of_zero_le hs.nat
 obtain⟨n,hn⟩:=Int.eq_ofNat_of_zero_le h1.1
 obtain⟨m,hm⟩:=Int.eq_ofNat_of_zero_le h1.2.2.1
 have:=hs.fits
 exact⟨a,n,m,ha,hn,hm,by omega,by omega,by omega⟩
theorem Tld.start(t:Tld h p){k:Int}(hk:1≤k∧k≤4){o:Ob}(ho:o∈p.at k):startR h k o.at_=fstL (layH h) k+o.at_:=by
 obtain⟨a,n,m,ha,_,_,hl,_⟩:=t.ob hk ho
 unfold startR
 rw[addr_in t.lay hk (by rw[sizL_layH hk];omega)]
theorem Tld.same_at(t:Tld h p){k:Int}(hk:1≤k∧k≤4){o q:Ob}(ho:o∈p.at k)(hq:q∈p.at k)(e:q.at_=o.at_):q=o:=by
 rcases(t.tiles k hk).apart q hq o ho with h1|h1|h1
 ·exact h1
 ·have:=shapeOk_iff.1 ((t.tiles k hk).stands q hq).1.shape;omega
 ·have:=shapeOk_iff.1 ((t.tiles k hk).stands o ho).1.shape;omega
theorem Tld.find(t:Tld h p){k:Int}(hk:1≤k∧k≤4){o:Ob}(ho:o∈p.at k):atR h k (p.at k) (fstL (layH h) k+o.at_)=some o:=by
 rw[←t.start hk ho]
 refine atR_of ho fun q hq e=>t.same_at hk ho hq ?_
 rw[t.start hk ho,t.start hk hq]at e
 omega
theorem Tld.adr(t:Tld h p){k:Int}(hk:1≤k∧k≤4){o:Ob}(ho:o∈p.at k):adr (refR (layH h) k o.at_)=(fstL (layH h) k+o.at_,0):=by
 obtain⟨a,n,m,ha,_⟩:=t.ob hk ho
 exact adr_ref t.lay (by omega)
theorem Tld.at_iff(t:Tld h p){k:Int}(hk:1≤k∧k≤4){w:Int}(h0:(Vm.adr w).2=0):(atR h k (p.at k) (Vm.adr w).1).isSome=true↔ ∃o∈p.at k,w=refR (layH h) k o.at_:=by
 rw[atR_isSome]
 constructor
 ·rintro⟨o,ho,e⟩
  rw[t.start hk ho]at e
  exact⟨o,ho,word_of h0 e.symm⟩
 ·rintro⟨o,ho,rfl⟩
  exact⟨o,ho,by rw[t.adr hk ho,t.start hk ho]⟩
theorem Tld.goes_iff(t:Tld h p){i j:Int}(hi:1≤i∧i≤4)(hj:1≤j∧j≤4){w:Int}:goesR h p w i j=true↔Gos h p w i j:=by
 unfold goesR Gos
 by_cases h0:w=0
 ·simp[h0]
 by_cases h1:(Vm.adr w).2=0
 ·simp only[h0,h1,decide_true,decide_false,Bool.false_or,Bool.true_and,Bool.or_eq_true,false_or,t.at_iff hi h1,t.at_iff hj h1]
  constructor
  ·rintro(⟨o,ho,e⟩ | ⟨o,ho,e⟩)
   ·exact⟨i,o,.inl rfl,ho,e⟩
   ·exact⟨j,o,.inr rfl,ho,e⟩
  ·rintro⟨k,o,rfl|rfl,ho,e⟩
   ·exact .inl ⟨o,ho,e⟩
   ·exact .inr ⟨o,ho,e⟩
 ·simp only[h0,h1,decide_false,Bool.false_and,Bool.or_self,Bool.false_eq_true,false_or,false_iff]
  rintro⟨k,o,hk,ho,rfl⟩
  have hk4:1≤k∧k≤4:=by rcases hk with rfl|rfl<;>assumption
  exact h1 (by rw[t.adr hk4 ho])
theorem slotsOk_zero: ∀ {l:List Int} {ptrs:Int} {i:Nat},slotsOk l true ptrs i=true→ ∀w∈l,w=0
 | [],_,_,_,w,hw=>by simp at hw
 |y::l,ptrs,i,hs,w,hw=>by
  simp only[slotsOk,Bool.and_eq_true]at hs
  rcases List.mem_cons.1 hw with rfl|hw
  ·have h1:=hs.1
   simp at h1
   exact h1.1
  ·exact slotsOk_zero hs.2 w hw
theorem Tld.slot(t:Tld h p){k:Int}(hk:1≤k∧k≤4){o:Ob}(ho:o∈p.at k){j:Nat}(hj:(j:Int) <o.size): ∃w,(partH h k)[o.at_.toNat+1+j]? =some w∧(o.gone=true→w=0):=by
 obtain⟨a,n,m,ha,hn,hm,hl,_⟩:=t.ob hk ho
 have hlt:a+1+j< (partH h k).length:=by omega
 refine⟨(partH h k)[a+1+j],by rw[ha,Int.toNat_natCast];exact List.getElem?_eq_getElem hlt,fun hg=> ?_⟩
 have hs:=((t.tiles k hk).stands o ho).1.slots
 rw[hg]at hs
 refine slotsOk_zero hs _ ?_
 rw[ha,hn,Int.toNat_natCast,Int.toNat_natCast]
 refine List.mem_of_getElem? (i:=j) ?_
 rw[List.getElem?_take_of_lt (by omega),List.getElem?_drop]
 exact List.getElem?_eq_getElem hlt
end
structure Body (h:Hp) (p:Pts):Prop extends Tld h p where
 gone: ∀k:Int,3≤k∧k≤4→ ∀o∈p.at k,o.gone=true→ ∃q∈p.low,o.target=fstL (layH h) 1+q.at_∧q.size=o.size∧q.ptrs=o.ptrs
 ptr: ∀k:Int,1≤k∧k≤4→ ∀o∈p.at k,o.gone=false→ ∀j:Nat,(j:Int) <o.ptrs→ ∀w,(partH h k)[o.at_.toNat+1+j]? =some w→PtrAt h p k (o.at_.toNat+1+j) w
 room:(h.low.length:Int)+h.high.length+waitR p≤h.cap
structure Rt (h:Hp) (p:Pts):Prop extends Body h p where
 nroots:h.roots.length≤16
 scan0:0≤h.scan
 scanL:h.scan≤h.low.length
 cyc:h.cycle=true→h.scan<h.low.length
 rest:h.cycle=false→h.scan=h.low.length∧h.old= []∧h.far= []
 once:h.cycle=true→ ∀o∈p.low,targR p (fstL (layH h) 1+o.at_)=1
 roots: ∀w∈h.roots,Gos h p w 1 2
section
variable {h:Hp} {p:Pts}
theorem PtrAt_iff(t:Tld h p){k:Int}{i:Nat}{w:Int}(hw:(partH h k)[i]? =some w):ptrOk h p k i=true↔PtrAt h p k i w:=by
 unfold ptrOk PtrAt
 simp only[hw,Option.getD_some]
 split
 ·exact t.goes_iff (by omega) (by omega)
 split
 ·rw[Bool.or_eq_true,t.goes_iff (by omega) (by omega),t.goes_iff (by omega) (by omega)]
 ·exact t.goes_iff (by omega) (by omega)
theorem PtrAt_zero(k:Int)(i:Nat):PtrAt h p k i 0:=by
 unfold PtrAt
 split
 ·exact .inl rfl
 split
 ·exact .inl (.inl rfl)
 ·exact .inl rfl
theorem ptrs_iff(t:Tld h p){k:Int}(hk:1≤k∧k≤4):ptrsR h p k=true↔ ∀o∈p.at k,o.gone=false→ ∀j:Nat,(j:Int) <o.ptrs→ ∀w,(partH h k)[o.at_.toNat+1+j]? =some w→PtrAt h p k (o.at_.toNat+1+j) w:=by
 unfold ptrsR obPtrs
 simp only[List.all_eq_true,List.mem_range]
 constructor
 ·intro hp o ho _ j hj w hw
  exact(PtrAt_iff t hw).1 (hp o ho j (by omega))
 ·intro hp o ho j hj
  obtain⟨a,n,m,ha,hn,hm,hl,_⟩:=t.ob hk ho
  obtain⟨w,hw,hz⟩:=t.slot hk ho (j:=j) (by omega)
  refine(PtrAt_iff t hw).2 ?_
  cases hg:o.gone
  ·exact hp o ho hg j (by omega) w hw
  ·rw[hz hg];exact PtrAt_zero _ _
theorem RightH.tld(r:RightH h p):Tld h p:=⟨r.lay,fun k hk=>r.tiles hk⟩
theorem RightH.rt(r:RightH h p):Rt h p:=by
 have t:=r.tld
 have hn:=r.num
 have ho:=r.ok
 unfold numR at hn
 unfold rightP at ho
 simp only[Bool.and_eq_true,decide_eq_true_eq]at hn ho
 obtain⟨⟨⟨⟨n1,n2⟩,n3⟩,n4⟩,n5⟩:=hn
 obtain⟨⟨⟨⟨⟨⟨o1,o2⟩,o3⟩,o4⟩,o5⟩,o6⟩,o7⟩:=ho
 have hptr: ∀k:Int,1≤k∧k≤4→ptrsR h p k=true:=fun k hk=>by
  have:k=1∨k=2∨k=3∨k=4:=by omega
  rcases this with rfl|rfl|rfl|rfl<;>assumption
 refine⟨⟨t,fun k hk o ho hg=> ?_,fun k hk=>(ptrs_iff t hk).1 (hptr k hk),o7⟩,n2,n3,n4,fun hc=> ?_,fun hc=> ?_,fun hc o ho=> ?_,fun w hw=> ?_⟩
 ·obtain⟨q,hq,e,e1,e2⟩:=r.gone_low hk ho hg
  exact⟨q,hq,by rw[←e,t.start (k:=1) (by omega) hq],e1,e2⟩
 ·rw[hc]at n5;simpa using n5
 ·rw[hc]at n5
  simp at n5
  exact⟨n5.1.1,n5.1.2,n5.2⟩
 ·rw[hc]at o1
  simp only[Bool.not_true,Bool.false_or,List.all_eq_true]at o1
  have:=o1 o ho
  unfold tgOk at this
  rw[t.start (k:=1) (by omega) ho]at this
  simpa using this
 ·exact(t.goes_iff (by omega) (by omega)).1 (List.all_eq_true.1 o2 w hw)
theorem Rt.parts(r:Rt h p):partsR h=some p:=by
 have g: ∀k:Int,3≤k∧k≤4→GoneOk h p.low (p.at k):=fun k hk o ho hg=>by
  obtain⟨q,hq,e,e1,e2⟩:=r.gone k hk o ho hg
  exact⟨q,by rw[e];exact r.toTld.find (k:=1) (by omega) hq,e1,e2⟩
 exact parts_of (r.tiles 1 (by omega)) (r.tiles 2 (by omega)) (r.tiles 3 (by omega)) (r.tiles 4 (by omega)) (g 3 (by omega)) (g 4 (by omega))
theorem Rt.right(r:Rt h p):rightR h=true:=by
 have t:=r.toTld
 refine right_of ?_ r.parts ?_
 ·unfold numR
  simp only[Bool.and_eq_true,decide_eq_true_eq]
  refine⟨⟨⟨⟨r.lay,r.nroots⟩,r.scan0⟩,r.scanL⟩,?_⟩
  cases hc:h.cycle
  ·obtain⟨e1,e2,e3⟩:=r.rest hc
   simp[e1,e2,e3]
  ·simp[r.cyc hc]
 ·unfold rightP
  simp only[Bool.and_eq_true,decide_eq_true_eq]
  have hp:=fun k hk=>(ptrs_iff t hk).2 (r.ptr k hk)
  refine⟨⟨⟨⟨⟨⟨?_,?_⟩,hp 1 (by omega)⟩,hp 2 (by omega)⟩,hp 3 (by omega)⟩,hp 4 (by omega)⟩,r.room⟩
  ·cases hc:h.cycle
   ·rfl
   ·simp only[Bool.not_true,Bool.false_or,List.all_eq_true]
    intro o ho
    unfold tgOk
    rw[t.start (k:=1) (by omega) ho,decide_eq_true_eq]
    exact r.once hc o ho
  ·rw[List.all_eq_true]
   exact fun w hw=>(t.goes_iff (by omega) (by omega)).2 (r.roots w hw)
theorem right_iff:rightR h=true↔ ∃p,Rt h p:=
 ⟨fun hr=>by obtain⟨p,r⟩:=rightH_of hr;exact⟨p,r.rt⟩,fun⟨p,r⟩=>r.right⟩
end
end Vm
end
section
namespace Vm
open Go Go.Proofs
set_option maxRecDepth 100000
section
variable {h:Hp} {p:Pts}
theorem Tiles.pairwise{ws:List Int}{old:Bool}: ∀ {a:Nat} {l:List Ob},Tiles ws old a l→l.Pairwise fun x y=>x.at_<y.at_
 |_,[],_=> .nil
 |a,o::l,h=>by
  have hs:=shapeOk_iff.1 h.2.1.shape
  refine .cons (fun y hy=> ?_) (Tiles.pairwise h.2.2)
  have:=(Tiles.stands h.2.2 y hy).2
  rw[h.1]
  omega
end
end Vm
end
section
namespace Vm
open Go Go.Proofs
set_option maxRecDepth 100000
set_option maxHeartbeats 1000000
def ndAt(b:Bt)(i:Nat):Nd:=(b.g.nodes[i]?).getD default
def hereAt(b:Bt)(i:Nat):Pl:=(b.here[i]?).getD ⟨0,0⟩
def oldAt(b:Bt)(i:Nat):Pl:=(b.old[i]?).getD ⟨0,0⟩
def hdrN(n:Nd):Int:=(packW ((n.ptrs.length:Int)+n.data.length) n.ptrs.length).1
def laidN(b:Bt)(p:Pl)(n:Nd)(tw:Int):List Int:=hdrN n::(slotsB b p p.at_.toNat n.ptrs tw++n.data)
def goneN(b:Bt)(p:Pl)(n:Nd):List Int:=refB b.h p::List.replicate (sizN n-1) 0
def blk(b:Bt)(x:Rw)(k:Int)(i:Nat):List Int:=
 if(hereAt b i).part=k then laidN b (hereAt b i) (ndAt b i) (IntKind.i64.wrap (x.slack+i))
 else if(oldAt b i).part=k then(if(hereAt b i).part=0 then laidN b (oldAt b i) (ndAt b i) 0 else goneN b (hereAt b i) (ndAt b i))
 else []
end Vm
end
section
namespace Vm
open Go Go.Proofs
set_option maxRecDepth 100000
set_option maxHeartbeats 1000000
end Vm
end
section
namespace Vm
open Go Go.Proofs
set_option maxRecDepth 100000
set_option maxHeartbeats 1000000
theorem sizL_part(h:Hp){k:Int}(hk:1≤k∧k≤4):sizL (layH h) k=(partH h k).length:=by
 have h1:k=1∨k=2∨k=3∨k=4:=by omega
 rcases h1 with rfl|rfl|rfl|rfl<;>rfl
end Vm
end
section
namespace Vm
open Go Go.Proofs
set_option maxRecDepth 100000
end Vm
end
section
namespace Vm
open Go
open Go.Proofs
set_option maxRecDepth 100000
def p44:Fn:=⟨7,[0,1,2,3,6,7,8],
(.seq
(.reg ⟨[],[],[(3,.m [(.fld (.sz (.s 0) 10) 0),(.fld (.sz (.s 0) 10) 1),(.fld (.sz (.s 0) 10) 2),(.fld (.sz (.s 0) 10) 3),(.fld (.sz (.s 0) 10) 4),(.fld (.sz (.s 0) 10) 5),(.fld (.sz (.s 0) 10) 6),(.fld (.sz (.s 0) 10) 7),(.fld (.sz (.s 0) 10) 8),(.fld (.sz (.s 0) 10) 9)]),(4,.v (.c (.int .u64 (0)))),(5,.v (.c (.int .i64 (0))))]⟩)
(.seq
(.reg ⟨[.call 7 [] (.id 79) false false [(.s 2),(.c (.int .i64 (20)))]],[],[(6,.v (.bin .add (.m 3 1) (.s 7)))]⟩)
(.seq
(.reg ⟨[],[],[(4,.v (.bin .add (.c (.int .u64 (1))) (.bin .rem (.s 1) (.bin .sub (.c (.int .u64 (9223372036854775808))) (.bin .mul (.c (.int .u64 (2))) (.conv .u64 (.s 6))))))),(5,.v (.s 6))]⟩)
.ret))),
[(4,.v),(5,.v)]⟩
theorem c44:compFn Try.prog fresh sig [.fz,.fz,.fz] [] Try.f44=some p44:=by kernel_rfl
def p47:Fn:=⟨21,[0,1,2,3,6,7,8,33,38,45,9,10,11,12,61,13,14,15,16,17,87],
(.seq
(.reg ⟨[],[],[(3,.m [(.fld (.sz (.s 0) 10) 0),(.fld (.sz (.s 0) 10) 1),(.fld (.sz (.s 0) 10) 2),(.fld (.sz (.s 0) 10) 3),(.fld (.sz (.s 0) 10) 4),(.fld (.sz (.s 0) 10) 5),(.fld (.sz (.s 0) 10) 6),(.fld (.sz (.s 0) 10) 7),(.fld (.sz (.s 0) 10) 8),(.fld (.sz (.s 0) 10) 9)]),(4,.m [(.c (.int .u64 (0))),(.c (.int .i64 (0))),(.c (.int .i64 (0))),(.c (.bool false)),(.c (.int .i64 (0))),(.c (.sl [])),(.c (.sl [])),(.c (.sl [])),(.c (.sl [])),(.c (.sl []))]),(5,.v (.c (.int .i64 (0))))]⟩)
(.seq
(.reg ⟨[.call 21 [] (.id 31) false false [(.mm 3 0 10)]],[],[(6,.v (.s 21))]⟩)
(.seq
(.seq
(.reg ⟨[.lt 22 [] (.un .not (.s 6)),.lt 23 [] (.ite (.s 22) (.c (.bool true)) (.bin .eql (.s 1) (.c (.int .u64 (0))))),.lt 24 [] (.ite (.s 23) (.c (.bool true)) (.bin .lss (.s 2) (.c (.int .i64 (0)))))],[([(22,false)],(.bin .eql (.s 1) (.c (.int .u64 (0))))),([(23,false)],(.bin .lss (.s 2) (.c (.int .i64 (0))))),([(24,false)],(.bin .gtr (.s 2) (.c (.int .i64 (4096)))))],[(7,.v (.ite (.s 24) (.c (.bool true)) (.bin .gtr (.s 2) (.c (.int .i64 (4096))))))]⟩)
(.cond (.s 7)
 (.seq
 (.reg ⟨[],[([],(.ag [(.c (.int .u64 (0))),(.c (.int .i64 (0))),(.c (.int .i64 (0))),(.c (.bool false)),(.c (.int .i64 (0))),(.c (.sl [])),(.c (.sl [])),(.c (.sl [])),(.c (.sl [])),(.c (.sl []))]))],[(4,.m [(.c (.int .u64 (0))),(.c (.int .i64 (0))),(.c (.int .i64 (0))),(.c (.bool false)),(.c (.int .i64 (0))),(.c (.sl [])),(.c (.sl [])),(.c (.sl [])),(.c (.sl [])),(.c (.sl []))]),(5,.v (.c (.int .i64 (1))))]⟩)
 .ret)
 .skip))
(.seq
(.seq
(.reg ⟨[],[],[(8,.v (.bin .lss (.s 2) (.m 3 1)))]⟩)
(.cond (.s 8)
 (.seq
 (.reg ⟨[],[([],(.ag [(.c (.int .u64 (0))),(.c (.int .i64 (0))),(.c (.int .i64 (0))),(.c (.bool false)),(.c (.int .i64 (0))),(.c (.sl [])),(.c (.sl [])),(.c (.sl [])),(.c (.sl [])),(.c (.sl []))]))],[(4,.m [(.c (.int .u64 (0))),(.c (.int .i64 (0))),(.c (.int .i64 (0))),(.c (.bool false)),(.c (.int .i64 (0))),(.c (.sl [])),(.c (.sl [])),(.c (.sl [])),(.c (.sl [])),(.c (.sl []))]),(5,.v (.c (.int .i64 (8))))]⟩)
 .ret)
 .skip))
(.seq
(.seq
(.reg ⟨[],[],[(9,.v (.bin .gtr (.s 1) (.bin .sub (.c (.int .u64 (9223372036854775808))) (.bin .mul (.c (.int .u64 (2))) (.conv .u64 (.s 2))))))]⟩)
(.cond (.s 9)
 (.seq
 (.reg ⟨[],[([],(.ag [(.c (.int .u64 (0))),(.c (.int .i64 (0))),(.c (.int .i64 (0))),(.c (.bool false)),(.c (.int .i64 (0))),(.c (.sl [])),(.c (.sl [])),(.c (.sl [])),(.c (.sl [])),(.c (.sl []))]))],[(4,.m [(.c (.int .u64 (0))),(.c (.int .i64 (0))),(.c (.int .i64 (0))),(.c (.bool false)),(.c (.int .i64 (0))),(.c (.sl [])),(.c (.sl [])),(.c (.sl [])),(.c (.sl [])),(.c (.sl []))]),(5,.v (.c (.int .i64 (9))))]⟩)
 .ret)
 .skip))
(.seq
(.reg ⟨[.call 25 [] (.id 38) false false [(.mm 3 0 10)]],[],[(10,.m [(.fld (.sz (.s 25) 7) 0),(.fld (.sz (.s 25) 7) 1),(.fld (.sz (.s 25) 7) 2),(.fld (.sz (.s 25) 7) 3),(.fld (.sz (.s 25) 7) 4),(.fld (.sz (.s 25) 7) 5),(.fld (.sz (.s 25) 7) 6)])]⟩)
(.seq
(.reg ⟨[],[],[(11,.m [(.fld (.mm 3 0 10) 0),(.fld (.mm 3 0 10) 1),(.fld (.mm 3 0 10) 2),(.fld (.mm 3 0 10) 3),(.fld (.mm 3 0 10) 4),(.fld (.mm 3 0 10) 5),(.fld (.mm 3 0 10) 6),(.fld (.mm 3 0 10) 7),(.fld (.mm 3 0 10) 8),(.fld (.mm 3 0 10) 9)])]⟩)
(.seq
(.reg ⟨[],[],[(11,.m [(.one (.s 1)),(.m 11 1),(.m 11 2),(.m 11 3),(.m 11 4),(.m 11 5),(.m 11 6),(.m 11 7),(.m 11 8),(.m 11 9)])]⟩)
(.seq
(.reg ⟨[],[],[(11,.m [(.m 11 0),(.one (.s 2)),(.m 11 2),(.m 11 3),(.m 11 4),(.m 11 5),(.m 11 6),(.m 11 7),(.m 11 8),(.m 11 9)])]⟩)
(.seq
(.reg ⟨[.call 26 [] (.id 38) false false [(.mm 11 0 10)]],[],[(12,.m [(.fld (.sz (.s 26) 7) 0),(.fld (.sz (.s 26) 7) 1),(.fld (.sz (.s 26) 7) 2),(.fld (.sz (.s 26) 7) 3),(.fld (.sz (.s 26) 7) 4),(.fld (.sz (.s 26) 7) 5),(.fld (.sz (.s 26) 7) 6)])]⟩)
(.seq
(.reg ⟨[],[],[(11,.m [(.m 11 0),(.m 11 1),(.m 11 2),(.m 11 3),(.m 11 4),(.m 11 5),(.m 11 6),(.m 11 7),(.m 11 8),(.c (.sl []))])]⟩)
(.seq
(.seq
(.reg ⟨[],[],[(13,.v (.c (.int .i64 (0))))]⟩)
(.block 0
 (.loop [0,1,2,3,4,5,6,7,8,9,10,11,12,13]
  (.seq
  (.seq
  (.reg ⟨[],[],[(14,.v (.bin .lss (.s 13) (.len (.m 3 9))))]⟩)
  (.cond (.s 14)
   .skip
   (.exit 0)))
  (.seq
  (.block 1
   (.seq
   (.reg ⟨[.call 27 [] (.id 50) false false [(.mm 10 0 7),(.mm 12 0 7),(.fld (.idx (.m 3 9) (.s 13) 1) 0)]],[],[(15,.v (.ext (.s 27) 0)),(16,.v (.ext (.s 27) 1))]⟩)
   (.reg ⟨[],[],[(11,.m [(.m 11 0),(.m 11 1),(.m 11 2),(.m 11 3),(.m 11 4),(.m 11 5),(.m 11 6),(.m 11 7),(.m 11 8),(.app (.m 11 9) (.lit [(.one (.s 15))]) 1)])]⟩)))
  (.reg ⟨[],[],[(13,.v (.bin .add (.s 13) (.c (.int .i64 (1)))))]⟩))))))
(.seq
(.reg ⟨[.call 28 [] (.id 70) false false [(.mm 3 0 10)]],[],[(17,.v (.ext (.s 28) 0)),(18,.v (.ext (.s 28) 1))]⟩)
(.seq
(.seq
(.reg ⟨[],[],[(19,.v (.c (.int .i64 (1))))]⟩)
(.block 2
 (.loop [0,1,2,3,4,5,6,7,8,9,10,11,12,13,14,17,18,19]
  (.seq
  (.seq
  (.reg ⟨[],[],[(20,.v (.bin .leq (.s 19) (.c (.int .i64 (4)))))]⟩)
  (.cond (.s 20)
   .skip
   (.exit 2)))
  (.seq
  (.block 3
   (.reg ⟨[.call 29 [] (.id 28) false false [(.mm 3 0 10),(.s 19)],.call 30 [] (.id 81) false false [(.mm 10 0 7),(.mm 12 0 7),(.s 29),(.fld (.idx (.s 17) (.s 19) 1) 0)],.call 31 [] (.id 27) false false [(.mm 11 0 10),(.s 19),(.s 30)]],[],[(11,.m [(.fld (.sz (.s 31) 10) 0),(.fld (.sz (.s 31) 10) 1),(.fld (.sz (.s 31) 10) 2),(.fld (.sz (.s 31) 10) 3),(.fld (.sz (.s 31) 10) 4),(.fld (.sz (.s 31) 10) 5),(.fld (.sz (.s 31) 10) 6),(.fld (.sz (.s 31) 10) 7),(.fld (.sz (.s 31) 10) 8),(.fld (.sz (.s 31) 10) 9)])]⟩))
  (.reg ⟨[],[],[(19,.v (.bin .add (.s 19) (.c (.int .i64 (1)))))]⟩))))))
(.seq
(.reg ⟨[],[],[(4,.m [(.fld (.mm 11 0 10) 0),(.fld (.mm 11 0 10) 1),(.fld (.mm 11 0 10) 2),(.fld (.mm 11 0 10) 3),(.fld (.mm 11 0 10) 4),(.fld (.mm 11 0 10) 5),(.fld (.mm 11 0 10) 6),(.fld (.mm 11 0 10) 7),(.fld (.mm 11 0 10) 8),(.fld (.mm 11 0 10) 9)]),(5,.v (.c (.int .i64 (0))))]⟩)
.ret))))))))))))))),
[(4,(.ag 10)),(5,.v)]⟩
theorem c47:compFn Try.prog fresh sig [.fz,.fz,.fz] [] Try.f47=some p47:=by kernel_rfl
def p49:Fn:=⟨16,[0,1,2,3,4,6,7,19,21,8,9,28,10,36,11,44],
(.seq
(.reg ⟨[],[],[(3,.m [(.fld (.sz (.s 0) 7) 0),(.fld (.sz (.s 0) 7) 1),(.fld (.sz (.s 0) 7) 2),(.fld (.sz (.s 0) 7) 3),(.fld (.sz (.s 0) 7) 4),(.fld (.sz (.s 0) 7) 5),(.fld (.sz (.s 0) 7) 6)]),(4,.m [(.fld (.sz (.s 1) 7) 0),(.fld (.sz (.s 1) 7) 1),(.fld (.sz (.s 1) 7) 2),(.fld (.sz (.s 1) 7) 3),(.fld (.sz (.s 1) 7) 4),(.fld (.sz (.s 1) 7) 5),(.fld (.sz (.s 1) 7) 6)]),(5,.v (.c (.int .u64 (0)))),(6,.v (.c (.int .i64 (0))))]⟩)
(.seq
(.seq
(.reg ⟨[.call 16 [] (.id 55) false false [(.mm 3 0 7)],.lt 17 [] (.un .not (.s 16)),.call 18 [(17,false)] (.id 55) false false [(.mm 4 0 7)]],[([(17,false)],(.un .not (.s 18)))],[(7,.v (.ite (.s 17) (.c (.bool true)) (.un .not (.s 18))))]⟩)
(.cond (.s 7)
 (.seq
 (.reg ⟨[],[],[(5,.v (.c (.int .u64 (0)))),(6,.v (.c (.int .i64 (1))))]⟩)
 .ret)
 .skip))
(.seq
(.seq
(.reg ⟨[],[],[(8,.v (.bin .eql (.s 2) (.c (.int .u64 (0)))))]⟩)
(.cond (.s 8)
 (.seq
 (.reg ⟨[],[],[(5,.v (.c (.int .u64 (0)))),(6,.v (.c (.int .i64 (0))))]⟩)
 .ret)
 .skip))
(.seq
(.reg ⟨[.call 19 [] (.id 57) false false [(.s 2)]],[],[(9,.v (.ext (.s 19) 0)),(10,.v (.ext (.s 19) 1))]⟩)
(.seq
(.seq
(.reg ⟨[],[],[(11,.v (.bin .neq (.s 10) (.c (.int .i64 (0)))))]⟩)
(.cond (.s 11)
 (.seq
 (.reg ⟨[],[],[(5,.v (.c (.int .u64 (0)))),(6,.v (.c (.int .i64 (3))))]⟩)
 .ret)
 .skip))
(.seq
(.reg ⟨[.call 20 [] (.id 58) false false [(.mm 3 0 7),(.s 9)]],[],[(10,.v (.ext (.s 20) 1)),(12,.m [(.fld (.sz (.ext (.s 20) 0) 2) 0),(.fld (.sz (.ext (.s 20) 0) 2) 1)])]⟩)
(.seq
(.seq
(.reg ⟨[],[],[(13,.v (.bin .neq (.s 10) (.c (.int .i64 (0)))))]⟩)
(.cond (.s 13)
 (.seq
 (.reg ⟨[],[],[(5,.v (.c (.int .u64 (0)))),(6,.v (.c (.int .i64 (6))))]⟩)
 .ret)
 .skip))
(.seq
(.reg ⟨[.call 21 [] (.id 39) false false [(.mm 4 0 7),(.mm 12 0 2)]],[],[(10,.v (.ext (.s 21) 1)),(14,.v (.ext (.s 21) 0))]⟩)
(.seq
(.seq
(.reg ⟨[],[],[(15,.v (.bin .neq (.s 10) (.c (.int .i64 (0)))))]⟩)
(.cond (.s 15)
 (.seq
 (.reg ⟨[],[],[(5,.v (.c (.int .u64 (0)))),(6,.v (.c (.int .i64 (6))))]⟩)
 .ret)
 .skip))
(.seq
(.reg ⟨[.call 22 [] (.id 40) false false [(.s 14)]],[],[(5,.v (.ext (.s 22) 0)),(6,.v (.ext (.s 22) 1))]⟩)
.ret)))))))))),
[(5,.v),(6,.v)]⟩
theorem c49:compFn Try.prog fresh sig [.fz,.fz,.fz] [] Try.f49=some p49:=by kernel_rfl
def p50:Fn:=⟨21,[0,1,2,3,4,6,7,8,9,27,29,10,11,36,12,13,14,15,54,16,17],
(.seq
(.reg ⟨[],[],[(3,.m [(.fld (.sz (.s 0) 7) 0),(.fld (.sz (.s 0) 7) 1),(.fld (.sz (.s 0) 7) 2),(.fld (.sz (.s 0) 7) 3),(.fld (.sz (.s 0) 7) 4),(.fld (.sz (.s 0) 7) 5),(.fld (.sz (.s 0) 7) 6)]),(4,.m [(.fld (.sz (.s 1) 7) 0),(.fld (.sz (.s 1) 7) 1),(.fld (.sz (.s 1) 7) 2),(.fld (.sz (.s 1) 7) 3),(.fld (.sz (.s 1) 7) 4),(.fld (.sz (.s 1) 7) 5),(.fld (.sz (.s 1) 7) 6)]),(5,.v (.c (.int .u64 (0)))),(6,.v (.c (.int .i64 (0))))]⟩)
(.seq
(.reg ⟨[.call 21 [] (.id 63) false false [(.mm 3 0 7)]],[],[(7,.v (.s 21))]⟩)
(.seq
(.reg ⟨[.call 22 [] (.id 63) false false [(.mm 4 0 7)]],[],[(8,.v (.s 22))]⟩)
(.seq
(.seq
(.reg ⟨[.lt 23 [] (.un .not (.s 7))],[([(23,false)],(.un .not (.s 8)))],[(9,.v (.ite (.s 23) (.c (.bool true)) (.un .not (.s 8))))]⟩)
(.cond (.s 9)
 (.seq
 (.reg ⟨[],[],[(5,.v (.c (.int .u64 (0)))),(6,.v (.c (.int .i64 (1))))]⟩)
 .ret)
 .skip))
(.seq
(.seq
(.reg ⟨[],[],[(10,.v (.bin .eql (.s 2) (.c (.int .u64 (0)))))]⟩)
(.cond (.s 10)
 (.seq
 (.reg ⟨[],[],[(5,.v (.c (.int .u64 (0)))),(6,.v (.c (.int .i64 (0))))]⟩)
 .ret)
 .skip))
(.seq
(.reg ⟨[.call 24 [] (.id 64) false false [(.s 2)]],[],[(11,.v (.ext (.s 24) 0)),(12,.v (.ext (.s 24) 1))]⟩)
(.seq
(.seq
(.reg ⟨[],[],[(13,.v (.bin .neq (.s 12) (.c (.int .i64 (0)))))]⟩)
(.cond (.s 13)
 (.seq
 (.reg ⟨[],[],[(5,.v (.c (.int .u64 (0)))),(6,.v (.c (.int .i64 (3))))]⟩)
 .ret)
 .skip))
(.seq
(.reg ⟨[.call 25 [] (.id 65) false false [(.mm 3 0 7),(.s 11)]],[],[(14,.m [(.fld (.sz (.ext (.s 25) 0) 2) 0),(.fld (.sz (.ext (.s 25) 0) 2) 1)]),(15,.v (.ext (.s 25) 1))]⟩)
(.seq
(.reg ⟨[.call 26 [] (.id 37) false false [(.mm 4 0 7),(.mm 14 0 2)]],[],[(16,.v (.ext (.s 26) 0)),(17,.v (.ext (.s 26) 1))]⟩)
(.seq
(.seq
(.reg ⟨[.lt 27 [] (.bin .neq (.s 15) (.c (.int .i64 (0))))],[([(27,false)],(.bin .neq (.s 17) (.c (.int .i64 (0)))))],[(18,.v (.ite (.s 27) (.c (.bool true)) (.bin .neq (.s 17) (.c (.int .i64 (0))))))]⟩)
(.cond (.s 18)
 (.seq
 (.reg ⟨[],[],[(5,.v (.c (.int .u64 (0)))),(6,.v (.c (.int .i64 (6))))]⟩)
 .ret)
 .skip))
(.seq
(.reg ⟨[.call 28 [] (.id 83) false false [(.s 16)]],[],[(19,.v (.ext (.s 28) 0)),(20,.v (.ext (.s 28) 1))]⟩)
(.seq
(.reg ⟨[],[],[(5,.v (.s 19)),(6,.v (.c (.int .i64 (0))))]⟩)
.ret)))))))))))),
[(5,.v),(6,.v)]⟩
theorem c50:compFn Try.prog fresh sig [.fz,.fz,.fz] [] Try.f50=some p50:=by kernel_rfl
def p81:Fn:=⟨14,[0,1,2,3,4,5,8,9,10,18,11,26,12,53],
(.seq
(.reg ⟨[],[],[(4,.m [(.fld (.sz (.s 0) 7) 0),(.fld (.sz (.s 0) 7) 1),(.fld (.sz (.s 0) 7) 2),(.fld (.sz (.s 0) 7) 3),(.fld (.sz (.s 0) 7) 4),(.fld (.sz (.s 0) 7) 5),(.fld (.sz (.s 0) 7) 6)]),(5,.m [(.fld (.sz (.s 1) 7) 0),(.fld (.sz (.s 1) 7) 1),(.fld (.sz (.s 1) 7) 2),(.fld (.sz (.s 1) 7) 3),(.fld (.sz (.s 1) 7) 4),(.fld (.sz (.s 1) 7) 5),(.fld (.sz (.s 1) 7) 6)]),(6,.v (.c (.sl [])))]⟩)
(.seq
(.reg ⟨[],[],[(7,.v (.app (.c (.sl [])) (.s 2) 1))]⟩)
(.seq
(.seq
(.reg ⟨[],[],[(8,.v (.c (.int .i64 (0))))]⟩)
(.block 0
 (.loop [0,1,2,3,4,5,6,7,8]
  (.seq
  (.seq
  (.reg ⟨[],[],[(9,.v (.bin .lss (.s 8) (.len (.s 3))))]⟩)
  (.cond (.s 9)
   .skip
   (.exit 0)))
  (.seq
  (.block 1
   (.seq
   (.reg ⟨[],[],[(10,.m [(.fld (.flds (.idx (.s 3) (.s 8) 5) 0 5) 0),(.fld (.flds (.idx (.s 3) (.s 8) 5) 0 5) 1),(.fld (.flds (.idx (.s 3) (.s 8) 5) 0 5) 2),(.fld (.flds (.idx (.s 3) (.s 8) 5) 0 5) 3),(.fld (.flds (.idx (.s 3) (.s 8) 5) 0 5) 4)])]⟩)
   (.seq
   (.seq
   (.reg ⟨[],[],[(11,.v (.m 10 3))]⟩)
   (.cond (.s 11)
    (.seq
    (.reg ⟨[.call 14 [] (.id 50) false false [(.mm 4 0 7),(.mm 5 0 7),(.fld (.idx (.s 2) (.m 10 0) 1) 0)]],[([],(.ext (.s 14) 1)),([],(.idx (.s 7) (.m 10 0) 1))],[(7,.v (.upd (.s 7) (.m 10 0) 0 (.one (.ext (.s 14) 0))))]⟩)
    (.exit 1))
    .skip))
   (.seq
   (.reg ⟨[],[],[(12,.v (.bin .add (.m 10 0) (.c (.int .i64 (1)))))]⟩)
   (.block 2
    (.loop [0,1,2,3,4,5,6,7,8,9,10,11,12]
     (.seq
     (.seq
     (.reg ⟨[],[],[(13,.v (.bin .lss (.s 12) (.bin .add (.bin .add (.m 10 0) (.c (.int .i64 (1)))) (.m 10 2))))]⟩)
     (.cond (.s 13)
      .skip
      (.exit 2)))
     (.seq
     (.block 3
      (.reg ⟨[.call 15 [] (.id 50) false false [(.mm 4 0 7),(.mm 5 0 7),(.fld (.idx (.s 2) (.s 12) 1) 0)]],[([],(.ext (.s 15) 1)),([],(.idx (.s 7) (.s 12) 1))],[(7,.v (.upd (.s 7) (.s 12) 0 (.one (.ext (.s 15) 0))))]⟩))
     (.reg ⟨[],[],[(12,.v (.bin .add (.s 12) (.c (.int .i64 (1)))))]⟩)))))))))
  (.reg ⟨[],[],[(8,.v (.bin .add (.s 8) (.c (.int .i64 (1)))))]⟩))))))
(.seq
(.reg ⟨[],[],[(6,.v (.s 7)),(7,.no)]⟩)
.ret)))),
[(6,.v)]⟩
theorem c81:compFn Try.prog fresh sig [.fz,.fz,.fz,.fz] [] Try.f81=some p81:=by kernel_rfl
end Vm
end
section
namespace Vm
open Go Go.Proofs
set_option maxRecDepth 100000
set_option maxHeartbeats 1000000
def ptrM(f t:Ly)(w:Int):Int×Int:=
 if rightL f=false∨rightL t=false then(0,1)else if w=0 then(0,0)else if(adr w).2≠0 then(0,3)
 else if(findL f (adr w).1).2.2≠0∨(addrL t (findL f (adr w).1).1 (findL f (adr w).1).2.1).2≠0 then(0,6)
 else(2*(addrL t (findL f (adr w).1).1 (findL f (adr w).1).2.1).1+1,0)
theorem addr_ptr{t:Ly}{k a:Int}(h:(addrL t k a).2=0):ptrTo (addrL t k a).1=(2*(addrL t k a).1+1,0):=by
 unfold addrL at h⊢
 split at h
 ·simp at h
 rename_i h1
 split at h
 ·simp at h
 rename_i h2
 split at h
 ·simp at h
 rename_i h3
 rw[if_neg h1,if_neg h2,if_neg h3]
 have:=fstL_range (l:=t) (by simpa using h1) k
 unfold ptrTo
 rw[if_neg (by simp only;omega)]
theorem ptrM_u(f t:Ly)(w:Int):U64 (ptrM f t w).1:=by
 unfold ptrM
 split
 ·simp[U64]
 split
 ·simp[U64]
 split
 ·simp[U64]
 split
 ·simp[U64]
 ·have:=addr_63 (l:=t) (k:=(findL f (adr w).1).1) (a:=(findL f (adr w).1).2.1)
  simp only[U64]
  omega
theorem ptrM_vc{f t:Ly}(hf:f.fits)(ht:t.fits){w:Int}(hw:U64 w):VC Try.prog 49 false [lyV f,lyV t,vu w] (.tup [vu (ptrM f t w).1,vi (ptrM f t w).2]):=by
 refine vc_of_wp Try.func49 follows (by kernel_rfl) c49 rfl ?_
 have k1:=rightL_vc hf
 have k2:=rightL_vc ht
 have k3:=adr_vc hw
 have k4:=findL_vc hf (adr_u hw)
 have k5:=addrL_vc ht (part:=(findL f (adr w).1).1) (at_:=(findL f (adr w).1).2.1)
 have k6:=ptrTo_vc (a:=(addrL t (findL f (adr w).1).1 (findL f (adr w).1).2.1).1) addr_u
 have hap:=fun h=>addr_ptr (t:=t) (k:=(findL f (adr w).1).1) (a:=(findL f (adr w).1).2.1) h
 unfold lyV at k1 k2 k4 k5
 unfold ptrM
 simp[p49,lyV]
 refine callW_of k1 (by simp) ?_
 cases hr:rightL f
 ·simp
 simp
 refine callW_of k2 (by simp) ?_
 cases hr2:rightL t
 ·simp
 simp
 by_cases h0:w=0
 ·simp[h0]
 simp[h0]
 refine callW_of k3 (by simp) ?_
 by_cases h1:(adr w).2=0
 case neg=>simp[h1]
 simp[h1]
 refine callW_of k4 (by simp) ?_
 by_cases h2:(findL f (adr w).1).2.2=0
 case neg=>simp[h2]
 simp[h2]
 refine callW_of k5 (by simp) ?_
 by_cases h3:(addrL t (findL f (adr w).1).1 (findL f (adr w).1).2.1).2=0
 case neg=>simp[h3]
 rw[hap h3]at k6
 simp[h3]
 exact callW_of k6 (by simp) (by simp)
theorem refPtrM_vc{f t:Ly}(hf:f.fits)(ht:t.fits){w:Int}(hw:U64 w):VC Try.prog 50 false [lyV f,lyV t,vu w] (.tup [vu (ptrM f t w).1,vi (ptrM f t w).2]):=by
 refine vc_of_wp Try.func50 follows (by kernel_rfl) c50 rfl ?_
 have k1:=refRightL_vc hf
 have k2:=refRightL_vc ht
 have k3:=refAdr_vc hw
 have k4:=refFindL_vc hf (adr_u hw)
 have k5:=refAddrL_vc ht (part:=(findL f (adr w).1).1) (at_:=(findL f (adr w).1).2.1)
 have k6:=refPtrTo_vc (a:=(addrL t (findL f (adr w).1).1 (findL f (adr w).1).2.1).1) addr_u
 have hap:=fun h=>addr_ptr (t:=t) (k:=(findL f (adr w).1).1) (a:=(findL f (adr w).1).2.1) h
 unfold lyV at k1 k2 k4 k5
 unfold ptrM
 simp[p50,lyV]
 refine callW_of k1 (by simp) ?_
 simp
 refine callW_of k2 (by simp) ?_
 cases hr:rightL f
 ·simp
 cases hr2:rightL t
 ·simp
 simp
 by_cases h0:w=0
 ·simp[h0]
 simp[h0]
 refine callW_of k3 (by simp) ?_
 by_cases h1:(adr w).2=0
 case neg=>simp[h1]
 simp[h1]
 refine callW_of k4 (by simp) ?_
 simp
 refine callW_of k5 (by simp) ?_
 by_cases h2:(findL f (adr w).1).2.2=0
 case neg=>simp[h2]
 by_cases h3:(addrL t (findL f (adr w).1).1 (findL f (adr w).1).2.1).2=0
 case neg=>simp[h2,h3]
 rw[hap h3]at k6
 simp[h2,h3]
 exact callW_of k6 (by simp) (by simp)
end Vm
end
section
namespace Vm
open Go
open Go.Proofs
set_option maxRecDepth 100000
def p30:Fn:=⟨5,[0,1,2,3,4],
(.seq
(.reg ⟨[],[],[(1,.m [(.fld (.sz (.s 0) 10) 0),(.fld (.sz (.s 0) 10) 1),(.fld (.sz (.s 0) 10) 2),(.fld (.sz (.s 0) 10) 3),(.fld (.sz (.s 0) 10) 4),(.fld (.sz (.s 0) 10) 5),(.fld (.sz (.s 0) 10) 6),(.fld (.sz (.s 0) 10) 7),(.fld (.sz (.s 0) 10) 8),(.fld (.sz (.s 0) 10) 9)]),(2,.v (.c (.bool false)))]⟩)
(.seq
(.reg ⟨[.call 5 [] (.id 68) false false [(.mm 1 0 10)]],[],[(3,.v (.ext (.s 5) 0)),(4,.v (.ext (.s 5) 1))]⟩)
(.seq
(.reg ⟨[],[],[(2,.v (.s 4))]⟩)
.ret))),
[(2,.v)]⟩
theorem c30:compFn Try.prog fresh sig [.fz] [] Try.f30=some p30:=by kernel_rfl
def p34:Fn:=⟨8,[0,1,2,4,5,6,7,22],
(.seq
(.reg ⟨[],[],[(2,.m [(.fld (.sz (.s 0) 10) 0),(.fld (.sz (.s 0) 10) 1),(.fld (.sz (.s 0) 10) 2),(.fld (.sz (.s 0) 10) 3),(.fld (.sz (.s 0) 10) 4),(.fld (.sz (.s 0) 10) 5),(.fld (.sz (.s 0) 10) 6),(.fld (.sz (.s 0) 10) 7),(.fld (.sz (.s 0) 10) 8),(.fld (.sz (.s 0) 10) 9)]),(3,.v (.c (.sl []))),(4,.v (.c (.int .i64 (0))))]⟩)
(.seq
(.reg ⟨[.call 8 [] (.id 68) false false [(.mm 2 0 10)]],[],[(5,.v (.ext (.s 8) 0)),(6,.v (.ext (.s 8) 1))]⟩)
(.seq
(.seq
(.reg ⟨[.lt 9 [] (.un .not (.s 6)),.lt 10 [] (.ite (.s 9) (.c (.bool true)) (.bin .lss (.s 1) (.c (.int .i64 (1)))))],[([(9,false)],(.bin .lss (.s 1) (.c (.int .i64 (1))))),([(10,false)],(.bin .gtr (.s 1) (.c (.int .i64 (4)))))],[(7,.v (.ite (.s 10) (.c (.bool true)) (.bin .gtr (.s 1) (.c (.int .i64 (4))))))]⟩)
(.cond (.s 7)
 (.seq
 (.reg ⟨[],[],[(4,.v (.c (.int .i64 (1))))]⟩)
 .ret)
 .skip))
(.seq
(.reg ⟨[],[],[(3,.v (.fld (.ai (.flds (.star (.s 5)) 17 4) (.bin .sub (.s 1) (.c (.int .i64 (1)))) 4 1 true) 0)),(4,.v (.c (.int .i64 (0))))]⟩)
.ret)))),
[(3,.v),(4,.v)]⟩
theorem c34:compFn Try.prog fresh sig [.fz,.fz] [] Try.f34=some p34:=by kernel_rfl
def p68:Fn:=⟨12,[0,1,2,3,13,4,16,15,17,6,14,24],
(.seq
(.reg ⟨[],[],[(1,.m [(.fld (.sz (.s 0) 10) 0),(.fld (.sz (.s 0) 10) 1),(.fld (.sz (.s 0) 10) 2),(.fld (.sz (.s 0) 10) 3),(.fld (.sz (.s 0) 10) 4),(.fld (.sz (.s 0) 10) 5),(.fld (.sz (.s 0) 10) 6),(.fld (.sz (.s 0) 10) 7),(.fld (.sz (.s 0) 10) 8),(.fld (.sz (.s 0) 10) 9)]),(2,.v (.c (.nul 0))),(3,.v (.c (.bool false)))]⟩)
(.seq
(.reg ⟨[.call 12 [] (.id 54) false false [(.mm 1 0 10)]],[([],(.ag [(.fld (.mm 1 0 10) 0),(.fld (.mm 1 0 10) 1),(.fld (.mm 1 0 10) 2),(.fld (.mm 1 0 10) 3),(.fld (.mm 1 0 10) 4),(.fld (.mm 1 0 10) 5),(.fld (.mm 1 0 10) 6),(.fld (.mm 1 0 10) 7),(.fld (.mm 1 0 10) 8),(.fld (.mm 1 0 10) 9),(.fld (.sz (.s 12) 7) 0),(.fld (.sz (.s 12) 7) 1),(.fld (.sz (.s 12) 7) 2),(.fld (.sz (.s 12) 7) 3),(.fld (.sz (.s 12) 7) 4),(.fld (.sz (.s 12) 7) 5),(.fld (.sz (.s 12) 7) 6),(.c (.sl [])),(.c (.sl [])),(.c (.sl [])),(.c (.sl [])),(.c (.mp 0 [] [])),(.c (.mp 0 [] []))]))],[(5,.m [(.fld (.mm 1 0 10) 0),(.fld (.mm 1 0 10) 1),(.fld (.mm 1 0 10) 2),(.fld (.mm 1 0 10) 3),(.fld (.mm 1 0 10) 4),(.fld (.mm 1 0 10) 5),(.fld (.mm 1 0 10) 6),(.fld (.mm 1 0 10) 7),(.fld (.mm 1 0 10) 8),(.fld (.mm 1 0 10) 9),(.fld (.sz (.s 12) 7) 0),(.fld (.sz (.s 12) 7) 1),(.fld (.sz (.s 12) 7) 2),(.fld (.sz (.s 12) 7) 3),(.fld (.sz (.s 12) 7) 4),(.fld (.sz (.s 12) 7) 5),(.fld (.sz (.s 12) 7) 6),(.c (.sl [])),(.c (.sl [])),(.c (.sl [])),(.c (.sl [])),(.c (.mp 0 [] [])),(.c (.mp 0 [] []))])]⟩)
(.seq
(.seq
(.reg ⟨[.call 10 [] (.id 94) false false []],[],[(6,.v (.c (.int .i64 (0)))),(7,.v (.len (.s 10)))]⟩)
(.block 0
 (.loop [0,1,2,3,5,6,7,10]
  (.seq
  (.reg ⟨[],[],[(8,.v (.bin .lss (.s 6) (.s 7)))]⟩)
  (.seq
  (.cond (.s 8)
   .skip
   (.exit 0))
  (.seq
  (.block 1
   (.seq
   (.reg ⟨[],[],[(9,.m [(.fld (.flds (.idx (.s 10) (.s 6) 1) 0 1) 0)])]⟩)
   (.seq
   (.reg ⟨[.callm 13 [] (.e (.m 9 0)) [(.mem [.fz,.fz,.fz,.fz,.fz,.fz,.fz,.fz,.fz,.fz,.fz,.fz,.fz,.fz,.fz,.fz,.fz,.fz,.fz,.fz,.fz,(.own 119),(.own 120)])] [(.ag [(.m 5 0),(.m 5 1),(.m 5 2),(.m 5 3),(.m 5 4),(.m 5 5),(.m 5 6),(.m 5 7),(.m 5 8),(.m 5 9),(.m 5 10),(.m 5 11),(.m 5 12),(.m 5 13),(.m 5 14),(.m 5 15),(.m 5 16),(.m 5 17),(.m 5 18),(.m 5 19),(.m 5 20),(.m 5 21),(.m 5 22)])]],[],[(5,.m [(.fld (.ext (.s 13) 1) 0),(.fld (.ext (.s 13) 1) 1),(.fld (.ext (.s 13) 1) 2),(.fld (.ext (.s 13) 1) 3),(.fld (.ext (.s 13) 1) 4),(.fld (.ext (.s 13) 1) 5),(.fld (.ext (.s 13) 1) 6),(.fld (.ext (.s 13) 1) 7),(.fld (.ext (.s 13) 1) 8),(.fld (.ext (.s 13) 1) 9),(.fld (.ext (.s 13) 1) 10),(.fld (.ext (.s 13) 1) 11),(.fld (.ext (.s 13) 1) 12),(.fld (.ext (.s 13) 1) 13),(.fld (.ext (.s 13) 1) 14),(.fld (.ext (.s 13) 1) 15),(.fld (.ext (.s 13) 1) 16),(.fld (.ext (.s 13) 1) 17),(.fld (.ext (.s 13) 1) 18),(.fld (.ext (.s 13) 1) 19),(.fld (.ext (.s 13) 1) 20),(.fld (.ext (.s 13) 1) 21),(.fld (.ext (.s 13) 1) 22)]),(11,.v (.un .not (.ext (.s 13) 0)))]⟩)
   (.cond (.s 11)
    (.seq
    (.reg ⟨[],[],[(2,.v (.c (.nul 0))),(3,.v (.c (.bool false)))]⟩)
    .ret)
    .skip))))
  (.reg ⟨[],[],[(6,.v (.bin .add (.s 6) (.c (.int .i64 (1)))))]⟩)))))))
(.seq
(.reg ⟨[],[],[(2,.v (.pt none [(.m 5 0),(.m 5 1),(.m 5 2),(.m 5 3),(.m 5 4),(.m 5 5),(.m 5 6),(.m 5 7),(.m 5 8),(.m 5 9),(.m 5 10),(.m 5 11),(.m 5 12),(.m 5 13),(.m 5 14),(.m 5 15),(.m 5 16),(.m 5 17),(.m 5 18),(.m 5 19),(.m 5 20),(.m 5 21),(.m 5 22)])),(3,.v (.c (.bool true))),(5,.no)]⟩)
.ret)))),
[(2,.v),(3,.v)]⟩
theorem c68:compFn Try.prog fresh sig [.fz] [] Try.f68=some p68:=by kernel_rfl
def p76:Fn:=⟨11,[0,2,3,4,8,19,18,20,6,17,25],
(.seq
(.reg ⟨[],[],[(1,.v (.c (.int .i64 (0))))]⟩)
(.seq
(.reg ⟨[],[],[(2,.v (.c (.int .i64 (0))))]⟩)
(.seq
(.seq
(.reg ⟨[],[],[(3,.v (.c (.int .i64 (3))))]⟩)
(.block 0
 (.loop [0,1,2,3]
  (.seq
  (.seq
  (.reg ⟨[],[],[(4,.v (.bin .leq (.s 3) (.c (.int .i64 (4)))))]⟩)
  (.cond (.s 4)
   .skip
   (.exit 0)))
  (.seq
  (.block 1
   (.seq
   (.reg ⟨[],[],[(5,.v (.c (.int .i64 (0)))),(6,.v (.len (.fld (.ai (.flds (.star (.s 0)) 17 4) (.bin .sub (.s 3) (.c (.int .i64 (1)))) 4 1 true) 0))),(9,.v (.fld (.ai (.flds (.star (.s 0)) 17 4) (.bin .sub (.s 3) (.c (.int .i64 (1)))) 4 1 true) 0))]⟩)
   (.block 2
    (.loop [0,1,2,3,4,5,6,9]
     (.seq
     (.reg ⟨[],[],[(7,.v (.bin .lss (.s 5) (.s 6)))]⟩)
     (.seq
     (.cond (.s 7)
      .skip
      (.exit 2))
     (.seq
     (.block 3
      (.seq
      (.reg ⟨[],[],[(8,.m [(.fld (.flds (.idx (.s 9) (.s 5) 5) 0 5) 0),(.fld (.flds (.idx (.s 9) (.s 5) 5) 0 5) 1),(.fld (.flds (.idx (.s 9) (.s 5) 5) 0 5) 2),(.fld (.flds (.idx (.s 9) (.s 5) 5) 0 5) 3),(.fld (.flds (.idx (.s 9) (.s 5) 5) 0 5) 4)])]⟩)
      (.seq
      (.reg ⟨[],[],[(10,.v (.un .not (.m 8 3)))]⟩)
      (.cond (.s 10)
       (.reg ⟨[],[],[(2,.v (.bin .add (.s 2) (.bin .add (.c (.int .i64 (1))) (.m 8 1))))]⟩)
       .skip))))
     (.reg ⟨[],[],[(5,.v (.bin .add (.s 5) (.c (.int .i64 (1)))))]⟩))))))))
  (.reg ⟨[],[],[(3,.v (.bin .add (.s 3) (.c (.int .i64 (1)))))]⟩))))))
(.seq
(.reg ⟨[],[],[(1,.v (.s 2))]⟩)
.ret)))),
[(1,.v)]⟩
theorem c76:compFn Try.prog fresh sig [.fz] [] Try.f76=some p76:=by kernel_rfl
def p94:Fn:=⟨1,[0],
(.seq
(.reg ⟨[],[],[(0,.v (.c (.sl [])))]⟩)
(.seq
(.reg ⟨[],[],[(0,.v (.lit [(.ag [(.c (.fn 103))]),(.ag [(.c (.fn 104))]),(.ag [(.c (.fn 105))]),(.ag [(.c (.fn 106))]),(.ag [(.c (.fn 107))]),(.ag [(.c (.fn 108))]),(.ag [(.c (.fn 109))]),(.ag [(.c (.fn 110))])]))]⟩)
.ret)),
[(0,.v)]⟩
theorem c94:compFn Try.prog fresh sig [] [] Try.f94=some p94:=by kernel_rfl
def p103:Fn:=⟨2,[0,2],
(.seq
(.reg ⟨[],[],[(1,.v (.c (.bool false)))]⟩)
(.seq
(.reg ⟨[.call 2 [] (.id 55) false false [(.flds (.star (.s 0)) 10 7)],.lt 3 [] (.s 2),.lt 4 [] (.ite (.s 3) (.bin .leq (.len (.fld (.star (.s 0)) 9)) (.c (.int .i64 (16)))) (.c (.bool false))),.lt 5 [] (.ite (.s 4) (.bin .geq (.fld (.star (.s 0)) 4) (.c (.int .i64 (0)))) (.c (.bool false)))],[([(3,true)],(.bin .leq (.len (.fld (.star (.s 0)) 9)) (.c (.int .i64 (16))))),([(4,true)],(.bin .geq (.fld (.star (.s 0)) 4) (.c (.int .i64 (0))))),([(5,true)],(.bin .leq (.fld (.star (.s 0)) 4) (.len (.fld (.star (.s 0)) 5))))],[(1,.v (.ite (.s 5) (.bin .leq (.fld (.star (.s 0)) 4) (.len (.fld (.star (.s 0)) 5))) (.c (.bool false))))]⟩)
.ret)),
[(1,.v)]⟩
theorem c103:compFn Try.prog fresh sig [.fz] [] Try.f103=some p103:=by kernel_rfl
def p104:Fn:=⟨3,[0,2,7],
(.seq
(.reg ⟨[],[],[(1,.v (.c (.bool false)))]⟩)
(.seq
(.seq
(.reg ⟨[],[],[(2,.v (.fld (.star (.s 0)) 3))]⟩)
(.cond (.s 2)
 (.seq
 (.reg ⟨[],[],[(1,.v (.bin .lss (.fld (.star (.s 0)) 4) (.len (.fld (.star (.s 0)) 5))))]⟩)
 .ret)
 .skip))
(.seq
(.reg ⟨[.lt 3 [] (.bin .eql (.len (.fld (.star (.s 0)) 7)) (.c (.int .i64 (0)))),.lt 4 [] (.ite (.s 3) (.bin .eql (.len (.fld (.star (.s 0)) 8)) (.c (.int .i64 (0)))) (.c (.bool false)))],[([(3,true)],(.bin .eql (.len (.fld (.star (.s 0)) 8)) (.c (.int .i64 (0))))),([(4,true)],(.bin .eql (.fld (.star (.s 0)) 4) (.len (.fld (.star (.s 0)) 5))))],[(1,.v (.ite (.s 4) (.bin .eql (.fld (.star (.s 0)) 4) (.len (.fld (.star (.s 0)) 5))) (.c (.bool false))))]⟩)
.ret))),
[(1,.v)]⟩
theorem c104:compFn Try.prog fresh sig [.fz] [] Try.f104=some p104:=by kernel_rfl
def p105:Fn:=⟨11,[0,2,3,8,9,4,5,6,7,18,39],
(.seq
(.reg ⟨[],[],[(1,.v (.c (.bool false)))]⟩)
(.seq
(.reg ⟨[],[],[(2,.v (.c (.bool true)))]⟩)
(.seq
.skip
(.seq
(.seq
(.reg ⟨[],[],[(3,.v (.c (.int .i64 (0))))]⟩)
(.block 0
 (.loop [0,1,2,3]
  (.seq
  (.reg ⟨[],[],[(4,.v (.bin .lss (.s 3) (.c (.int .i64 (4)))))]⟩)
  (.seq
  (.cond (.s 4)
   .skip
   (.exit 0))
  (.seq
  (.block 1
   (.seq
   (.reg ⟨[],[],[(5,.v (.s 3))]⟩)
   (.seq
   (.reg ⟨[],[],[(6,.v (.bin .add (.s 5) (.c (.int .i64 (1)))))]⟩)
   (.seq
   (.reg ⟨[],[],[(7,.v (.c (.sl [])))]⟩)
   (.seq
   (.reg ⟨[],[],[(8,.v (.c (.int .i64 (0))))]⟩)
   (.seq
   (.seq
   (.reg ⟨[.lt 11 [] (.bin .eql (.s 6) (.c (.int .i64 (1))))],[([(11,false)],(.bin .eql (.s 6) (.c (.int .i64 (2)))))],[(9,.v (.ite (.s 11) (.c (.bool true)) (.bin .eql (.s 6) (.c (.int .i64 (2))))))]⟩)
   (.cond (.s 9)
    (.reg ⟨[.call 12 [] (.id 113) false false [(.pt none [(.m 0 0),(.m 0 1),(.m 0 2),(.m 0 3),(.m 0 4),(.m 0 5),(.m 0 6),(.m 0 7),(.m 0 8),(.m 0 9),(.m 0 10),(.m 0 11),(.m 0 12),(.m 0 13),(.m 0 14),(.m 0 15),(.m 0 16),(.m 0 17),(.m 0 18),(.m 0 19),(.m 0 20),(.m 0 21),(.m 0 22)]),(.s 6)],.call 13 [] (.id 112) true false [(.s 12)]],[],[(7,.v (.ext (.s 13) 0)),(8,.v (.ext (.s 13) 1))]⟩)
    (.reg ⟨[.call 14 [] (.id 113) false false [(.pt none [(.m 0 0),(.m 0 1),(.m 0 2),(.m 0 3),(.m 0 4),(.m 0 5),(.m 0 6),(.m 0 7),(.m 0 8),(.m 0 9),(.m 0 10),(.m 0 11),(.m 0 12),(.m 0 13),(.m 0 14),(.m 0 15),(.m 0 16),(.m 0 17),(.m 0 18),(.m 0 19),(.m 0 20),(.m 0 21),(.m 0 22)]),(.s 6)],.call 15 [] (.id 113) false false [(.pt none [(.m 0 0),(.m 0 1),(.m 0 2),(.m 0 3),(.m 0 4),(.m 0 5),(.m 0 6),(.m 0 7),(.m 0 8),(.m 0 9),(.m 0 10),(.m 0 11),(.m 0 12),(.m 0 13),(.m 0 14),(.m 0 15),(.m 0 16),(.m 0 17),(.m 0 18),(.m 0 19),(.m 0 20),(.m 0 21),(.m 0 22)]),(.s 6)],.call 16 [] (.id 115) false false [(.pt none [(.m 0 0),(.m 0 1),(.m 0 2),(.m 0 3),(.m 0 4),(.m 0 5),(.m 0 6),(.m 0 7),(.m 0 8),(.m 0 9),(.m 0 10),(.m 0 11),(.m 0 12),(.m 0 13),(.m 0 14),(.m 0 15),(.m 0 16),(.m 0 17),(.m 0 18),(.m 0 19),(.m 0 20),(.m 0 21),(.m 0 22)]),(.s 15)],.call 17 [] (.id 114) true false [(.s 14),(.s 16)]],[],[(7,.v (.ext (.s 17) 0)),(8,.v (.ext (.s 17) 1))]⟩)))
   (.seq
   (.seq
   (.reg ⟨[],[],[(10,.v (.bin .neq (.s 8) (.c (.int .i64 (0)))))]⟩)
   (.cond (.s 10)
    (.seq
    (.reg ⟨[],[],[(2,.v (.c (.bool false)))]⟩)
    (.exit 0))
    .skip))
   (.reg ⟨[.callm 18 [] (.id 116) [(.mem [.fz,.fz,.fz,.fz,.fz,.fz,.fz,.fz,.fz,.fz,.fz,.fz,.fz,.fz,.fz,.fz,.fz,.fz,.fz,.fz,.fz,(.own 119),(.own 120)]),.fz,.fz] [(.ag [(.m 0 0),(.m 0 1),(.m 0 2),(.m 0 3),(.m 0 4),(.m 0 5),(.m 0 6),(.m 0 7),(.m 0 8),(.m 0 9),(.m 0 10),(.m 0 11),(.m 0 12),(.m 0 13),(.m 0 14),(.m 0 15),(.m 0 16),(.m 0 17),(.m 0 18),(.m 0 19),(.m 0 20),(.m 0 21),(.m 0 22)]),(.s 6),(.s 7)]],[],[(0,.m [(.fld (.ext (.s 18) 1) 0),(.fld (.ext (.s 18) 1) 1),(.fld (.ext (.s 18) 1) 2),(.fld (.ext (.s 18) 1) 3),(.fld (.ext (.s 18) 1) 4),(.fld (.ext (.s 18) 1) 5),(.fld (.ext (.s 18) 1) 6),(.fld (.ext (.s 18) 1) 7),(.fld (.ext (.s 18) 1) 8),(.fld (.ext (.s 18) 1) 9),(.fld (.ext (.s 18) 1) 10),(.fld (.ext (.s 18) 1) 11),(.fld (.ext (.s 18) 1) 12),(.fld (.ext (.s 18) 1) 13),(.fld (.ext (.s 18) 1) 14),(.fld (.ext (.s 18) 1) 15),(.fld (.ext (.s 18) 1) 16),(.fld (.ext (.s 18) 1) 17),(.fld (.ext (.s 18) 1) 18),(.fld (.ext (.s 18) 1) 19),(.fld (.ext (.s 18) 1) 20),(.fld (.ext (.s 18) 1) 21),(.fld (.ext (.s 18) 1) 22)])]⟩))))))))
  (.reg ⟨[],[],[(3,.v (.bin .add (.s 3) (.c (.int .i64 (1)))))]⟩)))))))
(.seq
(.reg ⟨[],[],[(1,.v (.s 2))]⟩)
.ret))))),
[(1,.v)]⟩
theorem c105:compFn Try.prog fresh sig [(.mem [.fz,.fz,.fz,.fz,.fz,.fz,.fz,.fz,.fz,.fz,.fz,.fz,.fz,.fz,.fz,.fz,.fz,.fz,.fz,.fz,.fz,(.own 119),(.own 120)])] [(0,(.mem [.fz,.fz,.fz,.fz,.fz,.fz,.fz,.fz,.fz,.fz,.fz,.fz,.fz,.fz,.fz,.fz,.fz,.fz,.fz,.fz,.fz,(.own 119),(.own 120)]))] Try.f105=some p105:=by kernel_rfl
def p106:Fn:=⟨13,[0,2,12,3,4,15,26,25,27,6,24,32,46],
(.seq
(.reg ⟨[],[],[(1,.v (.c (.bool false)))]⟩)
(.seq
(.seq
(.reg ⟨[],[],[(2,.v (.un .not (.fld (.star (.s 0)) 3)))]⟩)
(.cond (.s 2)
 (.seq
 (.reg ⟨[],[],[(1,.v (.c (.bool true)))]⟩)
 .ret)
 .skip))
(.seq
(.reg ⟨[],[],[(3,.v (.c (.mp 0 [] [])))]⟩)
(.seq
(.seq
(.reg ⟨[],[],[(4,.v (.c (.int .i64 (3))))]⟩)
(.block 0
 (.loop [0,1,2,3,4]
  (.seq
  (.seq
  (.reg ⟨[],[],[(5,.v (.bin .leq (.s 4) (.c (.int .i64 (4)))))]⟩)
  (.cond (.s 5)
   .skip
   (.exit 0)))
  (.seq
  (.block 1
   (.seq
   (.reg ⟨[],[],[(6,.v (.c (.int .i64 (0)))),(7,.v (.len (.fld (.ai (.flds (.star (.s 0)) 17 4) (.bin .sub (.s 4) (.c (.int .i64 (1)))) 4 1 true) 0))),(10,.v (.fld (.ai (.flds (.star (.s 0)) 17 4) (.bin .sub (.s 4) (.c (.int .i64 (1)))) 4 1 true) 0))]⟩)
   (.block 2
    (.loop [0,1,2,3,4,5,6,7,10]
     (.seq
     (.reg ⟨[],[],[(8,.v (.bin .lss (.s 6) (.s 7)))]⟩)
     (.seq
     (.cond (.s 8)
      .skip
      (.exit 2))
     (.seq
     (.block 3
      (.seq
      (.reg ⟨[],[],[(9,.m [(.fld (.flds (.idx (.s 10) (.s 6) 5) 0 5) 0),(.fld (.flds (.idx (.s 10) (.s 6) 5) 0 5) 1),(.fld (.flds (.idx (.s 10) (.s 6) 5) 0 5) 2),(.fld (.flds (.idx (.s 10) (.s 6) 5) 0 5) 3),(.fld (.flds (.idx (.s 10) (.s 6) 5) 0 5) 4)])]⟩)
      (.seq
      (.seq
      (.reg ⟨[],[],[(11,.v (.un .not (.m 9 3)))]⟩)
      (.cond (.s 11)
       (.exit 3)
       .skip))
      (.seq
      (.seq
      (.reg ⟨[.lt 13 [] (.bin .neq (.lk (.i .u64) (.fld (.star (.s 0)) 21) (.m 9 4) (.int .i64 (0)) false) (.c (.int .i64 (1))))],[([(13,false)],(.fl (.lk (.i .u64) (.s 3) (.m 9 4) (.bool false) false)))],[(12,.v (.ite (.s 13) (.c (.bool true)) (.fl (.lk (.i .u64) (.s 3) (.m 9 4) (.bool false) false))))]⟩)
      (.cond (.s 12)
       (.seq
       (.reg ⟨[],[],[(1,.v (.c (.bool false)))]⟩)
       .ret)
       .skip))
      (.reg ⟨[],[],[(3,.v (.mput (.i .u64) (.s 3) (.m 9 4) (.c (.bool true))))]⟩)))))
     (.reg ⟨[],[],[(6,.v (.bin .add (.s 6) (.c (.int .i64 (1)))))]⟩))))))))
  (.reg ⟨[],[],[(4,.v (.bin .add (.s 4) (.c (.int .i64 (1)))))]⟩))))))
(.seq
(.reg ⟨[],[],[(1,.v (.bin .eql (.mlen (.s 3)) (.len (.fld (.ai (.flds (.star (.s 0)) 17 4) (.c (.int .i64 (0))) 4 1 true) 0))))]⟩)
.ret))))),
[(1,.v)]⟩
theorem c106:compFn Try.prog fresh sig [.fz] [] Try.f106=some p106:=by kernel_rfl
def p107:Fn:=⟨9,[0,1,2,11,10,12,4,9,18],
(.seq
(.reg ⟨[],[],[(1,.m [(.one (.s 0))]),(2,.v (.c (.bool false)))]⟩)
(.seq
(.seq
(.reg ⟨[],[],[(3,.v (.c (.int .i64 (0)))),(4,.v (.len (.fld (.star (.m 1 0)) 9))),(7,.v (.fld (.star (.m 1 0)) 9))]⟩)
(.block 0
 (.loop [0,1,2,3,4,7]
  (.seq
  (.reg ⟨[],[],[(5,.v (.bin .lss (.s 3) (.s 4)))]⟩)
  (.seq
  (.cond (.s 5)
   .skip
   (.exit 0))
  (.seq
  (.block 1
   (.seq
   (.reg ⟨[],[],[(6,.v (.fld (.idx (.s 7) (.s 3) 1) 0))]⟩)
   (.seq
   (.reg ⟨[.call 9 [] (.id 117) false false [(.m 1 0),(.s 6),(.c (.int .i64 (1))),(.c (.int .i64 (2)))]],[],[(8,.v (.un .not (.s 9)))]⟩)
   (.cond (.s 8)
    (.seq
    (.reg ⟨[],[],[(2,.v (.c (.bool false)))]⟩)
    .ret)
    .skip))))
  (.reg ⟨[],[],[(3,.v (.bin .add (.s 3) (.c (.int .i64 (1)))))]⟩)))))))
(.seq
(.reg ⟨[.call 10 [] (.id 118) false true [(.m 1 0),(.c (.int .i64 (2))),(.pt (some 119) [(.pt none [(.m 1 0)])])],.lt 11 [] (.s 10),.call 12 [(11,true)] (.id 118) false true [(.m 1 0),(.c (.int .i64 (1))),(.pt (some 120) [(.pt none [(.m 1 0)])])]],[],[(2,.v (.ite (.s 11) (.s 12) (.c (.bool false))))]⟩)
.ret))),
[(2,.v)]⟩
theorem c107:compFn Try.prog fresh sig [.fz] [] Try.f107=some p107:=by kernel_rfl
def p108:Fn:=⟨3,[0,1,2],
(.seq
(.reg ⟨[],[],[(1,.m [(.one (.s 0))]),(2,.v (.c (.bool false)))]⟩)
(.seq
(.reg ⟨[.call 3 [] (.id 118) false true [(.m 1 0),(.c (.int .i64 (1))),(.pt (some 121) [(.pt none [(.m 1 0)])])]],[],[(2,.v (.s 3))]⟩)
.ret)),
[(2,.v)]⟩
theorem c108:compFn Try.prog fresh sig [.fz] [] Try.f108=some p108:=by kernel_rfl
def p109:Fn:=⟨4,[0,1,2,3],
(.seq
(.reg ⟨[],[],[(1,.m [(.one (.s 0))]),(2,.v (.c (.bool false)))]⟩)
(.seq
(.reg ⟨[],[],[(3,.no)]⟩)
(.seq
(.reg ⟨[.call 4 [] (.id 118) false true [(.m 1 0),(.c (.int .i64 (3))),(.pt (some 122) [(.pt none [(.m 1 0)])])],.lt 5 [] (.s 4),.call 6 [(5,true)] (.id 118) false true [(.m 1 0),(.c (.int .i64 (4))),(.pt (some 122) [(.pt none [(.m 1 0)])])]],[],[(2,.v (.ite (.s 5) (.s 6) (.c (.bool false)))),(3,.no)]⟩)
.ret))),
[(2,.v)]⟩
theorem c109:compFn Try.prog fresh sig [.fz] [] Try.f109=some p109:=by kernel_rfl
def p110:Fn:=⟨2,[0,2],
(.seq
(.reg ⟨[],[],[(1,.v (.c (.bool false)))]⟩)
(.seq
(.reg ⟨[.call 2 [] (.id 76) false false [(.s 0)]],[],[(1,.v (.bin .leq (.bin .add (.bin .add (.len (.fld (.star (.s 0)) 5)) (.len (.fld (.star (.s 0)) 6))) (.s 2)) (.fld (.star (.s 0)) 1)))]⟩)
.ret)),
[(1,.v)]⟩
theorem c110:compFn Try.prog fresh sig [.fz] [] Try.f110=some p110:=by kernel_rfl
def p113:Fn:=⟨3,[0,1,4],
(.seq
(.reg ⟨[],[],[(2,.v (.c (.sl [])))]⟩)
(.seq
(.reg ⟨[],[],[(2,.v (.ai (.ag [(.fld (.star (.s 0)) 5),(.fld (.star (.s 0)) 6),(.fld (.star (.s 0)) 7),(.fld (.star (.s 0)) 8)]) (.bin .sub (.s 1) (.c (.int .i64 (1)))) 4 1 false))]⟩)
.ret)),
[(2,.v)]⟩
theorem c113:compFn Try.prog fresh sig [.fz,.fz] [] Try.f113=some p113:=by kernel_rfl
def p115:Fn:=⟨14,[0,1,4,5,6,15,7,8,9,25,10,11,36,52],
(.seq
(.reg ⟨[],[],[(2,.v (.c (.sl [])))]⟩)
(.seq
(.reg ⟨[],[],[(3,.v (.c (.sl [])))]⟩)
(.seq
(.seq
(.reg ⟨[],[],[(4,.v (.c (.int .i64 (0))))]⟩)
(.block 0
 (.loop [0,1,2,3,4]
  (.seq
  (.seq
  (.reg ⟨[],[],[(5,.v (.bin .lss (.s 4) (.len (.s 1))))]⟩)
  (.cond (.s 5)
   .skip
   (.exit 0)))
  (.block 1
   (.seq
   (.reg ⟨[],[],[(6,.m [(.c (.int .i64 (0))),(.c (.int .i64 (0)))])]⟩)
   (.seq
   (.seq
   (.reg ⟨[.call 14 [] (.id 57) false false [(.fld (.idx (.s 1) (.s 4) 1) 0)]],[],[(7,.v (.ext (.s 14) 0)),(8,.v (.ext (.s 14) 1))]⟩)
   (.seq
   (.reg ⟨[],[],[(9,.v (.bin .eql (.s 8) (.c (.int .i64 (0)))))]⟩)
   (.cond (.s 9)
    (.seq
    (.reg ⟨[],[],[(10,.m [(.fld (.sz (.ext (.lk (.i .u64) (.fld (.star (.s 0)) 22) (.s 7) (.agg [(.int .i64 (0)),(.int .i64 (0))]) true) 0) 2) 0),(.fld (.sz (.ext (.lk (.i .u64) (.fld (.star (.s 0)) 22) (.s 7) (.agg [(.int .i64 (0)),(.int .i64 (0))]) true) 0) 2) 1)]),(11,.v (.ext (.lk (.i .u64) (.fld (.star (.s 0)) 22) (.s 7) (.agg [(.int .i64 (0)),(.int .i64 (0))]) true) 1))]⟩)
    (.seq
    (.seq
    (.reg ⟨[],[],[(12,.v (.un .not (.s 11)))]⟩)
    (.cond (.s 12)
     (.seq
     (.reg ⟨[],[],[(2,.v (.s 3)),(3,.no)]⟩)
     .ret)
     .skip))
    (.seq
    (.reg ⟨[],[],[(6,.m [(.fld (.mm 10 0 2) 0),(.fld (.mm 10 0 2) 1)])]⟩)
    (.reg ⟨[],[],[(3,.v (.app (.s 3) (.lit [(.mm 6 0 2)]) 2))]⟩))))
    (.seq
    (.reg ⟨[.call 15 [] (.id 60) false false [(.fld (.idx (.s 1) (.s 4) 1) 0)]],[],[(6,.m [(.fld (.sz (.ext (.s 15) 0) 2) 0),(.fld (.sz (.ext (.s 15) 0) 2) 1)]),(8,.v (.ext (.s 15) 1))]⟩)
    (.seq
    (.reg ⟨[],[],[(13,.v (.bin .neq (.s 8) (.c (.int .i64 (0)))))]⟩)
    (.cond (.s 13)
     (.seq
     (.reg ⟨[],[],[(2,.v (.s 3)),(3,.no)]⟩)
     .ret)
     .skip))))))
   (.reg ⟨[],[],[(4,.v (.bin .add (.s 4) (.bin .add (.c (.int .i64 (1))) (.m 6 0))))]⟩))))))))
(.seq
(.reg ⟨[],[],[(2,.v (.s 3)),(3,.no)]⟩)
.ret)))),
[(2,.v)]⟩
theorem c115:compFn Try.prog fresh sig [.fz,.fz] [] Try.f115=some p115:=by kernel_rfl
def p116:Fn:=⟨11,[0,1,2,19,18,20,7,17,8,9,42],
(.seq
(.reg ⟨[],[([],(.ai (.c (.agg [(.bool true),(.bool true),(.bool true),(.bool true)])) (.bin .sub (.s 1) (.c (.int .i64 (1)))) 4 1 false))],[(0,.m [(.m 0 0),(.m 0 1),(.m 0 2),(.m 0 3),(.m 0 4),(.m 0 5),(.m 0 6),(.m 0 7),(.m 0 8),(.m 0 9),(.m 0 10),(.m 0 11),(.m 0 12),(.m 0 13),(.m 0 14),(.m 0 15),(.m 0 16),(.fld (.aput (.mm 0 17 4) (.bin .sub (.s 1) (.c (.int .i64 (1)))) 4 1 (.one (.s 2))) 0),(.fld (.aput (.mm 0 17 4) (.bin .sub (.s 1) (.c (.int .i64 (1)))) 4 1 (.one (.s 2))) 1),(.fld (.aput (.mm 0 17 4) (.bin .sub (.s 1) (.c (.int .i64 (1)))) 4 1 (.one (.s 2))) 2),(.fld (.aput (.mm 0 17 4) (.bin .sub (.s 1) (.c (.int .i64 (1)))) 4 1 (.one (.s 2))) 3),(.m 0 21),(.m 0 22)])]⟩)
(.seq
(.reg ⟨[],[],[(3,.v (.c (.int .i64 (0)))),(4,.v (.len (.s 2))),(7,.v (.s 2))]⟩)
(.block 0
 (.loop [0,1,2,3,4,7]
  (.seq
  (.reg ⟨[],[],[(5,.v (.bin .lss (.s 3) (.s 4)))]⟩)
  (.seq
  (.cond (.s 5)
   .skip
   (.exit 0))
  (.seq
  (.block 1
   (.seq
   (.reg ⟨[],[],[(6,.m [(.fld (.flds (.idx (.s 7) (.s 3) 5) 0 5) 0),(.fld (.flds (.idx (.s 7) (.s 3) 5) 0 5) 1),(.fld (.flds (.idx (.s 7) (.s 3) 5) 0 5) 2),(.fld (.flds (.idx (.s 7) (.s 3) 5) 0 5) 3),(.fld (.flds (.idx (.s 7) (.s 3) 5) 0 5) 4)])]⟩)
   (.seq
   (.reg ⟨[.call 11 [] (.id 39) false false [(.mm 0 10 7),(.ag [(.one (.s 1)),(.m 6 0)])]],[],[(8,.v (.ext (.s 11) 0)),(9,.v (.ext (.s 11) 1))]⟩)
   (.seq
   (.reg ⟨[],[],[(0,.m [(.m 0 0),(.m 0 1),(.m 0 2),(.m 0 3),(.m 0 4),(.m 0 5),(.m 0 6),(.m 0 7),(.m 0 8),(.m 0 9),(.m 0 10),(.m 0 11),(.m 0 12),(.m 0 13),(.m 0 14),(.m 0 15),(.m 0 16),(.m 0 17),(.m 0 18),(.m 0 19),(.m 0 20),(.mput (.i .u64) (.m 0 21) (.s 8) (.s 1)),(.m 0 22)])]⟩)
   (.seq
   (.reg ⟨[],[],[(10,.v (.bin .eql (.s 1) (.c (.int .i64 (1)))))]⟩)
   (.cond (.s 10)
    (.reg ⟨[],[],[(0,.m [(.m 0 0),(.m 0 1),(.m 0 2),(.m 0 3),(.m 0 4),(.m 0 5),(.m 0 6),(.m 0 7),(.m 0 8),(.m 0 9),(.m 0 10),(.m 0 11),(.m 0 12),(.m 0 13),(.m 0 14),(.m 0 15),(.m 0 16),(.m 0 17),(.m 0 18),(.m 0 19),(.m 0 20),(.m 0 21),(.mput (.i .u64) (.m 0 22) (.s 8) (.mm 6 1 2))])]⟩)
    .skip))))))
  (.reg ⟨[],[],[(3,.v (.bin .add (.s 3) (.c (.int .i64 (1)))))]⟩)))))))),
[]⟩
theorem c116:compFn Try.prog fresh sig [(.mem [.fz,.fz,.fz,.fz,.fz,.fz,.fz,.fz,.fz,.fz,.fz,.fz,.fz,.fz,.fz,.fz,.fz,.fz,.fz,.fz,.fz,(.own 119),(.own 120)]),.fz,.fz] [(0,(.mem [.fz,.fz,.fz,.fz,.fz,.fz,.fz,.fz,.fz,.fz,.fz,.fz,.fz,.fz,.fz,.fz,.fz,.fz,.fz,.fz,.fz,(.own 119),(.own 120)]))] Try.f116=some p116:=by kernel_rfl
def p117:Fn:=⟨11,[0,1,2,3,8,14,9,10,21,11,12],
(.seq
(.reg ⟨[],[],[(4,.v (.c (.bool false)))]⟩)
(.seq
(.seq
(.reg ⟨[],[],[(5,.v (.bin .eql (.s 1) (.c (.int .u64 (0)))))]⟩)
(.cond (.s 5)
 (.seq
 (.reg ⟨[],[],[(4,.v (.c (.bool true)))]⟩)
 .ret)
 .skip))
(.seq
(.reg ⟨[.call 11 [] (.id 57) false false [(.s 1)]],[],[(6,.v (.ext (.s 11) 0)),(7,.v (.ext (.s 11) 1))]⟩)
(.seq
(.seq
(.reg ⟨[],[],[(8,.v (.bin .neq (.s 7) (.c (.int .i64 (0)))))]⟩)
(.cond (.s 8)
 (.seq
 (.reg ⟨[],[],[(4,.v (.c (.bool false)))]⟩)
 .ret)
 .skip))
(.seq
(.reg ⟨[],[],[(9,.v (.ext (.lk (.i .u64) (.fld (.star (.s 0)) 21) (.s 6) (.int .i64 (0)) true) 0)),(10,.v (.ext (.lk (.i .u64) (.fld (.star (.s 0)) 21) (.s 6) (.int .i64 (0)) true) 1))]⟩)
(.seq
(.reg ⟨[.lt 12 [] (.s 10),.lt 13 [] (.ite (.s 12) (.bin .geq (.s 9) (.s 2)) (.c (.bool false)))],[([(12,true)],(.bin .geq (.s 9) (.s 2))),([(13,true)],(.bin .leq (.s 9) (.s 3)))],[(4,.v (.ite (.s 13) (.bin .leq (.s 9) (.s 3)) (.c (.bool false))))]⟩)
.ret)))))),
[(4,.v)]⟩
theorem c117:compFn Try.prog fresh sig [.fz,.fz,.fz,.fz] [] Try.f117=some p117:=by kernel_rfl
def p118:Fn:=⟨17,[0,1,2,6,7,23,22,24,9,21,28,32,31,33,10,11,47],
(.seq
(.reg ⟨[],[],[(3,.v (.c (.bool false)))]⟩)
(.seq
(.reg ⟨[.call 17 [] (.id 113) false false [(.s 0),(.s 1)]],[],[(4,.v (.s 17))]⟩)
(.seq
(.seq
(.reg ⟨[],[],[(5,.v (.c (.int .i64 (0)))),(6,.v (.len (.fld (.ai (.flds (.star (.s 0)) 17 4) (.bin .sub (.s 1) (.c (.int .i64 (1)))) 4 1 true) 0))),(9,.v (.fld (.ai (.flds (.star (.s 0)) 17 4) (.bin .sub (.s 1) (.c (.int .i64 (1)))) 4 1 true) 0))]⟩)
(.block 0
 (.loop [0,1,2,3,4,5,6,9]
  (.seq
  (.reg ⟨[],[],[(7,.v (.bin .lss (.s 5) (.s 6)))]⟩)
  (.seq
  (.cond (.s 7)
   .skip
   (.exit 0))
  (.seq
  (.block 1
   (.seq
   (.reg ⟨[],[],[(8,.m [(.fld (.flds (.idx (.s 9) (.s 5) 5) 0 5) 0),(.fld (.flds (.idx (.s 9) (.s 5) 5) 0 5) 1),(.fld (.flds (.idx (.s 9) (.s 5) 5) 0 5) 2),(.fld (.flds (.idx (.s 9) (.s 5) 5) 0 5) 3),(.fld (.flds (.idx (.s 9) (.s 5) 5) 0 5) 4)])]⟩)
   (.seq
   (.seq
   (.reg ⟨[],[],[(10,.v (.m 8 3))]⟩)
   (.cond (.s 10)
    (.exit 1)
    .skip))
   (.seq
   (.reg ⟨[],[],[(11,.v (.c (.int .i64 (0)))),(12,.v (.m 8 2))]⟩)
   (.block 2
    (.loop [0,1,2,3,4,5,6,7,8,9,10,11,12]
     (.seq
     (.reg ⟨[],[],[(13,.v (.bin .lss (.s 11) (.s 12)))]⟩)
     (.seq
     (.cond (.s 13)
      .skip
      (.exit 2))
     (.seq
     (.block 3
      (.seq
      (.reg ⟨[],[],[(14,.v (.s 11))]⟩)
      (.seq
      (.reg ⟨[],[],[(15,.v (.bin .add (.bin .add (.m 8 0) (.c (.int .i64 (1)))) (.s 14)))]⟩)
      (.seq
      (.reg ⟨[.call 18 [] (.e (.s 2)) false false [(.s 15),(.fld (.idx (.s 4) (.s 15) 1) 0)]],[],[(16,.v (.un .not (.s 18)))]⟩)
      (.cond (.s 16)
       (.seq
       (.reg ⟨[],[],[(3,.v (.c (.bool false)))]⟩)
       .ret)
       .skip)))))
     (.reg ⟨[],[],[(11,.v (.bin .add (.s 11) (.c (.int .i64 (1)))))]⟩))))))))))
  (.reg ⟨[],[],[(5,.v (.bin .add (.s 5) (.c (.int .i64 (1)))))]⟩)))))))
(.seq
(.reg ⟨[],[],[(3,.v (.c (.bool true)))]⟩)
.ret)))),
[(3,.v)]⟩
theorem c118:compFn Try.prog fresh sig [.fz,.fz,.fz] [] Try.f118=some p118:=by kernel_rfl
def p119:Fn:=⟨4,[0,1,2,5],
(.seq
(.reg ⟨[],[],[(3,.v (.c (.bool false)))]⟩)
(.seq
(.reg ⟨[.call 4 [] (.id 117) false false [(.fld (.star (.s 2)) 0),(.s 1),(.c (.int .i64 (1))),(.c (.int .i64 (2)))]],[],[(3,.v (.s 4))]⟩)
.ret)),
[(3,.v)]⟩
theorem c119:compFn Try.prog fresh sig [.fz,.fz,.fz] [] Try.f119=some p119:=by kernel_rfl
def p120:Fn:=⟨4,[0,1,2,5],
(.seq
(.reg ⟨[],[],[(3,.v (.c (.bool false)))]⟩)
(.seq
(.reg ⟨[.lt 4 [] (.bin .geq (.s 0) (.fld (.star (.fld (.star (.s 2)) 0)) 4)),.call 5 [(4,false)] (.id 117) false false [(.fld (.star (.s 2)) 0),(.s 1),(.c (.int .i64 (1))),(.c (.int .i64 (2)))]],[],[(3,.v (.ite (.s 4) (.c (.bool true)) (.s 5)))]⟩)
.ret)),
[(3,.v)]⟩
theorem c120:compFn Try.prog fresh sig [.fz,.fz,.fz] [] Try.f120=some p120:=by kernel_rfl
def p121:Fn:=⟨4,[0,1,2,5],
(.seq
(.reg ⟨[],[],[(3,.v (.c (.bool false)))]⟩)
(.seq
(.reg ⟨[.lt 4 [] (.bin .lss (.s 0) (.fld (.star (.fld (.star (.s 2)) 0)) 4)),.call 5 [(4,false)] (.id 117) false false [(.fld (.star (.s 2)) 0),(.s 1),(.c (.int .i64 (1))),(.c (.int .i64 (4)))]],[],[(3,.v (.ite (.s 4) (.c (.bool true)) (.s 5)))]⟩)
.ret)),
[(3,.v)]⟩
theorem c121:compFn Try.prog fresh sig [.fz,.fz,.fz] [] Try.f121=some p121:=by kernel_rfl
def p122:Fn:=⟨4,[0,1,2,5],
(.seq
(.reg ⟨[],[],[(3,.v (.c (.bool false)))]⟩)
(.seq
(.reg ⟨[.call 4 [] (.id 117) false false [(.fld (.star (.s 2)) 0),(.s 1),(.c (.int .i64 (3))),(.c (.int .i64 (4)))]],[],[(3,.v (.s 4))]⟩)
.ret)),
[(3,.v)]⟩
theorem c122:compFn Try.prog fresh sig [.fz,.fz,.fz] [] Try.f122=some p122:=by kernel_rfl
end Vm
end
section
namespace Vm
open Go Go.Proofs
set_option maxRecDepth 100000
set_option maxHeartbeats 1000000
def putA{α:Type}(l:List (Int×α))(k:Int)(v:α):List (Int×α):=match l.findIdx? (·.1==k)with
 |some i=>l.set i (k,v)
 |none=>l++ [(k,v)]
def getA{α:Type}(l:List (Int×α))(k:Int):Option α:=(l.find? (·.1==k)).map (·.2)
def mpA{α:Type}(f:α→V)(l:List (Int×α)):V:= .mp 0 (l.map fun x=>vu x.1) (l.map fun x=>f x.2)
theorem findV_vu{α:Type}{k:Int}: ∀ {l:List (Int×α)},findV (vu k) (l.map fun x=>vu x.1)=some (l.findIdx? (·.1==k))
 | []=>rfl
 |y::l=>by
  simp only[List.map_cons,findV,keyEq,if_true,List.findIdx?_cons]
  by_cases h:k=y.1
  ·simp[h]
  ·have h2:(k==y.1)=false:=by simpa using h
   have h3:(y.1==k)=false:=by simpa using Ne.symm h
   simp[h2,h3,findV_vu]
theorem find_of_idx{α:Type}{p:α→Bool}: ∀ {l:List α},l.find? p=(l.findIdx? p).bind fun i=>l[i]?
 | []=>rfl
 |x::l=>by
  rw[List.find?_cons,List.findIdx?_cons]
  cases h:p x
  ·simp only[Bool.false_eq_true,if_false]
   rw[find_of_idx (l:=l)]
   cases l.findIdx? p<;>simp
  ·simp
theorem lkV_A{α:Type}{f:α→V}{l:List (Int×α)}{k:Int}{z:V}{ok:Bool}:lkV (.i .u64) (mpA f l) (vu k) z ok=match getA l k with
  |some x=>some (if ok then .tup [f x,.bool true]else f x)
  |none=>some (if ok then .tup [z,.bool false]else z):=by
 unfold lkV mpA getA
 simp only[isK,decide_true,Bool.true_eq_false,if_false,findV_vu,find_of_idx]
 cases h:l.findIdx? (·.1==k)with
 |none=>rfl
 |some i=>
  have hlt:i<l.length:=(List.findIdx?_eq_some_iff_getElem.1 h).1
  simp[hlt]
theorem mputV_A{α:Type}{f:α→V}{l:List (Int×α)}{k:Int}{x:α}:mputV (.i .u64) (mpA f l) (vu k) (f x)=some (mpA f (putA l k x)):=by
 unfold mputV mpA putA
 simp only[isK,decide_true,Bool.true_eq_false,if_false,findV_vu]
 cases h:l.findIdx? (·.1==k)with
 |none=>simp
 |some i=>
  have hh:=List.findIdx?_eq_some_iff_getElem.1 h
  obtain⟨hlt,hk,_⟩:=hh
  have hk':(l[i]).1=k:=by simpa using hk
  simp only[Option.some.injEq,V.mp.injEq,true_and]
  constructor
  ·rw[List.map_set]
   apply List.ext_getElem?
   intro j
   rw[List.getElem?_set]
   split
   ·rename_i e
    subst e
    simp[hlt,hk']
   ·rfl
  ·rw[List.map_set]
@[simp] theorem oneV_A{α:Type}(f:α→V)(l:List (Int×α)):oneV (mpA f l)=some (mpA f l):=rfl
@[simp] theorem cells_A{α:Type}(f:α→V)(l:List (Int×α)):(mpA f l).cells= [mpA f l]:=rfl
@[simp] theorem one_A{α:Type}(f:α→V)(l:List (Int×α)):(mpA f l).one=true:=rfl
@[simp] theorem mlen_A{α:Type}(f:α→V)(l:List (Int×α)):mlenV (mpA f l)=some (vi l.length):=by simp[mpA]
theorem getA_put{α:Type}{l:List (Int×α)}{k j:Int}{x:α}:getA (putA l k x) j=if k=j then some x else getA l j:=by
 unfold getA putA
 cases h:l.findIdx? (·.1==k)with
 |none=>
  have hn: ∀y∈l,¬y.1=k:=by
   intro y hy e
   have:=List.findIdx?_eq_none_iff.1 h y hy
   simp[e]at this
  simp only[List.find?_append]
  by_cases e:k=j
  ·subst e
   have:l.find? (·.1==k)=none:=by
    rw[List.find?_eq_none]
    intro y hy
    simpa using hn y hy
   simp[this]
  ·have h3:(k==j)=false:=by simpa using e
   simp[e,h3]
 |some i=>
  obtain⟨hlt,hk,hmin⟩:=List.findIdx?_eq_some_iff_getElem.1 h
  have hk':(l[i]).1=k:=by simpa using hk
  simp only
  by_cases e:k=j
  ·subst e
   rw[if_pos rfl,find_of_idx]
   have:(l.set i (k,x)).findIdx? (·.1==k)=some i:=by
    rw[List.findIdx?_eq_some_iff_getElem]
    refine⟨by simpa using hlt,by simp,?_⟩
    intro q hq
    rw[List.getElem_set_ne (by omega)]
    exact hmin q hq
   rw[this]
   simp[hlt]
  ·rw[if_neg e,find_of_idx,find_of_idx]
   have:(l.set i (k,x)).findIdx? (·.1==j)=l.findIdx? (·.1==j):=by
    apply Option.ext
    intro q
    rw[List.findIdx?_eq_some_iff_getElem,List.findIdx?_eq_some_iff_getElem]
    have hj:((k,x).1==j)=false:=by simpa using e
    have hj':((l[i]).1==j)=false:=by rw[hk'];simpa using e
    constructor
    ·rintro⟨h1,h2,h3⟩
     have h1':q<l.length:=by simpa using h1
     by_cases eq:q=i
     ·subst eq;simp at h2;exact(e h2).elim
     ·rw[List.getElem_set_ne (Ne.symm eq)]at h2
      refine⟨h1',h2,fun r hr=> ?_⟩
      by_cases er:r=i
      ·subst er;simp[hj']
      ·have:=h3 r hr
       rw[List.getElem_set_ne (Ne.symm er)]at this
       exact this
    ·rintro⟨h1,h2,h3⟩
     by_cases eq:q=i
     ·subst eq;rw[hj']at h2;cases h2
     ·refine⟨by simpa using h1,by rw[List.getElem_set_ne (Ne.symm eq)];exact h2,fun r hr=> ?_⟩
      by_cases er:r=i
      ·subst er;simp[hj]
      ·rw[List.getElem_set_ne (Ne.symm er)];exact h3 r hr
   rw[this]
   cases hq:l.findIdx? (·.1==j)with
   |none=>rfl
   |some q=>
    obtain⟨h1,h2,_⟩:=List.findIdx?_eq_some_iff_getElem.1 hq
    have:q≠i:=by
     intro eq;subst eq
     rw[hk']at h2
     exact e (by simpa using h2)
    simp[List.getElem?_set_ne (Ne.symm this)]
structure Ck where
 h:Hp
 o1:List Ob
 o2:List Ob
 o3:List Ob
 o4:List Ob
 pm:List (Int×Int)
 lm:List (Int×(Int×Int))
def Ck.obs(s:Ck)(k:Int):List Ob:=if k=1 then s.o1 else if k=2 then s.o2 else if k=3 then s.o3 else s.o4
def ckL(s:Ck):List V:= [vu s.h.base,vi s.h.cap,vi s.h.to,.bool s.h.cycle,vi s.h.scan,.sl (s.h.low.map vu),.sl (s.h.high.map vu),.sl (s.h.old.map vu),.sl (s.h.far.map vu),.sl (s.h.roots.map vu),
 vu s.h.base,vi s.h.cap,vi s.h.to,vi s.h.low.length,vi s.h.high.length,vi s.h.old.length,vi s.h.far.length,
 .sl (s.o1.map obV),.sl (s.o2.map obV),.sl (s.o3.map obV),.sl (s.o4.map obV),mpA vi s.pm,mpA shP s.lm]
def ckP(s:Ck):V:= .ptr (ckL s)
theorem w64_0:IntKind.i64.wrap 0=0:=by decide
theorem w64_1:IntKind.i64.wrap 1=1:=by decide
theorem w64_2:IntKind.i64.wrap 2=2:=by decide
theorem w64_3:IntKind.i64.wrap 3=3:=by decide
theorem words_vc{s:Ck}{k:Int}(hk:1≤k∧k≤4):VC Try.prog 113 false [ckP s,vi k] (.sl ((partH s.h k).map vu)):=by
 refine vc_of_wp Try.func113 follows (by kernel_rfl) c113 rfl ?_
 have:k=1∨k=2∨k=3∨k=4:=by omega
 rcases this with rfl|rfl|rfl|rfl<;>simp[p113,ckP,ckL,partH,aiV,w64_0,w64_1,w64_2,w64_3]
def pointsR(s:Ck)(w first last:Int):Bool:=decide (w=0)||(decide ((adr w).2=0)&&match getA s.pm (adr w).1 with
 |some k=>decide (first≤k)&&decide (k≤last)
 |none=>false)
theorem points_vc{s:Ck}{w first last:Int}(hw:U64 w):VC Try.prog 117 false [ckP s,vu w,vi first,vi last] (.bool (pointsR s w first last)):=by
 refine vc_of_wp Try.func117 follows (by kernel_rfl) c117 rfl ?_
 unfold pointsR
 by_cases h0:w=0
 ·simp[p117,h0]
 simp[p117,h0,ckP,ckL]
 refine callW_of (adr_vc hw) (by simp) ?_
 by_cases h1:(adr w).2=0
 case neg=>simp[h1]
 simp[h1,lkV_A]
 cases hg:getA s.pm (adr w).1 with
 |none=>simp
 |some k=>
  by_cases h2:first≤k
  ·by_cases h3:k≤last<;>simp[h2,h3]
  ·simp[h2]
def notePm(h:Hp)(k:Int):List (Int×Int)→List Ob→List (Int×Int)
 |m,[]=>m
 |m,o::l=>notePm h k (putA m (addrL (layH h) k o.at_).1 k) l
def noteLm(h:Hp)(k:Int):List (Int×(Int×Int))→List Ob→List (Int×(Int×Int))
 |m,[]=>m
 |m,o::l=>noteLm h k (if k=1 then putA m (addrL (layH h) k o.at_).1 (o.size,o.ptrs)else m) l
def Ck.put(s:Ck)(k:Int)(l:List Ob):Ck:=if k=1 then {s with o1:=l}else if k=2 then {s with o2:=l}else if k=3 then {s with o3:=l}else {s with o4:=l}
def noteS(s:Ck)(k:Int)(l:List Ob):Ck:= {s.put k l with pm:=notePm s.h k s.pm l,lm:=noteLm s.h k s.lm l}
theorem notePm_take{h:Hp}{k:Int}: ∀ {l:List Ob} {i:Nat} {o:Ob} {m:List (Int×Int)},l[i]? =some o→notePm h k m (l.take (i+1))=putA (notePm h k m (l.take i)) (addrL (layH h) k o.at_).1 k
 | [],_,_,_,h=>by simp at h
 |x::l,0,o,m,h=>by simp at h;subst h;simp[notePm]
 |x::l,i+1,o,m,h=>by
  simp only[List.take_succ_cons,notePm]
  exact notePm_take (by simpa using h)
theorem noteLm_take{h:Hp}{k:Int}: ∀ {l:List Ob} {i:Nat} {o:Ob} {m:List (Int×(Int×Int))},l[i]? =some o→noteLm h k m (l.take (i+1))=if k=1 then putA (noteLm h k m (l.take i)) (addrL (layH h) k o.at_).1 (o.size,o.ptrs)else noteLm h k m (l.take i)
 | [],_,_,_,h=>by simp at h
 |x::l,0,o,m,h=>by simp at h;subst h;simp[noteLm]
 |x::l,i+1,o,m,h=>by
  simp only[List.take_succ_cons,noteLm]
  exact noteLm_take (by simpa using h)
abbrev ckK:List CK:= [.fz,.fz,.fz,.fz,.fz,.fz,.fz,.fz,.fz,.fz,.fz,.fz,.fz,.fz,.fz,.fz,.fz,.fz,.fz,.fz,.fz,.own 119,.own 120]
@[simp] theorem put_h(s:Ck)(k:Int)(l:List Ob):(s.put k l).h=s.h:=by
 unfold Ck.put
 split
 ·rfl
 split
 ·rfl
 split<;>rfl
theorem mputV_i{l:List (Int×Int)}{k x:Int}:mputV (.i .u64) (mpA vi l) (vu k) (vi x)=some (mpA vi (putA l k x)):=mputV_A
theorem mputV_sh{l:List (Int×(Int×Int))}{k a b:Int}:mputV (.i .u64) (mpA shP l) (vu k) (.agg [vi a,vi b])=some (mpA shP (putA l k (a,b))):=mputV_A (f:=shP) (x:=(a,b))
theorem note_vcm{s:Ck}(hh:s.h.ok){k:Int}(hk:1≤k∧k≤4){l:List Ob}(hl:l.length≤1000000):VCM Try.prog 116 [.mem ckK,.fz,.fz] [.agg (ckL s),vi k,.sl (l.map obV)] (.tup [.tup [],.agg (ckL (noteS s k l))]):=by
 refine vcm_of_wp Try.func116 follows (by kernel_rfl) c116 (by kernel_rfl) ?_
 have k4:k=1∨k=2∨k=3∨k=4:=by omega
 have hlim:l.length≤lim:=by unfold lim;omega
 have h0: ∀k,({s.put k l with pm:=s.pm,lm:=s.lm}:Ck)=s.put k l:=by
  intro k
  unfold Ck.put
  split
  ·rfl
  split
  ·rfl
  split<;>rfl
 have ka:=fun(k at_:Int)=>addrL_vc hh.lay (part:=k) (at_:=at_)
 unfold layH lyV at ka
 rcases k4 with rfl|rfl|rfl|rfl
 ·simp[p116,ckL,aiV,aputV,w64_0,w64_1,w64_2,w64_3,setCells]
  refine wpS_for 3 l.length (fun i=> [(0,.m (ckL {s.put 1 l with pm:=notePm s.h 1 s.pm (l.take i),lm:=noteLm s.h 1 s.lm (l.take i)})),(3,.v (vi i))]) (fun _=>True) (by simp[ckL,Ck.put,notePm,noteLm]) (by simp) trivial ?_
  intro i hi _
  have hwi:=wrap_i ((i:Int)+1) (by omega) (by omega)
  by_cases hlt:i<l.length
  ·have hx:l[i]? =some l[i]:=List.getElem?_eq_getElem hlt
   have e1:=notePm_take (h:=s.h) (k:=1) (m:=s.pm) hx
   have e2:=noteLm_take (h:=s.h) (k:=1) (m:=s.lm) hx
   have ko:=ka 1 (l[i]).at_
   simp[hlt,hx,hwi,ckL,idxV]
   refine callW_of ko (by simp) ?_
   simp[mputV_i,mputV_sh,e1,e2,hwi,hlt]
   first|done|rfl|exact⟨rfl,rfl⟩
  ·have:i=l.length:=by omega
   subst this
   simp[ckL,noteS,List.take_of_length_le]
 ·simp[p116,ckL,aiV,aputV,w64_0,w64_1,w64_2,w64_3,setCells]
  refine wpS_for 3 l.length (fun i=> [(0,.m (ckL {s.put 2 l with pm:=notePm s.h 2 s.pm (l.take i),lm:=noteLm s.h 2 s.lm (l.take i)})),(3,.v (vi i))]) (fun _=>True) (by simp[ckL,Ck.put,notePm,noteLm]) (by simp) trivial ?_
  intro i hi _
  have hwi:=wrap_i ((i:Int)+1) (by omega) (by omega)
  by_cases hlt:i<l.length
  ·have hx:l[i]? =some l[i]:=List.getElem?_eq_getElem hlt
   have e1:=notePm_take (h:=s.h) (k:=2) (m:=s.pm) hx
   have e2:=noteLm_take (h:=s.h) (k:=2) (m:=s.lm) hx
   have ko:=ka 2 (l[i]).at_
   simp[hlt,hx,hwi,ckL,idxV]
   refine callW_of ko (by simp) ?_
   simp[mputV_i,mputV_sh,e1,e2,hwi,hlt]
   first|done|rfl|exact⟨rfl,rfl⟩
  ·have:i=l.length:=by omega
   subst this
   simp[ckL,noteS,List.take_of_length_le]
 ·simp[p116,ckL,aiV,aputV,w64_0,w64_1,w64_2,w64_3,setCells]
  refine wpS_for 3 l.length (fun i=> [(0,.m (ckL {s.put 3 l with pm:=notePm s.h 3 s.pm (l.take i),lm:=noteLm s.h 3 s.lm (l.take i)})),(3,.v (vi i))]) (fun _=>True) (by simp[ckL,Ck.put,notePm,noteLm]) (by simp) trivial ?_
  intro i hi _
  have hwi:=wrap_i ((i:Int)+1) (by omega) (by omega)
  by_cases hlt:i<l.length
  ·have hx:l[i]? =some l[i]:=List.getElem?_eq_getElem hlt
   have e1:=notePm_take (h:=s.h) (k:=3) (m:=s.pm) hx
   have e2:=noteLm_take (h:=s.h) (k:=3) (m:=s.lm) hx
   have ko:=ka 3 (l[i]).at_
   simp[hlt,hx,hwi,ckL,idxV]
   refine callW_of ko (by simp) ?_
   simp[mputV_i,mputV_sh,e1,e2,hwi,hlt]
   first|done|rfl|exact⟨rfl,rfl⟩
  ·have:i=l.length:=by omega
   subst this
   simp[ckL,noteS,List.take_of_length_le]
 ·simp[p116,ckL,aiV,aputV,w64_0,w64_1,w64_2,w64_3,setCells]
  refine wpS_for 3 l.length (fun i=> [(0,.m (ckL {s.put 4 l with pm:=notePm s.h 4 s.pm (l.take i),lm:=noteLm s.h 4 s.lm (l.take i)})),(3,.v (vi i))]) (fun _=>True) (by simp[ckL,Ck.put,notePm,noteLm]) (by simp) trivial ?_
  intro i hi _
  have hwi:=wrap_i ((i:Int)+1) (by omega) (by omega)
  by_cases hlt:i<l.length
  ·have hx:l[i]? =some l[i]:=List.getElem?_eq_getElem hlt
   have e1:=notePm_take (h:=s.h) (k:=4) (m:=s.pm) hx
   have e2:=noteLm_take (h:=s.h) (k:=4) (m:=s.lm) hx
   have ko:=ka 4 (l[i]).at_
   simp[hlt,hx,hwi,ckL,idxV]
   refine callW_of ko (by simp) ?_
   simp[mputV_i,mputV_sh,e1,e2,hwi,hlt]
   first|done|rfl|exact⟨rfl,rfl⟩
  ·have:i=l.length:=by omega
   subst this
   simp[ckL,noteS,List.take_of_length_le]
end Vm
namespace Vm
open Go Go.Proofs
set_option maxRecDepth 100000
set_option maxHeartbeats 1000000
def boxP(s:Ck):V:= .ptr [ckP s]
theorem settled1_vc{s:Ck}{a w:Int}(hw:U64 w):VC Try.prog 119 false [vi a,vu w,boxP s] (.bool (pointsR s w 1 2)):=by
 refine vc_of_wp Try.func119 follows (by kernel_rfl) c119 rfl ?_
 have k:=points_vc (s:=s) (first:=1) (last:=2) hw
 unfold boxP ckP at*
 simp[p119,oneV,V.one]
 refine callW_of k (by simp) ?_
 simp
theorem settled2_vc{s:Ck}{a w:Int}(hw:U64 w):VC Try.prog 120 false [vi a,vu w,boxP s] (.bool (decide (s.h.scan≤a)||pointsR s w 1 2)):=by
 refine vc_of_wp Try.func120 follows (by kernel_rfl) c120 rfl ?_
 have k:=points_vc (s:=s) (first:=1) (last:=2) hw
 unfold boxP ckP at*
 by_cases h:s.h.scan≤a
 ·simp[p120,oneV,V.one,ckL,h]
 ·simp[p120,oneV,V.one,ckL,h]
  refine callW_of k (by simp[ckL]) ?_
  simp[h]
theorem unscanned1_vc{s:Ck}{a w:Int}(hw:U64 w):VC Try.prog 121 false [vi a,vu w,boxP s] (.bool (decide (a<s.h.scan)||pointsR s w 1 4)):=by
 refine vc_of_wp Try.func121 follows (by kernel_rfl) c121 rfl ?_
 have k:=points_vc (s:=s) (first:=1) (last:=4) hw
 unfold boxP ckP at*
 by_cases h:a<s.h.scan
 ·simp[p121,oneV,V.one,ckL,h]
 ·simp[p121,oneV,V.one,ckL,h]
  refine callW_of k (by simp[ckL]) ?_
  simp[h]
theorem left1_vc{s:Ck}{a w:Int}(hw:U64 w):VC Try.prog 122 false [vi a,vu w,boxP s] (.bool (pointsR s w 3 4)):=by
 refine vc_of_wp Try.func122 follows (by kernel_rfl) c122 rfl ?_
 have k:=points_vc (s:=s) (first:=3) (last:=4) hw
 unfold boxP ckP at*
 simp[p122,oneV,V.one]
 refine callW_of k (by simp) ?_
 simp
structure Ck.ok (s:Ck):Prop where
 h:s.h.ok
 ob: ∀k,∀o∈s.obs k,ObIn (partH s.h k).length o∧U64 o.target
 len: ∀k,(s.obs k).length≤1000000
def wordAt(ws:List Int)(k:Nat):Int:=(ws[k]?).getD 0
def obQ(s:Ck)(k:Int)(q:Int→Int→Bool)(o:Ob):Bool:=o.gone||(List.range o.ptrs.toNat).all fun j=>q ((o.at_.toNat+1+j:Nat):Int) (wordAt (partH s.h k) (o.at_.toNat+1+j))
def ptrsQ(s:Ck)(k:Int)(q:Int→Int→Bool):Bool:=(s.obs k).all (obQ s k q)
theorem pointersQ_vc{s:Ck}(hs:s.ok){k:Int}(hk:1≤k∧k≤4){f:FuncId}{cs:List V}{q:Int→Int→Bool}(hq: ∀a w,U64 w→VC Try.prog f false ([vi a,vu w]++cs) (.bool (q a w))):
  VC Try.prog 118 false [ckP s,vi k,.clo f cs] (.bool (ptrsQ s k q)):=by
 refine vc_of_wp Try.func118 follows (by kernel_rfl) c118 rfl ?_
 simp[-List.all_eq_true,-List.all_eq_false,p118]
 refine callW_of (words_vc hk) (by simp) ?_
 have hpt:fldV (.agg [.sl (s.o1.map obV),.sl (s.o2.map obV),.sl (s.o3.map obV),.sl (s.o4.map obV)]) 0=some (.sl (s.o1.map obV)):=rfl
 have hlen:=hs.len k
 have hob:=hs.ob k
 have hw:=(partH_ok hs.h k).1
 have hpl:=(partH_ok hs.h k).2
 have hai:aiV (.agg [.sl (s.o1.map obV),.sl (s.o2.map obV),.sl (s.o3.map obV),.sl (s.o4.map obV)]) (.int .i64 (IntKind.i64.wrap (k-1))) 4 1 true=some (.agg [.sl ((s.obs k).map obV)]):=by
  have:k=1∨k=2∨k=3∨k=4:=by omega
  rcases this with rfl|rfl|rfl|rfl<;>simp[aiV,Ck.obs,w64_0,w64_1,w64_2,w64_3]
 unfold ptrsQ
 generalize hL:s.obs k=L at*
 generalize hW:partH s.h k=ws at*
 simp[-List.all_eq_true,-List.all_eq_false,ckP,ckL,hai]
 refine wpS_for0 5 L.length (fun i=>(L.take i).all (obQ s k q)=true) (by simp) (by simp) (by simp) ?_
 intro i hi hall
 have hwi:=wrap_i ((i:Int)+1) (by omega) (by omega)
 by_cases hlt:i<L.length
 ·have hx:L[i]? =some L[i]:=List.getElem?_eq_getElem hlt
  obtain⟨⟨⟨a,ha,hfit⟩,hsh⟩,_⟩:=hob _ (List.getElem_mem hlt)
  generalize L[i]=o at*
  obtain⟨s1,s2,s3,s4⟩:=shapeOk_iff.1 hsh
  obtain⟨m,hm⟩:=Int.eq_ofNat_of_zero_le s3
  have hwa:=wrap_i ((a:Int)+1) (by omega) (by omega)
  have hnext:obQ s k q o=true→(L.take (i+1)).all (obQ s k q)=true:=fun h=>by rw[all_take hx,hall,h];rfl
  have hex:obQ s k q o=false→L.all (obQ s k q)=false:=fun hno=>all_no hx hno
  cases hg:o.gone
  ·have hobp:obQ s k q o=(List.range m).all fun j=>q ((a+1+j:Nat):Int) (wordAt ws (a+1+j)):=by
    unfold obQ
    rw[hm,ha,hW,hg]
    rfl
   simp[-List.all_eq_true,-List.all_eq_false,hlt,hx,at_of hx,idxV,hg,ha,hm]
   refine wpS_for0 11 m (fun j=>((List.range j).all fun j=>q ((a+1+j:Nat):Int) (wordAt ws (a+1+j)))=true) (by simp) (by simp) (by simp) ?_
   intro j hj hal
   have hwj:=wrap_i ((j:Int)+1) (by omega) (by omega)
   by_cases hjm:j<m
   ·obtain⟨w,hmw,hu⟩: ∃w,ws[a+1+j]? =some w∧U64 w:=⟨_,List.getElem?_eq_getElem (by omega),hw _ (List.getElem_mem _)⟩
    have hww:wordAt ws (a+1+j)=w:=by unfold wordAt;rw[hmw];rfl
    have hsucc:((List.range (j+1)).all fun j=>q ((a+1+j:Nat):Int) (wordAt ws (a+1+j)))=(((List.range j).all fun j=>q ((a+1+j:Nat):Int) (wordAt ws (a+1+j)))&&q ((a+1+j:Nat):Int) w):=by
     rw[List.range_succ,List.all_append];simp[hww]
    have hno:q ((a+1+j:Nat):Int) w=false→L.all (obQ s k q)=false:=fun hno=>hex (by
     rw[hobp]
     exact all_no (List.getElem?_range hjm) (by rw[hww];exact hno))
    obtain⟨n,hn⟩: ∃n,a+1+j=n:=⟨_,rfl⟩
    have hn1:(a:Int)+1+(j:Int)=(n:Int):=by omega
    have hwn:=wrap_i (n:Int) (by omega) (by omega)
    rw[hn]at hmw hsucc hno
    have kq:=hq (n:Int) w hu
    simp[-List.all_eq_true,-List.all_eq_false,hjm,hwa,hn1,hwn,hmw,at_of hmw,idxV]
    refine callW_of kq (by simp) ?_
    cases hv:q (n:Int) w
    ·simp[-List.all_eq_true,-List.all_eq_false,hno hv]
    ·rw[hv]at hsucc
     rw[hal]at hsucc
     simp[-List.all_eq_true,-List.all_eq_false,hwj,hjm]
     simpa[-List.all_eq_true,-List.all_eq_false]using hsucc
   ·have:j=m:=by omega
    subst this
    simp[-List.all_eq_true,-List.all_eq_false,hwi,hlt,hnext (by rw[hobp];exact hal)]
  ·have hobp:obQ s k q o=true:=by unfold obQ;rw[hg];rfl
   simp[-List.all_eq_true,-List.all_eq_false,hlt,hx,at_of hx,idxV,hg,ha,hm,hwi,hnext hobp]
 ·have:i=L.length:=by omega
  subst this
  rw[List.take_length]at hall
  simp[-List.all_eq_true,-List.all_eq_false,hall]
@[simp] theorem one_ptr(l:List V):(V.ptr l).one=true:=rfl
@[simp] theorem oneV_ptr(l:List V):oneV (.ptr l)=some (.ptr l):=rfl
@[simp] theorem one_clo(f:FuncId)(l:List V):(V.clo f l).one=true:=rfl
@[simp] theorem oneV_clo(f:FuncId)(l:List V):oneV (.clo f l)=some (.clo f l):=rfl
@[simp] theorem oneV_ckP(s:Ck):oneV (ckP s)=some (ckP s):=rfl
@[simp] theorem one_ckP(s:Ck):(ckP s).one=true:=rfl
@[simp] theorem starV_ckP(s:Ck):starV (ckP s)=some (.agg (ckL s)):=rfl
@[simp] theorem ckL_scan(s:Ck):(ckL s)[4]? =some (vi s.h.scan):=rfl
@[simp] theorem ckL_cycle(s:Ck):(ckL s)[3]? =some (.bool s.h.cycle):=rfl
@[simp] theorem ckL_roots(s:Ck):(ckL s)[9]? =some (.sl (s.h.roots.map vu)):=rfl
@[simp] theorem ckL_low(s:Ck):(ckL s)[5]? =some (.sl (s.h.low.map vu)):=rfl
@[simp] theorem ckL_high(s:Ck):(ckL s)[6]? =some (.sl (s.h.high.map vu)):=rfl
@[simp] theorem ckL_old(s:Ck):(ckL s)[7]? =some (.sl (s.h.old.map vu)):=rfl
@[simp] theorem ckL_far(s:Ck):(ckL s)[8]? =some (.sl (s.h.far.map vu)):=rfl
@[simp] theorem ckL_cap(s:Ck):(ckL s)[1]? =some (vi s.h.cap):=rfl
def settledR(s:Ck):Bool:=s.h.roots.all (fun w=>pointsR s w 1 2)&&(ptrsQ s 2 (fun _ w=>pointsR s w 1 2)&&ptrsQ s 1 (fun a w=>decide (s.h.scan≤a)||pointsR s w 1 2))
theorem settled_vc{s:Ck}(hs:s.ok):VC Try.prog 107 false [ckP s] (.bool (settledR s)):=by
 refine vc_of_wp Try.func107 follows (by kernel_rfl) c107 rfl ?_
 have k1:=pointersQ_vc hs (k:=2) (by omega) (f:=119) (cs:= [boxP s]) (q:=fun _ w=>pointsR s w 1 2) (fun a w hw=>settled1_vc hw)
 have k2:=pointersQ_vc hs (k:=1) (by omega) (f:=120) (cs:= [boxP s]) (q:=fun a w=>decide (s.h.scan≤a)||pointsR s w 1 2) (fun a w hw=>settled2_vc hw)
 have k0:=fun w (hw:U64 w)=>points_vc (s:=s) (first:=1) (last:=2) hw
 have hrl:=hs.h.roots
 have hrw:=hs.h.rootsW
 unfold settledR
 unfold boxP at k1 k2
 generalize ptrsQ s 2 (fun _ w=>pointsR s w 1 2)=b1 at*
 generalize ptrsQ s 1 (fun a w=>decide (s.h.scan≤a)||pointsR s w 1 2)=b2 at*
 simp[-List.all_eq_true,-List.all_eq_false,p107]
 refine wpS_for0 3 s.h.roots.length (fun i=>(s.h.roots.take i).all (fun w=>pointsR s w 1 2)=true) (by simp) (by simp) (by simp) ?_
 intro i hi hall
 have hwi:=wrap_i ((i:Int)+1) (by omega) (by omega)
 by_cases hlt:i<s.h.roots.length
 ·have hx:s.h.roots[i]? =some s.h.roots[i]:=List.getElem?_eq_getElem hlt
  have hu:=hrw _ (List.getElem_mem hlt)
  generalize s.h.roots[i]=w at*
  have hex:pointsR s w 1 2=false→s.h.roots.all (fun w=>pointsR s w 1 2)=false:=fun hno=>all_no hx hno
  have hnext:=all_take (q:=fun w=>pointsR s w 1 2) hx
  rw[hall]at hnext
  simp[-List.all_eq_true,-List.all_eq_false,hlt,hx,at_of hx,idxV]
  refine callW_of (k0 w hu) (by simp) ?_
  cases hv:pointsR s w 1 2
  ·simp[-List.all_eq_true,-List.all_eq_false,hex hv]
  ·rw[hv]at hnext
   simp[-List.all_eq_true,-List.all_eq_false,hwi,hlt,hnext]
 ·have:i=s.h.roots.length:=by omega
  subst this
  rw[List.take_length]at hall
  simp[-List.all_eq_true,-List.all_eq_false,hall]
  refine callW_of k1 (by simp[flV,V.flatc]) ?_
  cases b1
  ·simp
  ·simp
   refine callW_of k2 (by simp[flV,V.flatc]) ?_
   simp
def unscannedR(s:Ck):Bool:=ptrsQ s 1 (fun a w=>decide (a<s.h.scan)||pointsR s w 1 4)
theorem unscanned_vc{s:Ck}(hs:s.ok):VC Try.prog 108 false [ckP s] (.bool (unscannedR s)):=by
 refine vc_of_wp Try.func108 follows (by kernel_rfl) c108 rfl ?_
 have k1:=pointersQ_vc hs (k:=1) (by omega) (f:=121) (cs:= [boxP s]) (q:=fun a w=>decide (a<s.h.scan)||pointsR s w 1 4) (fun a w hw=>unscanned1_vc hw)
 unfold unscannedR
 unfold boxP at k1
 simp[p108]
 refine callW_of k1 (by simp[flV,V.flatc]) ?_
 simp
def leftR(s:Ck):Bool:=ptrsQ s 3 (fun _ w=>pointsR s w 3 4)&&ptrsQ s 4 (fun _ w=>pointsR s w 3 4)
theorem left_vc{s:Ck}(hs:s.ok):VC Try.prog 109 false [ckP s] (.bool (leftR s)):=by
 refine vc_of_wp Try.func109 follows (by kernel_rfl) c109 rfl ?_
 have k1:=pointersQ_vc hs (k:=3) (by omega) (f:=122) (cs:= [boxP s]) (q:=fun _ w=>pointsR s w 3 4) (fun a w hw=>left1_vc hw)
 have k2:=pointersQ_vc hs (k:=4) (by omega) (f:=122) (cs:= [boxP s]) (q:=fun _ w=>pointsR s w 3 4) (fun a w hw=>left1_vc hw)
 unfold leftR
 unfold boxP at k1 k2
 generalize ptrsQ s 3 (fun _ w=>pointsR s w 3 4)=b1 at*
 generalize ptrsQ s 4 (fun _ w=>pointsR s w 3 4)=b2 at*
 simp[p109]
 refine callW_of k1 (by simp[flV,V.flatc]) ?_
 cases b1
 ·simp
 ·simp
  refine callW_of k2 (by simp[flV,V.flatc]) ?_
  simp
end Vm
namespace Vm
open Go Go.Proofs
set_option maxRecDepth 100000
set_option maxHeartbeats 1000000
def boundedR(s:Ck):Bool:=rightL (layH s.h)&&(decide (s.h.roots.length≤16)&&(decide (0≤s.h.scan)&&decide (s.h.scan≤s.h.low.length)))
theorem bounded_vc{s:Ck}(hs:s.h.ok):VC Try.prog 103 false [ckP s] (.bool (boundedR s)):=by
 refine vc_of_wp Try.func103 follows (by kernel_rfl) c103 rfl ?_
 have k:=rightL_vc hs.lay
 unfold boundedR
 unfold layH lyV at k
 simp[p103]
 simp[ckL]
 refine callW_of k (by simp) ?_
 have e:rightL {base:=s.h.base,cap:=s.h.cap,to:=s.h.to,low:=(s.h.low.length:Int),high:=(s.h.high.length:Int),old:=(s.h.old.length:Int),far:=(s.h.far.length:Int)}=rightL (layH s.h):=rfl
 rw[e]
 cases rightL (layH s.h)
 ·simp
 by_cases h1:s.h.roots.length≤16
 ·have h1':(s.h.roots.length:Int)≤16:=by omega
  by_cases h2:0≤s.h.scan<;>by_cases h3:s.h.scan≤s.h.low.length<;>simp[h1,h1',h2,h3]
 ·have h1': ¬(s.h.roots.length:Int)≤16:=by omega
  simp[h1,h1']
def restingR(s:Ck):Bool:=if s.h.cycle then decide (s.h.scan<s.h.low.length)else decide (s.h.old.length=0)&&(decide (s.h.far.length=0)&&decide (s.h.scan=s.h.low.length))
theorem resting_vc{s:Ck}:VC Try.prog 104 false [ckP s] (.bool (restingR s)):=by
 refine vc_of_wp Try.func104 follows (by kernel_rfl) c104 rfl ?_
 unfold restingR
 cases hc:s.h.cycle
 ·by_cases h1:s.h.old.length=0
  ·have h1':s.h.old= []:=List.length_eq_zero_iff.1 h1
   by_cases h2:s.h.far.length=0
   ·have h2':s.h.far= []:=List.length_eq_zero_iff.1 h2
    simp[p104,hc,h1',h2']
   ·have h2': ¬s.h.far= []:=fun e=>h2 (by simp[e])
    simp[p104,hc,h1',h2,h2']
  ·have h1': ¬s.h.old= []:=fun e=>h1 (by simp[e])
   simp[p104,hc,h1,h1']
 ·simp[p104,hc]
def waitC(s:Ck):Nat:=wtL s.o3+wtL s.o4
@[simp] theorem obsAi(s:Ck):((ckL s).drop 17).take 4= [.sl (s.o1.map obV),.sl (s.o2.map obV),.sl (s.o3.map obV),.sl (s.o4.map obV)]:=rfl
@[simp] theorem ckL_len(s:Ck):(ckL s).length=23:=rfl
theorem waitingC_vc{s:Ck}(hs:s.ok):VC Try.prog 76 false [ckP s] (vi (waitC s)):=by
 refine vc_of_wp Try.func76 follows (by kernel_rfl) c76 rfl ?_
 have hsh: ∀k,∀o∈s.obs k,shapeOk o.size o.ptrs=true:=fun k o ho=>(hs.ob k o ho).1.2
 have hl3:s.o3.length≤1000000:=hs.len 3
 have hl4:s.o4.length≤1000000:=hs.len 4
 have hs3: ∀o∈s.o3,shapeOk o.size o.ptrs=true:=hsh 3
 have hs4: ∀o∈s.o4,shapeOk o.size o.ptrs=true:=hsh 4
 have hb3:=wtL_le hs3
 have hb4:=wtL_le hs4
 have a3:aiV (.agg [.sl (s.o1.map obV),.sl (s.o2.map obV),.sl (s.o3.map obV),.sl (s.o4.map obV)]) (.int .i64 2) 4 1 true=some (.agg [.sl (s.o3.map obV)]):=by simp[aiV]
 have a4:aiV (.agg [.sl (s.o1.map obV),.sl (s.o2.map obV),.sl (s.o3.map obV),.sl (s.o4.map obV)]) (.int .i64 3) 4 1 true=some (.agg [.sl (s.o4.map obV)]):=by simp[aiV]
 simp[p76]
 refine wpS_loopP (fun(i:Nat)=> [(2,.v (vi ((if 0<i then wtL s.o3 else 0)+(if 1<i then wtL s.o4 else 0):Nat))),(3,.v (vi ((i+3:Nat):Int)))]) (fun i=>i≤2) (cnt 3 5) 0 (by simp) (by simp) ?_
 rintro i hi
 have hi':i=0∨i=1∨i=2:=by omega
 rcases hi' with rfl|rfl|rfl
 ·simp[w64_2,a3]
  refine wpS_for 5 s.o3.length (fun j=> [(2,.v (vi (wtL (s.o3.take j)))),(5,.v (vi j))]) (fun _=>True) (by simp[wtL]) (fun i=>by simp) trivial ?_
  rintro j hj-
  have hwj:=wrap_i ((j:Int)+1) (by omega) (by omega)
  by_cases h1:j<s.o3.length
  ·have hx:s.o3[j]? =some s.o3[j]:=List.getElem?_eq_getElem h1
   have hsx:=hs3 _ (List.getElem_mem h1)
   have hsc:=wtL_succ hx
   generalize s.o3[j]=o at*
   have hle:wtL (s.o3.take j)≤256*s.o3.length:=by
    refine Nat.le_trans (wtL_le fun o ho=>hs3 o (List.mem_of_mem_take ho)) ?_
    simp;omega
   obtain⟨g1,g2,g3,g4⟩:=shapeOk_iff.1 hsx
   obtain⟨z,hz⟩:=Int.eq_ofNat_of_zero_le g1
   have w1:=wrap_i (1+(z:Int)) (by omega) (by omega)
   have w2:=wrap_i ((wtL (s.o3.take j):Int)+(1+z)) (by omega) (by omega)
   cases hg:o.gone
   ·have hwo:wtO o=1+z:=by simp[wtO,hg,hz]
    simp[idxV,h1,hx,at_of hx,hg,hz,w1,w2,hwj,hsc,hwo]
   ·have hwo:wtO o=0:=by simp[wtO,hg]
    simp[idxV,h1,hx,at_of hx,hg,hwj,hsc,hwo]
  ·have:j=s.o3.length:=by omega
   subst this
   rw[List.take_length]
   simp[idxV,wrap_i]
   exact⟨1,by omega,by simp,by simp[cnt]⟩
 ·simp[w64_3,a4]
  refine wpS_for 5 s.o4.length (fun j=> [(2,.v (vi (wtL s.o3+wtL (s.o4.take j):Nat))),(5,.v (vi j))]) (fun _=>True) (by simp[wtL]) (fun i=>by simp) trivial ?_
  rintro j hj-
  have hwj:=wrap_i ((j:Int)+1) (by omega) (by omega)
  by_cases h1:j<s.o4.length
  ·have hx:s.o4[j]? =some s.o4[j]:=List.getElem?_eq_getElem h1
   have hsx:=hs4 _ (List.getElem_mem h1)
   have hsc:=wtL_succ hx
   generalize s.o4[j]=o at*
   have hle:wtL (s.o4.take j)≤256*s.o4.length:=by
    refine Nat.le_trans (wtL_le fun o ho=>hs4 o (List.mem_of_mem_take ho)) ?_
    simp;omega
   obtain⟨g1,g2,g3,g4⟩:=shapeOk_iff.1 hsx
   obtain⟨z,hz⟩:=Int.eq_ofNat_of_zero_le g1
   have w1:=wrap_i (1+(z:Int)) (by omega) (by omega)
   have w2:=wrap_i ((wtL s.o3:Int)+wtL (s.o4.take j)+(1+z)) (by omega) (by omega)
   cases hg:o.gone
   ·have hwo:wtO o=1+z:=by simp[wtO,hg,hz]
    simp[idxV,h1,hx,at_of hx,hg,hz,w1,w2,hwj,hsc,hwo]
    omega
   ·have hwo:wtO o=0:=by simp[wtO,hg]
    simp[idxV,h1,hx,at_of hx,hg,hwj,hsc,hwo]
  ·have:j=s.o4.length:=by omega
   subst this
   rw[List.take_length]
   simp[idxV,wrap_i]
   exact⟨2,by omega,by simp,by simp[cnt]⟩
 ·simp[waitC]
def roomyR(s:Ck):Bool:=decide ((s.h.low.length:Int)+s.h.high.length+waitC s≤s.h.cap)
theorem waitC_le{s:Ck}(hs:s.ok):waitC s≤512*1000000:=by
 have hb3:=wtL_le (l:=s.o3) fun o ho=>(hs.ob 3 o ho).1.2
 have hb4:=wtL_le (l:=s.o4) fun o ho=>(hs.ob 4 o ho).1.2
 have hl3:s.o3.length≤1000000:=hs.len 3
 have hl4:s.o4.length≤1000000:=hs.len 4
 unfold waitC
 omega
theorem roomy_vc{s:Ck}(hs:s.ok):VC Try.prog 110 false [ckP s] (.bool (roomyR s)):=by
 refine vc_of_wp Try.func110 follows (by kernel_rfl) c110 rfl ?_
 have h1:=waitC_le hs
 have h2:=hs.h.low
 have h3:=hs.h.high
 have w1:=wrap_i ((s.h.low.length:Int)+s.h.high.length) (by omega) (by omega)
 have w2:=wrap_i ((s.h.low.length:Int)+s.h.high.length+waitC s) (by omega) (by omega)
 simp[p110]
 refine callW_of (waitingC_vc hs) (by simp) ?_
 simp[w1,w2,roomyR]
end Vm
namespace Vm
open Go Go.Proofs
set_option maxRecDepth 100000
set_option maxHeartbeats 1000000
def shapesC(lm:List (Int×(Int×Int)))(ws:List Int):Nat→Nat→List (Int×Int)→List (Int×Int)
 |0,_,acc=>acc
 |f+1,i,acc=>
  match ws[i]? with
  |none=>acc
  |some w=>if(adr w).2=0 then(match getA lm (adr w).1 with|none=>acc|some sh=>shapesC lm ws f (i+1+sh.1.toNat) (acc++ [sh]))
   else if(unpk w).2.2=0 then shapesC lm ws f (i+1+(unpk w).1.toNat) acc else acc
def shapesL(lm:List (Int×(Int×Int)))(ws:List Int):List (Int×Int):=shapesC lm ws (ws.length+1) 0 []
theorem getA_mem{α:Type}{l:List (Int×α)}{k:Int}{x:α}(h:getA l k=some x):(k,x)∈l:=by
 unfold getA at h
 obtain⟨y,hy,rfl⟩:=Option.map_eq_some_iff.1 h
 have h1:=List.mem_of_find?_eq_some hy
 have h2:=List.find?_some hy
 have:y.1=k:=by simpa using h2
 rw[←this]
 exact h1
theorem shapesC_vc{s:Ck}(hlm: ∀x∈s.lm,shapeOk x.2.1 x.2.2=true){ws:List Int}(hl:ws.length≤1000000)(hw: ∀w∈ws,U64 w):
  VC Try.prog 115 false [ckP s,.sl (ws.map vu)] (.sl ((shapesL s.lm ws).map shP)):=by
 refine vc_of_wp Try.func115 follows (by kernel_rfl) c115 rfl ?_
 have hlk: ∀k,lkV (.i .u64) (mpA shP s.lm) (vu k) (.agg [vi 0,vi 0]) true=match getA s.lm k with
  |some x=>some (.tup [shP x,.bool true])
  |none=>some (.tup [.agg [vi 0,vi 0],.bool false]):=fun k=>by rw[lkV_A];cases getA s.lm k<;>simp
 have h22:(ckL s)[22]? =some (mpA shP s.lm):=rfl
 simp[p115]
 refine wpS_loopP (fun(p:Nat×List (Int×Int))=> [(3,.v (.sl (p.2.map shP))),(4,.v (vi p.1))])
  (fun p=>p.1≤ws.length+256∧p.2.length≤p.1∧ ∃f,ws.length<f+p.1∧0<f∧shapesL s.lm ws=shapesC s.lm ws f p.1 p.2) (cnt 4 ws.length) (0,[]) (by simp) ⟨by simp,by simp,ws.length+1,by simp,by omega,rfl⟩ ?_
 rintro⟨i,acc⟩ ⟨hi,hacc,f,hf,hf0,hR⟩
 simp only at hi hacc hf hR
 cases f with
 |zero=>omega
 |succ f=>
 by_cases hlt:i<ws.length
 ·have hx:ws[i]? =some ws[i]:=List.getElem?_eq_getElem hlt
  have hu:=hw _ (List.getElem_mem hlt)
  generalize ws[i]=w at*
  simp only[shapesC,hx]at hR
  have hlim:acc.length+1≤lim:=by simp[lim];omega
  simp[hlt,hx,at_of hx,idxV]
  refine callW_of (adr_vc hu) (by simp) ?_
  by_cases ha:(adr w).2=0
  ·rw[if_pos ha]at hR
   simp[ha,h22,hlk]
   cases hat:getA s.lm (adr w).1 with
   |none=>
    rw[hat]at hR
    simp only at hR
    rw[hR]
    simp
   |some sh=>
    rw[hat]at hR
    simp only at hR
    have hsh:0≤sh.1∧sh.1≤255∧0≤sh.2∧sh.2≤sh.1:=shapeOk_iff.1 (hlm _ (getA_mem hat))
    obtain⟨z,hz⟩:=Int.eq_ofNat_of_zero_le hsh.1
    have hw1:=wrap_i (1+(z:Int)) (by omega) (by omega)
    have hw2:=wrap_i ((i:Int)+(1+z)) (by omega) (by omega)
    rw[hz,Int.toNat_natCast]at hR
    simp[hlim,hz,hw1,hw2]
    refine⟨i+1+z,acc++ [sh],⟨by omega,by simp;omega,f,by omega,?_,hR⟩,⟨by simp[shP,hz],by omega⟩,by simp[cnt];omega⟩
    omega
  ·rw[if_neg ha]at hR
   simp[ha,hx,at_of hx,hlt,idxV]
   refine callW_of (unpk_vc hu) (by simp) ?_
   by_cases hun:(unpk w).2.2=0
   ·rw[if_pos hun]at hR
    have hsh:=shapeOk_iff.1 (unpk_ok hun)
    obtain⟨z,hz⟩:=Int.eq_ofNat_of_zero_le hsh.1
    have hw1:=wrap_i (1+(z:Int)) (by omega) (by omega)
    have hw2:=wrap_i ((i:Int)+(1+z)) (by omega) (by omega)
    rw[hz,Int.toNat_natCast]at hR
    simp[hun,hz,hw1,hw2]
    refine⟨i+1+z,acc,⟨by omega,by omega,f,by omega,?_,hR⟩,⟨rfl,by omega⟩,by simp[cnt];omega⟩
    omega
   ·rw[if_neg hun]at hR
    rw[hR]
    simp[hun]
 ·have hx:ws[i]? =none:=List.getElem?_eq_none (by omega)
  simp only[shapesC,hx]at hR
  rw[hR]
  have: ¬((i:Int) <ws.length):=by omega
  simp[hlt,this]
end Vm
namespace Vm
open Go Go.Proofs
set_option maxRecDepth 100000
set_option maxHeartbeats 1000000
def copQ(pm:List (Int×Int)):List Ob→List (Int×Bool)→Option (List (Int×Bool))
 | [],m=>some m
 |o::l,m=>if o.gone=true then(if(getA pm o.target).getD 0=1∧(getA m o.target).getD false=false then copQ pm l (putA m o.target true)else none)else copQ pm l m
def copiedCR(s:Ck):Bool:= !s.h.cycle||match(copQ s.pm s.o3 []).bind (copQ s.pm s.o4)with
 |none=>false
 |some m=>decide (m.length=s.o1.length)
theorem mputV_b{l:List (Int×Bool)}{k:Int}{x:Bool}:mputV (.i .u64) (mpA .bool l) (vu k) (.bool x)=some (mpA .bool (putA l k x)):=mputV_A
theorem lkV_b{l:List (Int×Bool)}{k:Int}:lkV (.i .u64) (mpA .bool l) (vu k) (.bool false) false=some (.bool ((getA l k).getD false)):=by
 rw[lkV_A];cases getA l k<;>simp
theorem lkV_p{l:List (Int×Int)}{k:Int}:lkV (.i .u64) (mpA vi l) (vu k) (vi 0) false=some (vi ((getA l k).getD 0)):=by
 rw[lkV_A];cases getA l k<;>simp
theorem mpA_nil{α:Type}(f:α→V):mpA f []= .mp 0 [] []:=rfl
theorem copiedC_vc{s:Ck}(hs:s.ok):VC Try.prog 106 false [ckP s] (.bool (copiedCR s)):=by
 refine vc_of_wp Try.func106 follows (by kernel_rfl) c106 rfl ?_
 have hl3:s.o3.length≤1000000:=hs.len 3
 have hl4:s.o4.length≤1000000:=hs.len 4
 have hu3: ∀o∈s.o3,U64 o.target:=fun o ho=>(hs.ob 3 o ho).2
 have hu4: ∀o∈s.o4,U64 o.target:=fun o ho=>(hs.ob 4 o ho).2
 have a3:aiV (.agg [.sl (s.o1.map obV),.sl (s.o2.map obV),.sl (s.o3.map obV),.sl (s.o4.map obV)]) (.int .i64 2) 4 1 true=some (.agg [.sl (s.o3.map obV)]):=by simp[aiV]
 have a4:aiV (.agg [.sl (s.o1.map obV),.sl (s.o2.map obV),.sl (s.o3.map obV),.sl (s.o4.map obV)]) (.int .i64 3) 4 1 true=some (.agg [.sl (s.o4.map obV)]):=by simp[aiV]
 have a1:aiV (.agg [.sl (s.o1.map obV),.sl (s.o2.map obV),.sl (s.o3.map obV),.sl (s.o4.map obV)]) (.int .i64 0) 4 1 true=some (.agg [.sl (s.o1.map obV)]):=by simp[aiV]
 have h21:(ckL s)[21]? =some (mpA vi s.pm):=rfl
 have hm0:=(mpA_nil V.bool).symm
 unfold copiedCR
 cases hc:s.h.cycle
 ·simp[p106,hc]
 simp[p106,hc,hm0]
 refine wpS_loopP (fun(p:Nat×List (Int×Bool))=> [(3,.v (mpA .bool p.2)),(4,.v (vi ((p.1+3:Nat):Int)))])
  (fun p=>(p.1=0∧p.2= [])∨(p.1=1∧copQ s.pm s.o3 []=some p.2)∨(p.1=2∧(copQ s.pm s.o3 []).bind (copQ s.pm s.o4)=some p.2)) (cnt 4 5) (0,[]) (by simp) (by simp) ?_
 rintro⟨i,m⟩ (⟨rfl,rfl⟩ | ⟨rfl,hm⟩ | ⟨rfl,hm⟩)
 ·simp[w64_2,a3]
  refine wpS_loopP (fun(p:Nat×List (Int×Bool))=> [(3,.v (mpA .bool p.2)),(6,.v (vi p.1))]) (fun p=>p.1≤s.o3.length∧copQ s.pm s.o3 []=copQ s.pm (s.o3.drop p.1) p.2) (cnt 6 s.o3.length) (0,[]) (by simp) (by simp) ?_
  rintro⟨j,mj⟩ ⟨hj,he⟩
  simp only at hj he
  have hwj:=wrap_i ((j:Int)+1) (by omega) (by omega)
  by_cases h1:j<s.o3.length
  ·have hx:s.o3[j]? =some s.o3[j]:=List.getElem?_eq_getElem h1
   have hd:=List.drop_eq_getElem_cons h1
   have hut:=hu3 _ (List.getElem_mem h1)
   generalize s.o3[j]=o at*
   rw[hd,copQ]at he
   cases hg:o.gone
   ·rw[hg]at he
    rw[if_neg (by simp)]at he
    simp[idxV,h1,hx,at_of hx,hg,hwj]
    exact⟨j+1,mj,⟨by omega,he⟩,⟨rfl,by omega⟩,by simp[cnt];omega⟩
   ·rw[hg]at he
    rw[if_pos rfl]at he
    by_cases h2:(getA s.pm o.target).getD 0=1
    ·cases h3:(getA mj o.target).getD false
     ·rw[if_pos ⟨h2,h3⟩]at he
      simp[idxV,h1,hx,at_of hx,hg,hwj,h21,lkV_p,lkV_b,flV,V.flatc,h2,h3,mputV_b]
      exact⟨j+1,putA mj o.target true,⟨by omega,he⟩,⟨rfl,by omega⟩,by simp[cnt];omega⟩
     ·rw[if_neg (by simp[h3])]at he
      simp[idxV,h1,hx,at_of hx,hg,hwj,h21,lkV_p,lkV_b,flV,V.flatc,h2,h3,he]
    ·rw[if_neg (by simp[h2])]at he
     simp[idxV,h1,hx,at_of hx,hg,hwj,h21,lkV_p,lkV_b,flV,V.flatc,h2,he]
  ·have:j=s.o3.length:=by omega
   subst this
   rw[List.drop_length,copQ]at he
   simp[wrap_i]
   exact⟨1,mj,by simp[he],by simp,by simp[cnt]⟩
 ·simp[w64_3,a4]
  refine wpS_loopP (fun(p:Nat×List (Int×Bool))=> [(3,.v (mpA .bool p.2)),(6,.v (vi p.1))]) (fun p=>p.1≤s.o4.length∧copQ s.pm s.o4 m=copQ s.pm (s.o4.drop p.1) p.2) (cnt 6 s.o4.length) (0,m) (by simp) (by simp) ?_
  rintro⟨j,mj⟩ ⟨hj,he⟩
  simp only at hj he
  have hwj:=wrap_i ((j:Int)+1) (by omega) (by omega)
  by_cases h1:j<s.o4.length
  ·have hx:s.o4[j]? =some s.o4[j]:=List.getElem?_eq_getElem h1
   have hd:=List.drop_eq_getElem_cons h1
   have hut:=hu4 _ (List.getElem_mem h1)
   generalize s.o4[j]=o at*
   rw[hd,copQ]at he
   cases hg:o.gone
   ·rw[hg]at he
    rw[if_neg (by simp)]at he
    simp[idxV,h1,hx,at_of hx,hg,hwj]
    exact⟨j+1,mj,⟨by omega,he⟩,⟨rfl,by omega⟩,by simp[cnt];omega⟩
   ·rw[hg]at he
    rw[if_pos rfl]at he
    by_cases h2:(getA s.pm o.target).getD 0=1
    ·cases h3:(getA mj o.target).getD false
     ·rw[if_pos ⟨h2,h3⟩]at he
      simp[idxV,h1,hx,at_of hx,hg,hwj,h21,lkV_p,lkV_b,flV,V.flatc,h2,h3,mputV_b]
      exact⟨j+1,putA mj o.target true,⟨by omega,he⟩,⟨rfl,by omega⟩,by simp[cnt];omega⟩
     ·rw[if_neg (by simp[h3])]at he
      simp[idxV,h1,hx,at_of hx,hg,hwj,h21,lkV_p,lkV_b,flV,V.flatc,h2,h3,hm,he]
    ·rw[if_neg (by simp[h2])]at he
     simp[idxV,h1,hx,at_of hx,hg,hwj,h21,lkV_p,lkV_b,flV,V.flatc,h2,hm,he]
  ·have:j=s.o4.length:=by omega
   subst this
   rw[List.drop_length,copQ]at he
   simp[wrap_i]
   exact⟨2,mj,by simp[hm,he],by simp,by simp[cnt]⟩
 ·simp[w64_0,w64_2,a1]
  rw[hm]
  simp
  omega
end Vm
namespace Vm
open Go Go.Proofs
set_option maxRecDepth 100000
set_option maxHeartbeats 1000000
def WalkOk:Prop:= ∀ws:List Int,ws.length≤1000000→(∀w∈ws,U64 w)→VC Try.prog 112 true [.sl (ws.map vu)] (.tup [.sl ((walkW ws [] false).1.map obV),vi (walkW ws [] false).2])
def WalkOldOk:Prop:= ∀(ws:List Int) (shs:List (Int×Int)),ws.length≤1000000→shs.length≤1000000→(∀w∈ws,U64 w)→(∀x∈shs,shapeOk x.1 x.2=true)→
 VC Try.prog 114 true [.sl (ws.map vu),.sl (shs.map shP)] (.tup [.sl ((walkW ws shs true).1.map obV),vi (walkW ws shs true).2])
def walkStep(s:Ck)(k:Int):List Ob×Int:=if k≤2 then walkW (partH s.h k) [] false else walkW (partH s.h k) (shapesL s.lm (partH s.h k)) true
def walkedF:List Int→Ck→Bool×Ck
 | [],s=>(true,s)
 |k::l,s=>if(walkStep s k).2=0 then walkedF l (noteS s k (walkStep s k).1)else(false,s)
def walkedR(s:Ck):Bool×Ck:=walkedF [1,2,3,4] s
theorem noteS_h(s:Ck)(k:Int)(l:List Ob):(noteS s k l).h=s.h:=put_h s k l
theorem putA_mem{α:Type}{l:List (Int×α)}{k:Int}{x:α}{y:Int×α}(h:y∈putA l k x):y=(k,x)∨y∈l:=by
 unfold putA at h
 split at h
 ·rcases List.mem_or_eq_of_mem_set h with h|h
  ·exact .inr h
  ·exact .inl h
 ·rcases List.mem_append.1 h with h|h
  ·exact .inr h
  ·simp at h;exact .inl h
theorem noteLm_ok{h:Hp}{k:Int}: ∀ {l:List Ob} {m:List (Int×(Int×Int))},(∀o∈l,shapeOk o.size o.ptrs=true)→(∀x∈m,shapeOk x.2.1 x.2.2=true)→ ∀x∈noteLm h k m l,shapeOk x.2.1 x.2.2=true
 | [],m,_,hm=>hm
 |o::l,m,ho,hm=>by
  rw[noteLm]
  refine noteLm_ok (fun p hp=>ho p (List.mem_cons_of_mem _ hp)) ?_
  split
  ·intro x hx
   rcases putA_mem hx with rfl|hx
   ·exact ho o (.head _)
   ·exact hm x hx
  ·exact hm
theorem walkStep_ok{s:Ck}(hh:s.h.ok){k:Int}:(∀o∈(walkStep s k).1,ObIn (partH s.h k).length o∧U64 o.target)∧(walkStep s k).1.length≤(partH s.h k).length:=by
 unfold walkStep
 split
 ·exact⟨walkW_in (partH_ok hh k).1,walkW_len⟩
 ·exact⟨walkW_in (partH_ok hh k).1,walkW_len⟩
theorem shapesC_len{lm:List (Int×(Int×Int))}{ws:List Int}: ∀ {f i:Nat} {acc:List (Int×Int)},acc.length≤i→acc.length≤ws.length→(shapesC lm ws f i acc).length≤ws.length
 |0,i,acc,_,h=>h
 |f+1,i,acc,hi,h=>by
  rw[shapesC]
  cases hx:ws[i]? with
  |none=>exact h
  |some w=>
   have hlt:i<ws.length:=(List.getElem?_eq_some_iff.1 hx).1
   simp only
   split
   ·split
    ·exact h
    ·exact shapesC_len (by simp;omega) (by simp;omega)
   ·split
    ·exact shapesC_len (by omega) h
    ·exact h
theorem shapesL_len{lm:List (Int×(Int×Int))}{ws:List Int}:(shapesL lm ws).length≤ws.length:=shapesC_len (by simp) (by simp)
theorem shapesC_ok{lm:List (Int×(Int×Int))}{ws:List Int}(hlm: ∀x∈lm,shapeOk x.2.1 x.2.2=true): ∀ {f i:Nat} {acc:List (Int×Int)},(∀x∈acc,shapeOk x.1 x.2=true)→ ∀x∈shapesC lm ws f i acc,shapeOk x.1 x.2=true
 |0,i,acc,h=>h
 |f+1,i,acc,h=>by
  rw[shapesC]
  cases hx:ws[i]? with
  |none=>exact h
  |some w=>
   simp only
   split
   ·split
    ·exact h
    ·rename_i sh hsh
     refine shapesC_ok hlm ?_
     intro x hx
     rcases List.mem_append.1 hx with hx|hx
     ·exact h x hx
     ·simp at hx;subst hx;exact hlm _ (getA_mem hsh)
   ·split
    ·exact shapesC_ok hlm h
    ·exact h
theorem w64_4:IntKind.i64.wrap 4=4:=by decide
theorem walked_vcm(hW:WalkOk)(hWO:WalkOldOk){s:Ck}(hh:s.h.ok)(hlm: ∀x∈s.lm,shapeOk x.2.1 x.2.2=true):VCM Try.prog 105 [.mem ckK] [.agg (ckL s)] (.tup [.bool (walkedR s).1,.agg (ckL (walkedR s).2)]):=by
 refine vcm_of_wp Try.func105 follows (by kernel_rfl) c105 (by kernel_rfl) ?_
 simp[p105]
 refine wpS_loopP (fun(p:Nat×Ck)=> [(0,.m (ckL p.2)),(3,.v (vi p.1))]) (fun p=>p.1≤4∧p.2.h=s.h∧(∀x∈p.2.lm,shapeOk x.2.1 x.2.2=true)∧walkedR s=walkedF ([1,2,3,4].drop p.1) p.2) (cnt 3 4) (0,s) (by simp) ⟨by simp,rfl,hlm,rfl⟩ ?_
 rintro⟨i,q⟩ ⟨hi,hq,hql,hR⟩
 simp only at hi hq hql hR
 have hqh:q.h.ok:=hq▸hh
 have hi':i=0∨i=1∨i=2∨i=3∨i=4:=by omega
 have kw:=fun k hk=>words_vc (s:=q) (k:=k) hk
 have ks:=fun k=>shapesC_vc (s:=q) hql (partH_ok hqh k).2 (partH_ok hqh k).1
 rcases hi' with rfl|rfl|rfl|rfl|rfl
 ·replace kw:=kw 1 (by omega)
  have st:=walkStep_ok hqh (k:=1)
  have kn:=note_vcm (s:=q) hqh (k:=1) (by omega) (l:=(walkStep q 1).1) (Nat.le_trans st.2 (partH_ok hqh 1).2)
  have k1:=hW _ (partH_ok hqh 1).2 (partH_ok hqh 1).1
  have hsh:=noteLm_ok (h:=q.h) (k:=1) (l:=(walkStep q 1).1) (m:=q.lm) (fun o ho=>(st.1 o ho).1.2) hql
  replace hR:walkedR s=walkedF (1:: [2,3,4]) q:=hR
  rw[walkedF]at hR
  have hws:walkStep q 1=walkW (partH q.h 1) [] false:=rfl
  rw[←hws]at k1
  generalize walkStep q 1=z at*
  obtain⟨l,e⟩:=z
  simp only at k1 kn hR hsh st
  unfold ckP ckL at kw
  unfold ckL at kn
  simp[ckL,w64_1,w64_2,w64_3,w64_4]
  refine callW_of kw (by simp) ?_
  simp
  refine callW_of k1 (by simp) ?_
  simp
  by_cases he:e=0
  ·rw[if_pos he]at hR
   simp[he]
   refine callWM_of kn ?_
   simp[wrap_i]
   exact⟨1,noteS q 1 l,⟨by omega,by rw[noteS_h,hq],fun a b c h=>hsh (a,b,c) h,hR⟩,⟨by simp,rfl⟩,by simp[cnt]⟩
  ·rw[if_neg he]at hR
   simp[he,hR,ckL]
 ·replace kw:=kw 2 (by omega)
  have st:=walkStep_ok hqh (k:=2)
  have kn:=note_vcm (s:=q) hqh (k:=2) (by omega) (l:=(walkStep q 2).1) (Nat.le_trans st.2 (partH_ok hqh 2).2)
  have k1:=hW _ (partH_ok hqh 2).2 (partH_ok hqh 2).1
  have hsh:=noteLm_ok (h:=q.h) (k:=2) (l:=(walkStep q 2).1) (m:=q.lm) (fun o ho=>(st.1 o ho).1.2) hql
  replace hR:walkedR s=walkedF (2:: [3,4]) q:=hR
  rw[walkedF]at hR
  have hws:walkStep q 2=walkW (partH q.h 2) [] false:=rfl
  rw[←hws]at k1
  generalize walkStep q 2=z at*
  obtain⟨l,e⟩:=z
  simp only at k1 kn hR hsh st
  unfold ckP ckL at kw
  unfold ckL at kn
  simp[ckL,w64_1,w64_2,w64_3,w64_4]
  refine callW_of kw (by simp) ?_
  simp
  refine callW_of k1 (by simp) ?_
  simp
  by_cases he:e=0
  ·rw[if_pos he]at hR
   simp[he]
   refine callWM_of kn ?_
   simp[wrap_i]
   exact⟨2,noteS q 2 l,⟨by omega,by rw[noteS_h,hq],fun a b c h=>hsh (a,b,c) h,hR⟩,⟨by simp,rfl⟩,by simp[cnt]⟩
  ·rw[if_neg he]at hR
   simp[he,hR,ckL]
 ·replace kw:=kw 3 (by omega)
  have st:=walkStep_ok hqh (k:=3)
  have kn:=note_vcm (s:=q) hqh (k:=3) (by omega) (l:=(walkStep q 3).1) (Nat.le_trans st.2 (partH_ok hqh 3).2)
  have k1:=hWO _ (shapesL q.lm (partH q.h 3)) (partH_ok hqh 3).2 (Nat.le_trans shapesL_len (partH_ok hqh 3).2) (partH_ok hqh 3).1 (shapesC_ok hql (by simp))
  replace ks:=ks 3
  have hsh:=noteLm_ok (h:=q.h) (k:=3) (l:=(walkStep q 3).1) (m:=q.lm) (fun o ho=>(st.1 o ho).1.2) hql
  replace hR:walkedR s=walkedF (3:: [4]) q:=hR
  rw[walkedF]at hR
  have hws:walkStep q 3=walkW (partH q.h 3) (shapesL q.lm (partH q.h 3)) true:=rfl
  rw[←hws]at k1
  generalize walkStep q 3=z at*
  obtain⟨l,e⟩:=z
  simp only at k1 kn hR hsh st
  unfold ckP ckL at kw ks
  unfold ckL at kn
  simp[ckL,w64_1,w64_2,w64_3,w64_4]
  refine callW_of kw (by simp) ?_
  simp
  refine callW_of kw (by simp) ?_
  simp
  refine callW_of ks (by simp) ?_
  simp
  refine callW_of k1 (by simp) ?_
  simp
  by_cases he:e=0
  ·rw[if_pos he]at hR
   simp[he]
   refine callWM_of kn ?_
   simp[wrap_i]
   exact⟨3,noteS q 3 l,⟨by omega,by rw[noteS_h,hq],fun a b c h=>hsh (a,b,c) h,hR⟩,⟨by simp,rfl⟩,by simp[cnt]⟩
  ·rw[if_neg he]at hR
   simp[he,hR,ckL]
 ·replace kw:=kw 4 (by omega)
  have st:=walkStep_ok hqh (k:=4)
  have kn:=note_vcm (s:=q) hqh (k:=4) (by omega) (l:=(walkStep q 4).1) (Nat.le_trans st.2 (partH_ok hqh 4).2)
  have k1:=hWO _ (shapesL q.lm (partH q.h 4)) (partH_ok hqh 4).2 (Nat.le_trans shapesL_len (partH_ok hqh 4).2) (partH_ok hqh 4).1 (shapesC_ok hql (by simp))
  replace ks:=ks 4
  have hsh:=noteLm_ok (h:=q.h) (k:=4) (l:=(walkStep q 4).1) (m:=q.lm) (fun o ho=>(st.1 o ho).1.2) hql
  replace hR:walkedR s=walkedF (4:: []) q:=hR
  rw[walkedF]at hR
  have hws:walkStep q 4=walkW (partH q.h 4) (shapesL q.lm (partH q.h 4)) true:=rfl
  rw[←hws]at k1
  generalize walkStep q 4=z at*
  obtain⟨l,e⟩:=z
  simp only at k1 kn hR hsh st
  unfold ckP ckL at kw ks
  unfold ckL at kn
  simp[ckL,w64_1,w64_2,w64_3,w64_4]
  refine callW_of kw (by simp) ?_
  simp
  refine callW_of kw (by simp) ?_
  simp
  refine callW_of ks (by simp) ?_
  simp
  refine callW_of k1 (by simp) ?_
  simp
  by_cases he:e=0
  ·rw[if_pos he]at hR
   simp[he]
   refine callWM_of kn ?_
   simp[wrap_i]
   exact⟨4,noteS q 4 l,⟨by omega,by rw[noteS_h,hq],fun a b c h=>hsh (a,b,c) h,hR⟩,⟨by simp,rfl⟩,by simp[cnt]⟩
  ·rw[if_neg he]at hR
   simp[he,hR,ckL]
 ·replace hR:walkedR s=(true,q):=hR
  simp[hR,ckL]
end Vm
namespace Vm
open Go Go.Proofs
set_option maxRecDepth 100000
set_option maxHeartbeats 1000000
theorem vcm_of_ptr{P:Program}{f:FuncId}{ks:List CK}{cs:List V}{r:V}(hv:VC P f false [.ptr cs] r)(hfl:r.flatc=true)(hlen:cs.length=ks.length)(hone:cs.all V.one=true)(hdd:ks.all (fun k=> !(k== .dead))=true):
  VCM P f [.mem ks] [.agg cs] (.tup [r,.agg cs]):=by
 obtain⟨h1,h2⟩:=hv
 refine⟨h1,fun B w h vs hok hA=> ?_⟩
 obtain⟨hxl,hvl,hAi⟩:=hA
 obtain⟨tk,harg,hrel⟩:=hAi 0 (.mem ks) (.agg cs) rfl rfl
 simp only[argK]at harg
 rw[if_pos hlen]at harg
 simp only[Option.some.injEq]at harg
 subst harg
 obtain⟨b,us,T,hb0,hv0,hh,hcs⟩:=hrel
 have hcells: ∀(ks:List CK) (cs:List V),cs.length=ks.length→evals [] (((ks.zip cs).map fun y=>(y.1,E.c y.2)).map (·.2))=some cs:=by
  intro ks
  induction ks with
  |nil=>intro cs hl;have:cs= []:=List.length_eq_zero_iff.1 hl;subst this;rfl
  |cons k ks ih=>
   intro cs hl
   cases cs with
   |nil=>simp at hl
   |cons c cs=>
    simp only[List.zip_cons_cons,List.map_cons,evals,eval]
    rw[ih cs (by simpa using hl)]
    rfl
 have hz:eval [] (.pt none (((ks.zip cs).map fun y=>(y.1,E.c y.2)).map (·.2)))=some (.ptr cs):=by
  simp only[eval,hcells ks cs hlen,Option.bind_some,ptV,hone,if_true]
 have hd:anyDead ((ks.zip cs).map fun y=>(y.1,E.c y.2))=false:=by
  rw[anyDead,List.any_eq_false]
  intro x hx
  obtain⟨y,hy,rfl⟩:=List.mem_map.1 hx
  have:=List.all_eq_true.1 hdd y.1 (List.of_mem_zip hy).1
  simpa using this
 have hrd:=mem_ptr (G':=fun b=>h.F b∨ ∃t i,h.bl t i=some b) hb0 hh hcs hd hz (fun b hb=> .inl hb) fun i b hb=> .inr ⟨0,i,hb⟩
 refine Calls.mono (h2 w (fun b=>h.F b∨ ∃t i,h.bl t i=some b) vs (fun b hb=> ?_) (by simpa using hvl) fun i x hx=> ?_) fun e w' he=> ?_
 ·rcases hb with hb| ⟨t,i,hb⟩
  ·exact hok.f_lt b hb
  ·exact(hok.b_lt t i b hb).2.1
 ·cases i with
  |zero=>
   simp at hx
   subst hx
   rw[hv0]
   exact hrd
  |succ i=>simp at hx
 ·obtain⟨v,rfl,hbel,hrv⟩:=he
  have hsz:=hbel.size
  have hF:Same h.F w w':=fun b hb=>hbel.block b (hok.f_lt b hb)
  have hB: ∀t i b,h.bl t i=some b→w'.heap[b]? =w.heap[b]? :=fun t i b hb=>hbel.block b (hok.b_lt t i b hb).2.1
  have hlen1:us.size=cs.length:=by
   have:=hcs.1
   simp[hlen]at this
   omega
  refine⟨v,r,[.agg cs],h,rfl,hbel.mono hok.base,fun b hb=>hbel.block b (hok.k_lt b hb),⟨Nat.le_trans hok.base hsz,fun b hb=>Nat.lt_of_lt_of_le (hok.f_lt b hb) hsz,hok.f_or,hok.g_F,fun t i b hb=> ?_,hok.inj,fun b hb=>Nat.lt_of_lt_of_le (hok.k_lt b hb) hsz,hok.k_bl,hok.k_F⟩,rfl,hrv.flat hfl,⟨rfl,fun i k y hk hkz hy=> ?_⟩,rfl⟩
  ·obtain⟨q1,q2,q3⟩:=hok.b_lt t i b hb
   exact⟨q1,Nat.lt_of_lt_of_le q2 hsz,q3⟩
  ·cases i with
   |zero=>
    simp at hk hy
    subst hk;subst hy
    refine⟨.mem ((ks.zip cs).map fun y=>(y.1,.c y.2)),by rw[argK,if_pos hlen],b,us,T,hb0,hv0,?_,hcs.keep hF (fun _ hb=>hb) (fun _=>rfl) fun i b hb=>hB 0 _ b hb⟩
    rw[hB 0 0 b hb0]
    exact hh
   |succ i=>simp at hk
end Vm
namespace Vm
open Go Go.Proofs
set_option maxRecDepth 100000
set_option maxHeartbeats 1000000
def rulesL:List FuncId:= [103,104,105,106,107,108,109,110]
def fnA(f:FuncId):V:= .agg [.fn f]
theorem rules_vc:VC Try.prog 94 false [] (.sl (rulesL.map fnA)):=by
 refine vc_of_wp Try.func94 follows (by kernel_rfl) c94 rfl ?_
 simp[p94,rulesL,fnA]
def ruleR(f:FuncId)(s:Ck):Bool×Ck:=
 if f=103 then(boundedR s,s)else if f=104 then(restingR s,s)else if f=105 then walkedR s
 else if f=106 then(copiedCR s,s)else if f=107 then(settledR s,s)else if f=108 then(unscannedR s,s)else if f=109 then(leftR s,s)else(roomyR s,s)
structure Ck.okk (s:Ck):Prop where
 ok:s.ok
 lm: ∀x∈s.lm,shapeOk x.2.1 x.2.2=true
theorem Ck.obs_put(s:Ck)(k:Int)(l:List Ob)(hk:1≤k∧k≤4)(j:Int):(s.put k l).obs j=if j=k∨(k=4∧ ¬(j=1∨j=2∨j=3))then l else s.obs j:=by
 have:k=1∨k=2∨k=3∨k=4:=by omega
 rcases this with rfl|rfl|rfl|rfl<;>simp[Ck.put,Ck.obs]<;>(split<;>simp_all)<;>(try split<;>simp_all)<;>(try split<;>simp_all)
theorem noteS_okk{s:Ck}(hs:s.okk){k:Int}(hk:1≤k∧k≤4):(noteS s k (walkStep s k).1).okk:=by
 have st:=walkStep_ok hs.ok.h (k:=k)
 have hpl:=(partH_ok hs.ok.h k).2
 have hobs: ∀j,(noteS s k (walkStep s k).1).obs j=((s.put k (walkStep s k).1).obs j):=fun j=>rfl
 refine⟨⟨by rw[noteS_h];exact hs.ok.h,fun j o ho=> ?_,fun j=> ?_⟩,noteLm_ok (fun o ho=>(st.1 o ho).1.2) hs.lm⟩
 ·rw[noteS_h]
  rw[hobs,Ck.obs_put _ _ _ hk]at ho
  split at ho
  ·rename_i h
   have:partH s.h j=partH s.h k:=by
    rcases h with rfl| ⟨rfl,h⟩
    ·rfl
    ·simp only[not_or]at h
     simp[partH,h]
   rw[this]
   exact st.1 o ho
  ·exact hs.ok.ob j o ho
 ·rw[hobs,Ck.obs_put _ _ _ hk]
  split
  ·exact Nat.le_trans st.2 hpl
  ·exact hs.ok.len j
theorem walkedF_okk: ∀ {l:List Int} {s:Ck},(∀k∈l,1≤k∧k≤4)→s.okk→(walkedF l s).2.okk∧(walkedF l s).2.h=s.h
 | [],s,_,hs=>⟨hs,rfl⟩
 |k::l,s,hl,hs=>by
  rw[walkedF]
  split
  ·have:=walkedF_okk (l:=l) (fun k hk=>hl k (List.mem_cons_of_mem _ hk)) (noteS_okk hs (hl k (List.mem_cons_self ..)))
   exact⟨this.1,this.2.trans (noteS_h ..)⟩
  ·exact⟨hs,rfl⟩
theorem walkedR_okk{s:Ck}(hs:s.okk):(walkedR s).2.okk∧(walkedR s).2.h=s.h:=walkedF_okk (by intro k hk;simp at hk;omega) hs
theorem ruleR_okk{s:Ck}(hs:s.okk){f:FuncId}:(ruleR f s).2.okk∧(ruleR f s).2.h=s.h:=by
 unfold ruleR
 repeat' split
 all_goals first|exact⟨hs,rfl⟩ |exact walkedR_okk hs
theorem rule_vcm(hW:WalkOk)(hWO:WalkOldOk){s:Ck}(hs:s.okk){f:FuncId}(hf:f∈rulesL):VCM Try.prog f [.mem ckK] [.agg (ckL s)] (.tup [.bool (ruleR f s).1,.agg (ckL (ruleR f s).2)]):=by
 have go: ∀ {f b},VC Try.prog f false [ckP s] (.bool b)→VCM Try.prog f [.mem ckK] [.agg (ckL s)] (.tup [.bool b,.agg (ckL s)]):=fun h=>vcm_of_ptr h rfl rfl rfl rfl
 simp only[rulesL,List.mem_cons,List.not_mem_nil,or_false]at hf
 rcases hf with rfl|rfl|rfl|rfl|rfl|rfl|rfl|rfl
 ·exact go (bounded_vc hs.ok.h)
 ·exact go resting_vc
 ·exact walked_vcm hW hWO hs.ok.h hs.lm
 ·exact go (copiedC_vc hs.ok)
 ·exact go (settled_vc hs.ok)
 ·exact go (unscanned_vc hs.ok)
 ·exact go (left_vc hs.ok)
 ·exact go (roomy_vc hs.ok)
def lookF:List FuncId→Ck→Option Ck
 | [],s=>some s
 |f::l,s=>if(ruleR f s).1=true then lookF l (ruleR f s).2 else none
def initCk(h:Hp):Ck:= {h:=h,o1:= [],o2:= [],o3:= [],o4:= [],pm:= [],lm:= []}
def lookR(h:Hp):Option Ck:=lookF rulesL (initCk h)
theorem initCk_okk{h:Hp}(hh:h.ok):(initCk h).okk:=by
 have h0: ∀k,(initCk h).obs k= []:=fun k=>by simp[initCk,Ck.obs]
 refine⟨⟨hh,fun k o ho=> ?_,fun k=> ?_⟩,fun x hx=>(by simp[initCk]at hx)⟩
 ·rw[h0]at ho;simp at ho
 ·rw[h0];simp
theorem look_vc(hW:WalkOk)(hWO:WalkOldOk){h:Hp}(hh:h.ok):VC Try.prog 68 false [hpV h] (.tup [match lookR h with|some s=>ckP s|none=> .nul 0,.bool (lookR h).isSome]):=by
 refine vc_of_wp Try.func68 follows (by kernel_rfl) c68 rfl ?_
 have k1:=Layout_vc (h:=h)
 have k2:=rules_vc
 have hlen:rulesL.length=8:=rfl
 unfold hpV at k1
 simp[p68]
 refine callW_of k1 (by simp) ?_
 simp[lyV,layH]
 refine callW_of k2 (by simp) ?_
 simp
 refine wpS_loopP (fun(p:Nat×Ck)=> [(5,.m (ckL p.2)),(6,.v (vi p.1))]) (fun p=>p.1≤8∧p.2.okk∧lookR h=lookF (rulesL.drop p.1) p.2) (cnt 6 8) (0,initCk h) (by simp[ckL,initCk,mpA_nil]) ⟨by simp,initCk_okk hh,rfl⟩ ?_
 rintro⟨i,q⟩ ⟨hi,hq,hR⟩
 simp only at hi hq hR
 have hwi:=wrap_i ((i:Int)+1) (by omega) (by omega)
 by_cases hlt:i<rulesL.length
 ·have hx:rulesL[i]? =some rulesL[i]:=List.getElem?_eq_getElem hlt
  have hd:=List.drop_eq_getElem_cons hlt
  have hm:=List.getElem_mem hlt
  generalize rulesL[i]=f at*
  rw[hd,lookF]at hR
  have kr:=rule_vcm hW hWO hq hm
  have hok:=(ruleR_okk hq (f:=f)).1
  rw[hlen]at hlt
  have hlt':(i:Int) <8:=by omega
  simp[idxV,hlt,hlt',hx,at_of hx,hlen,fnA,ckL]
  unfold ckL at kr
  refine callWM_of kr ?_
  cases hb:(ruleR f q).1
  ·rw[if_neg (by simp[hb])]at hR
   simp[hR]
  ·rw[if_pos hb]at hR
   simp[hwi]
   exact⟨i+1,(ruleR f q).2,⟨by omega,hok,hR⟩,⟨by simp,by omega⟩,by simp[cnt];omega⟩
 ·have:i=8:=by omega
  subst this
  replace hR:lookR h=some q:=hR
  simp[hlen,hR,ckL,ckP]
theorem CRight_vc(hW:WalkOk)(hWO:WalkOldOk){h:Hp}(hh:h.ok):VC Try.prog 30 false [hpV h] (.bool (lookR h).isSome):=by
 refine vc_of_wp Try.func30 follows (by kernel_rfl) c30 rfl ?_
 simp[p30]
 refine callW_of (look_vc hW hWO hh) (by simp) ?_
 simp
def objsC(h:Hp)(k:Int):List Ob×Int:=match lookR h with
 |some s=>if 1≤k∧k≤4 then(s.obs k,0)else([],1)
 |none=>([],1)
theorem CObjects_vc(hW:WalkOk)(hWO:WalkOldOk){h:Hp}(hh:h.ok){k:Int}:VC Try.prog 34 false [hpV h,vi k] (.tup [.sl ((objsC h k).1.map obV),vi (objsC h k).2]):=by
 refine vc_of_wp Try.func34 follows (by kernel_rfl) c34 rfl ?_
 simp[p34]
 refine callW_of (look_vc hW hWO hh) (by simp) ?_
 unfold objsC
 cases hl:lookR h with
 |none=>simp
 |some s=>
  by_cases h1:1≤k
  ·by_cases h2:k≤4
   ·have:k=1∨k=2∨k=3∨k=4:=by omega
    rcases this with rfl|rfl|rfl|rfl<;>simp[aiV,w64_0,w64_1,w64_2,w64_3,Ck.obs]
   ·have h1': ¬k<1:=by omega
    have h2':4<k:=by omega
    simp[h1,h2,h1',h2']
  ·have h1':k<1:=by omega
   simp[h1,h1']
end Vm
end
section
namespace Vm
open Go Go.Proofs
set_option maxRecDepth 100000
theorem Tiles.order{ws:List Int}{old:Bool}: ∀ {a:Nat} {l:List Ob},Tiles ws old a l→l.Pairwise fun x y=>x.at_<y.at_
 |_,[],_=> .nil
 |a,o::l,h=>by
  have hs:=shapeOk_iff.1 h.2.1.shape
  refine .cons (fun x hx=> ?_) (Tiles.order h.2.2)
  have:=(Tiles.stands h.2.2 x hx).2
  have:=h.1
  omega
theorem start_eq{h:Hp}(hr:rightL (layH h)=true){k:Int}(hk:1≤k∧k≤4){old:Bool}{o:Ob}(hs:Stands (partH h k) old o):startR h k o.at_=fstL (layH h) k+o.at_:=by
 have:=shapeOk_iff.1 hs.shape
 have:=hs.fits
 have:=hs.nat
 unfold startR
 rw[addr_in hr hk ⟨by omega,by rw[sizL_layH hk];omega⟩]
theorem start_find{h:Hp}(hr:rightL (layH h)=true){k:Int}(hk:1≤k∧k≤4){old:Bool}{o:Ob}(hs:Stands (partH h k) old o):findL (layH h) (startR h k o.at_)=(k,o.at_,0):=by
 have:=shapeOk_iff.1 hs.shape
 have:=hs.fits
 have:=hs.nat
 rw[start_eq hr hk hs]
 exact find_in hr hk ⟨by omega,by rw[sizL_layH hk];omega⟩
theorem Tiles.starts{h:Hp}(hr:rightL (layH h)=true){k:Int}(hk:1≤k∧k≤4){old:Bool}{l:List Ob}(ht:Tiles (partH h k) old 0 l):l.Pairwise fun x y=>startR h k x.at_≠startR h k y.at_:=by
 refine List.Pairwise.imp_of_mem ?_ ht.order
 intro x y hx hy hlt
 rw[start_eq hr hk (ht.stands x hx).1,start_eq hr hk (ht.stands y hy).1]
 omega
theorem noteLm_at{h:Hp}{a:Int}: ∀ {l:List Ob} {m:List (Int×(Int×Int))},(l.Pairwise fun x y=>startR h 1 x.at_≠startR h 1 y.at_)→getA (noteLm h 1 m l) a=match atR h 1 l a with
  |some o=>some (o.size,o.ptrs)
  |none=>getA m a
 | [],m,_=>rfl
 |o::l,m,hp=>by
  obtain⟨h1,h2⟩:=List.pairwise_cons.1 hp
  rw[noteLm,noteLm_at h2]
  unfold atR
  rw[List.find?_cons]
  cases hf:l.find? (fun o=>startR h 1 o.at_==a)with
  |some q=>
   have hq:=List.mem_of_find?_eq_some hf
   have he:startR h 1 q.at_=a:=by have:=List.find?_some hf;simpa using this
   have hne:(startR h 1 o.at_==a)=false:=by
    have:=h1 q hq
    simp only[beq_eq_false_iff_ne]
    omega
   rw[hne]
  |none=>
   simp only[if_true,getA_put]
   by_cases he:startR h 1 o.at_=a
   ·have he':(addrL (layH h) 1 o.at_).1=a:=he
    simp[he,he']
   ·have he': ¬(addrL (layH h) 1 o.at_).1=a:=he
    have:(startR h 1 o.at_==a)=false:=by simpa using he
    simp[this,he']
theorem noteLm_other{h:Hp}{k:Int}(hk: ¬k=1): ∀ {l:List Ob} {m:List (Int×(Int×Int))},noteLm h k m l=m
 | [],m=>rfl
 |o::l,m=>by rw[noteLm,if_neg hk];exact noteLm_other hk
theorem notePm_at{h:Hp}{k a:Int}: ∀ {l:List Ob} {m:List (Int×Int)},getA (notePm h k m l) a=if(atR h k l a).isSome=true then some k else getA m a
 | [],m=>rfl
 |o::l,m=>by
  rw[notePm,notePm_at]
  unfold atR
  rw[List.find?_cons,getA_put]
  by_cases he:startR h k o.at_=a
  ·have he':(addrL (layH h) k o.at_).1=a:=he
   have:(startR h k o.at_==a)=true:=by simpa using he
   simp[this,he']
  ·have he': ¬(addrL (layH h) k o.at_).1=a:=he
   have:(startR h k o.at_==a)=false:=by simpa using he
   simp[this,he']
theorem shapesC_pre{lm:List (Int×(Int×Int))}{ws:List Int}: ∀(f i:Nat) (acc:List (Int×Int)),∃r,shapesC lm ws f i acc=acc++r
 |0,_,acc=>⟨[],by simp[shapesC]⟩
 |f+1,i,acc=>by
  rw[shapesC]
  cases ws[i]? with
  |none=>exact⟨[],by simp⟩
  |some w=>
   simp only
   split
   ·split
    ·exact⟨[],by simp⟩
    ·obtain⟨r,hr⟩:=shapesC_pre (lm:=lm) (ws:=ws) f _ _
     exact⟨_,by rw[hr,List.append_assoc]⟩
   ·split
    ·exact shapesC_pre f _ _
    ·exact⟨[],by simp⟩
theorem shapesC_eq{lm:List (Int×(Int×Int))}{h:Hp}{low:List Ob}(hlm: ∀a,getA lm a=(atR h 1 low a).map fun o=>(o.size,o.ptrs)){ws:List Int}: ∀(f i:Nat) (acc shs:List (Int×Int)),shapesR h ws low f i acc=some shs→shapesC lm ws f i acc=shs
 |0,_,_,_,he=>by simp[shapesR]at he
 |f+1,i,acc,shs,he=>by
  rw[shapesR]at he
  rw[shapesC]
  cases hw:ws[i]? with
  |none=>rw[hw]at he;simpa using he
  |some w=>
   rw[hw]at he
   simp only at he⊢
   by_cases ha:(adr w).2=0
   ·rw[if_pos ha]at he⊢
    rw[hlm]
    cases hq:atR h 1 low (adr w).1 with
    |none=>rw[hq]at he;cases he
    |some o=>rw[hq]at he;exact shapesC_eq hlm _ _ _ _ he
   ·rw[if_neg ha]at he⊢
    by_cases hu:(unpk w).2.2=0
    ·rw[if_pos hu]at he⊢;exact shapesC_eq hlm _ _ _ _ he
    ·rw[if_neg hu]at he;cases he
theorem shapesC_none{lm:List (Int×(Int×Int))}{h:Hp}{low:List Ob}(hlm: ∀a,getA lm a=(atR h 1 low a).map fun o=>(o.size,o.ptrs)){ws:List Int}: ∀(f i:Nat) (acc:List (Int×Int)),0<f→ws.length<f+i→shapesR h ws low f i acc=none→
  ∀(f':Nat) (acc':List Ob),(walkR ws (shapesC lm ws f i acc) true f' i acc.length acc').2≠0
 |0,_,_,h0,_,_=>by omega
 |f+1,i,acc,h0,hf,he=>by
  intro f' acc'
  cases f' with
  |zero=>simp[walkR]
  |succ f'=>
   rw[shapesR]at he
   rw[shapesC,walkR]
   cases hw:ws[i]? with
   |none=>rw[hw]at he;cases he
   |some w=>
    have hlt:=(List.getElem?_eq_some_iff.1 hw).1
    rw[hw]at he
    simp only at he⊢
    by_cases ha:(adr w).2=0
    ·rw[if_pos ha]at he⊢
     rw[hlm]
     cases hq:atR h 1 low (adr w).1 with
     |none=>
      simp only[Option.map_none]
      have:objR acc true i acc.length w=none:=by
       unfold objR
       rw[if_pos ⟨rfl,ha⟩]
       simp
      rw[this]
      simp
     |some o=>
      rw[hq]at he
      simp only[Option.map_some]at he⊢
      obtain⟨r,hr⟩:=shapesC_pre (lm:=lm) (ws:=ws) f (i+1+o.size.toNat) (acc++ [(o.size,o.ptrs)])
      have ih:=shapesC_none hlm f (i+1+o.size.toNat) (acc++ [(o.size,o.ptrs)]) (by omega) (by omega) he f'
      generalize shapesC lm ws f (i+1+o.size.toNat) (acc++ [(o.size,o.ptrs)])=shs at*
      have hs:shs[acc.length]? =some (o.size,o.ptrs):=by rw[hr];simp
      unfold objR
      rw[if_pos ⟨rfl,ha⟩,hs]
      simp only
      by_cases hsh:shapeOk o.size o.ptrs=true
      ·rw[if_pos hsh]
       simp only
       split
       ·simp
       split
       ·simp
       simpa using ih _
      ·rw[if_neg hsh];simp
    ·rw[if_neg ha]at he⊢
     by_cases hu:(unpk w).2.2=0
     ·rw[if_pos hu]at he⊢
      have ih:=shapesC_none hlm f (i+1+(unpk w).1.toNat) acc (by omega) (by omega) he f'
      generalize shapesC lm ws f (i+1+(unpk w).1.toNat) acc=shs at*
      unfold objR
      rw[if_neg (fun hc=>ha hc.2),if_pos hu]
      simp only
      split
      ·simp
      split
      ·simp
      exact ih _
     ·rw[if_neg hu]
      have:objR acc true i acc.length w=none:=by
       unfold objR
       rw[if_neg (fun hc=>ha hc.2),if_neg hu]
      rw[this]
      simp
structure Found (h:Hp) (s:Ck) (p:Pts):Prop where
 hp:s.h=h
 o1:s.o1=p.low
 o2:s.o2=p.high
 o3:s.o3=p.old
 o4:s.o4=p.far
 pm:s.pm=notePm h 4 (notePm h 3 (notePm h 2 (notePm h 1 [] p.low) p.high) p.old) p.far
theorem walked_parts{h:Hp}(hr:rightL (layH h)=true):match partsR h with
  |some p=>(walkedR (initCk h)).1=true∧Found h (walkedR (initCk h)).2 p
  |none=>(walkedR (initCk h)).1=false:=by
 unfold walkedR partsR
 dsimp only
 have s1:walkStep (initCk h) 1=walkW h.low [] false:=rfl
 rw[walkedF,s1]
 by_cases e1:(walkW h.low [] false).2=0
 case neg=>rw[if_neg e1,if_pos (.inl e1)]
 rw[if_pos e1]
 have hT:Tiles h.low false 0 (walkW h.low [] false).1:=walkW_tiles (ws:=h.low) (shs:= []) (Prod.ext rfl e1)
 generalize (walkW h.low [] false).1=l1 at*
 have s2:walkStep (noteS (initCk h) 1 l1) 2=walkW h.high [] false:=rfl
 rw[walkedF,s2]
 by_cases e2:(walkW h.high [] false).2=0
 case neg=>rw[if_neg e2,if_pos (.inr e2)]
 rw[if_pos e2,if_neg (by simp[e1,e2])]
 generalize (walkW h.high [] false).1=l2 at*
 have hlm: ∀a,getA (noteLm h 1 [] l1) a=(atR h 1 l1 a).map fun o=>(o.size,o.ptrs):=by
  intro a
  rw[noteLm_at (Tiles.starts hr (k:=1) (by omega) (by simpa using hT))]
  cases atR h 1 l1 a<;>rfl
 have hlm2:(noteS (noteS (initCk h) 1 l1) 2 l2).lm=noteLm h 1 [] l1:=noteLm_other (by omega)
 have s3:walkStep (noteS (noteS (initCk h) 1 l1) 2 l2) 3=walkW h.old (shapesL (noteLm h 1 [] l1) h.old) true:=by
  rw[←hlm2];rfl
 rw[walkedF,s3]
 cases hp:shapesW h h.old l1 with
 |none=>
  have:=shapesC_none hlm (h.old.length+1) 0 [] (by omega) (by omega) hp (h.old.length+1) []
  have e3: ¬(walkW h.old (shapesL (noteLm h 1 [] l1) h.old) true).2=0:=this
  rw[if_neg e3,if_pos (.inl rfl)]
 |some shs=>
 have hs3:shapesL (noteLm h 1 [] l1) h.old=shs:=shapesC_eq hlm _ _ _ _ hp
 rw[hs3]
 simp only[Option.getD_some]
 by_cases e3:(walkW h.old shs true).2=0
 case neg=>rw[if_neg e3,if_pos (.inr (.inr (.inl e3)))]
 rw[if_pos e3]
 generalize (walkW h.old shs true).1=l3 at*
 have hlm3:(noteS (noteS (noteS (initCk h) 1 l1) 2 l2) 3 l3).lm=noteLm h 1 [] l1:=by
  rw[←hlm2];exact noteLm_other (by omega)
 have s4:walkStep (noteS (noteS (noteS (initCk h) 1 l1) 2 l2) 3 l3) 4=walkW h.far (shapesL (noteLm h 1 [] l1) h.far) true:=by
  rw[←hlm3];rfl
 rw[walkedF,s4]
 cases hq:shapesW h h.far l1 with
 |none=>
  have:=shapesC_none hlm (h.far.length+1) 0 [] (by omega) (by omega) hq (h.far.length+1) []
  have e4: ¬(walkW h.far (shapesL (noteLm h 1 [] l1) h.far) true).2=0:=this
  rw[if_neg e4,if_pos (.inr (.inl rfl))]
 |some shs'=>
 have hs4:shapesL (noteLm h 1 [] l1) h.far=shs':=shapesC_eq hlm _ _ _ _ hq
 rw[hs4]
 simp only[Option.getD_some]
 by_cases e4:(walkW h.far shs' true).2=0
 case neg=>rw[if_neg e4,if_pos (.inr (.inr (.inr e4)))]
 rw[if_pos e4,if_neg (by simp[e3,e4])]
 generalize (walkW h.far shs' true).1=l4 at*
 exact⟨rfl,rfl,rfl,rfl,rfl,rfl,rfl⟩
end Vm
namespace Vm
open Go Go.Proofs
set_option maxRecDepth 100000
theorem parts_tiles{h:Hp}{p:Pts}(h1:partsR h=some p){k:Int}(hk:1≤k∧k≤4):Tiles (partH h k) (decide (2<k)) 0 (p.at k):=by
 have:k=1∨k=2∨k=3∨k=4:=by omega
 unfold partsR at h1
 dsimp only at h1
 split at h1
 ·cases h1
 rename_i c1
 split at h1
 ·cases h1
 rename_i c2
 cases h1
 have c3:(walkW h.low [] false).2=0∧(walkW h.high [] false).2=0:=by
  refine⟨Decidable.byContradiction fun hc=>c1 (.inl hc),Decidable.byContradiction fun hc=>c1 (.inr hc)⟩
 have c4: ∀x:Int,¬x≠0→x=0:=fun x hx=>Decidable.byContradiction hx
 have e3:=c4 _ (fun hx=>c2 (.inr (.inr (.inl hx))))
 have e4:=c4 _ (fun hx=>c2 (.inr (.inr (.inr hx))))
 rcases this with rfl|rfl|rfl|rfl
 ·exact walkW_tiles (Prod.ext rfl c3.1)
 ·exact walkW_tiles (Prod.ext rfl c3.2)
 ·exact walkW_tiles (Prod.ext rfl e3)
 ·exact walkW_tiles (Prod.ext rfl e4)
theorem parts_gone_low{h:Hp}{p:Pts}(h1:partsR h=some p){k:Int}(hk:3≤k∧k≤4){o:Ob}(ho:o∈p.at k)(hg:o.gone=true): ∃q∈p.low,startR h 1 q.at_=o.target∧q.size=o.size∧q.ptrs=o.ptrs:=by
 unfold partsR at h1
 dsimp only at h1
 split at h1
 ·cases h1
 split at h1
 ·cases h1
 rename_i c2
 have aux: ∀(ws:List Int) (x:Option (List (Int×Int))),x=shapesW h ws (walkW h.low [] false).1→ ¬x=none→(walkW ws (x.getD []) true).2=0→o∈(walkW ws (x.getD []) true).1→
   ∃q∈(walkW h.low [] false).1,startR h 1 q.at_=o.target∧q.size=o.size∧q.ptrs=o.ptrs:=by
  intro ws x hx hn h0 ho
  cases x with
  |none=>exact(hn rfl).elim
  |some shs=>
   simp only[Option.getD_some]at h0 ho
   obtain⟨r',e1,e2⟩:=shapes_walk _ _ _ _ hx.symm (ws.length+1) [] (walkW ws shs true).1 (Prod.ext rfl h0)
   simp only[List.nil_append]at e1
   rw[e1]at ho
   obtain⟨q,hq,hs⟩:=e2 o ho hg
   have:=List.find?_some hq
   exact⟨q,atR_in hq,by simpa using this,hs⟩
 have e3: ¬shapesW h h.old (walkW h.low [] false).1=none:=fun e=>c2 (.inl e)
 have e4: ¬shapesW h h.far (walkW h.low [] false).1=none:=fun e=>c2 (.inr (.inl e))
 have e5:(walkW h.old ((shapesW h h.old (walkW h.low [] false).1).getD []) true).2=0:=Decidable.byContradiction fun e=>c2 (.inr (.inr (.inl e)))
 have e6:(walkW h.far ((shapesW h h.far (walkW h.low [] false).1).getD []) true).2=0:=Decidable.byContradiction fun e=>c2 (.inr (.inr (.inr e)))
 cases h1
 have:k=3∨k=4:=by omega
 rcases this with rfl|rfl
 ·exact aux _ _ rfl e3 e5 (by simpa using ho)
 ·exact aux _ _ rfl e4 e6 (by simpa using ho)
theorem at_find{h:Hp}(hr:rightL (layH h)=true){p:Pts}(hp:partsR h=some p){k:Int}(hk:1≤k∧k≤4){a:Int}(hi:(atR h k (p.at k) a).isSome=true): ∃b,findL (layH h) a=(k,b,0):=by
 obtain⟨o,ho⟩:=Option.isSome_iff_exists.1 hi
 have h1:=List.mem_of_find?_eq_some ho
 have h2:startR h k o.at_=a:=by have:=List.find?_some ho;simpa using this
 rw[←h2]
 exact⟨_,start_find hr hk ((parts_tiles hp hk).stands o h1).1⟩
theorem at_one{h:Hp}(hr:rightL (layH h)=true){p:Pts}(hp:partsR h=some p){k j:Int}(hk:1≤k∧k≤4)(hj:1≤j∧j≤4)(hn:k≠j){a:Int}(hi:(atR h k (p.at k) a).isSome=true):(atR h j (p.at j) a).isSome=false:=by
 cases hx:(atR h j (p.at j) a).isSome with
 |false=>rfl
 |true=>
  obtain⟨b,hb⟩:=at_find hr hp hk hi
  obtain⟨c,hc⟩:=at_find hr hp hj hx
  rw[hb]at hc
  simp only[Prod.mk.injEq]at hc
  exact(hn hc.1).elim
section
variable {h:Hp} {s:Ck} {p:Pts}
theorem Found.obs(hf:Found h s p){k:Int}:s.obs k=p.at k:=by
 unfold Ck.obs Pts.at
 rw[hf.o1,hf.o2,hf.o3,hf.o4]
theorem Found.pm_at(hf:Found h s p)(a:Int):getA s.pm a=if(atR h 4 (p.at 4) a).isSome=true then some 4 else if(atR h 3 (p.at 3) a).isSome=true then some 3 else if(atR h 2 (p.at 2) a).isSome=true then some 2 else if(atR h 1 (p.at 1) a).isSome=true then some 1 else none:=by
 rw[hf.pm,notePm_at,notePm_at,notePm_at,notePm_at]
 rfl
theorem Found.points(hf:Found h s p)(hr:rightL (layH h)=true)(hp:partsR h=some p)(w:Int):pointsR s w 1 2=goesR h p w 1 2∧pointsR s w 3 4=goesR h p w 3 4∧pointsR s w 1 4=(goesR h p w 1 2||goesR h p w 3 4):=by
 unfold pointsR goesR
 by_cases h0:w=0
 ·simp[h0]
 by_cases h1:(adr w).2=0
 case neg=>simp[h0,h1]
 simp only[h0,h1,decide_false,decide_true,Bool.false_or,Bool.true_and]
 rw[hf.pm_at]
 generalize (adr w).1=a
 have o:=fun k j hk hj hn=>at_one (k:=k) (j:=j) hr hp hk hj hn (a:=a)
 have o43:=o 4 3 (by omega) (by omega) (by omega)
 have o42:=o 4 2 (by omega) (by omega) (by omega)
 have o41:=o 4 1 (by omega) (by omega) (by omega)
 have o32:=o 3 2 (by omega) (by omega) (by omega)
 have o31:=o 3 1 (by omega) (by omega) (by omega)
 have o21:=o 2 1 (by omega) (by omega) (by omega)
 clear o
 generalize (atR h 1 (p.at 1) a).isSome=b1 at*
 generalize (atR h 2 (p.at 2) a).isSome=b2 at*
 generalize (atR h 3 (p.at 3) a).isSome=b3 at*
 generalize (atR h 4 (p.at 4) a).isSome=b4 at*
 cases b1<;>cases b2<;>cases b3<;>cases b4<;>simp_all
end
end Vm
namespace Vm
open Go Go.Proofs
set_option maxRecDepth 100000
def tgS(l:List Ob):List Int:=(l.filter (·.gone)).map (·.target)
theorem putA_new{α:Type}{l:List (Int×α)}{k:Int}{x:α}(h:getA l k=none):(putA l k x).length=l.length+1:=by
 unfold getA at h
 rw[Option.map_eq_none_iff]at h
 have:l.findIdx? (·.1==k)=none:=by
  rw[List.findIdx?_eq_none_iff]
  intro y hy
  have:=List.find?_eq_none.1 h y hy
  simpa using this
 unfold putA
 rw[this]
 simp
theorem copQ_spec{pm:List (Int×Int)}: ∀ {l:List Ob} {m:List (Int×Bool)} {K:List Int},K.Nodup→(∀a,getA m a=if a∈K then some true else none)→m.length=K.length→
  match copQ pm l m with
  |some m'=>(∀t∈tgS l,(getA pm t).getD 0=1)∧(K++tgS l).Nodup∧m'.length=(K++tgS l).length∧ ∀a,getA m' a=if a∈K++tgS l then some true else none
  |none=> ¬((∀t∈tgS l,(getA pm t).getD 0=1)∧(K++tgS l).Nodup)
 | [],m,K,hK,hm,hl=>by simp only[copQ,tgS,List.filter_nil,List.map_nil,List.append_nil];exact⟨by simp,hK,hl,hm⟩
 |o::l,m,K,hK,hm,hl=>by
  rw[copQ]
  cases hg:o.gone with
  |false=>
   rw[if_neg (by simp)]
   have:tgS (o::l)=tgS l:=by simp[tgS,hg]
   rw[this]
   exact copQ_spec hK hm hl
  |true=>
   rw[if_pos rfl]
   have ht:tgS (o::l)=o.target::tgS l:=by simp[tgS,hg]
   rw[ht]
   by_cases h1:(getA pm o.target).getD 0=1
   ·by_cases h2:o.target∈K
    ·rw[if_neg (by rw[hm,if_pos h2];simp)]
     rintro⟨_,hn⟩
     exact(List.nodup_append.1 hn).2.2 _ h2 _ (List.mem_cons_self ..) rfl
    ·have hno:getA m o.target=none:=by rw[hm,if_neg h2]
     rw[if_pos ⟨h1,by rw[hno];rfl⟩]
     have ih:=copQ_spec (pm:=pm) (l:=l) (m:=putA m o.target true) (K:=K++ [o.target]) (by
       rw[List.nodup_append]
       refine⟨hK,by simp,fun a ha b hb=> ?_⟩
       simp at hb;subst hb
       intro e;subst e;exact h2 ha) (fun a=>by
       rw[getA_put,hm]
       by_cases e:o.target=a
       ·simp[e]
       ·have e': ¬a=o.target:=fun x=>e x.symm
        simp[e,e']) (by rw[putA_new hno,hl];simp)
     rw[List.append_assoc,List.singleton_append]at ih
     cases hc:copQ pm l (putA m o.target true)with
     |none=>
      rw[hc]at ih
      rintro⟨q1,q2⟩
      exact ih ⟨fun t ht=>q1 t (List.mem_cons_of_mem _ ht),q2⟩
     |some m'=>
      rw[hc]at ih
      refine⟨fun t ht=> ?_,ih.2⟩
      rcases List.mem_cons.1 ht with rfl|ht
      ·exact h1
      ·exact ih.1 t ht
   ·rw[if_neg (fun hc=>h1 hc.1)]
    rintro⟨q1,_⟩
    exact h1 (q1 _ (List.mem_cons_self ..))
theorem tgL_count{l:List Ob}{a:Int}:tgL l a=(tgS l).count a:=by
 unfold tgL tgS
 induction l with
 |nil=>rfl
 |cons o l ih=>
  cases hg:o.gone
  ·simpa[hg]using ih
  ·by_cases ht:o.target=a
   ·simp only[List.filter_cons,hg,ht]
    simpa[ht]using ih
   ·have: ¬(o.target==a)=true:=by simpa using ht
    simp only[List.filter_cons,hg,ht]
    simpa[List.count_cons,ht]using ih
theorem once_iff{T S:List Int}(hS:S.Nodup)(hTS:T⊆S):(T.Nodup∧T.length=S.length)↔ ∀a∈S,T.count a=1:=by
 constructor
 ·rintro⟨hT,hl⟩ a ha
  rw[hT.count]
  by_cases hm:a∈T
  ·rw[if_pos hm]
  ·have h1:T⊆S.erase a:=fun x hx=>(hS.mem_erase_iff).2 ⟨fun e=>hm (e▸hx),hTS hx⟩
   have h2:=hT.length_le_of_subset h1
   rw[List.length_erase_of_mem ha]at h2
   have:=List.length_pos_of_mem ha
   omega
 ·intro h
  have hT:T.Nodup:=List.nodup_iff_count.2 fun a=>by
   by_cases hm:a∈T
   ·rw[h a (hTS hm)]
    omega
   ·rw[List.count_eq_zero_of_not_mem hm];omega
  refine⟨hT,Nat.le_antisymm (hT.length_le_of_subset hTS) (hS.length_le_of_subset fun a ha=> ?_)⟩
  exact List.count_pos_iff.1 (by rw[h a ha];omega)
section
variable {h:Hp} {s:Ck} {p:Pts}
theorem Found.copied(hf:Found h s p)(hr:rightL (layH h)=true)(hp:partsR h=some p):copiedCR s=(!h.cycle||p.low.all (tgOk h p)):=by
 have hT:=parts_tiles hp (k:=1) (by omega)
 have hS:(p.low.map fun o=>startR h 1 o.at_).Nodup:=by
  have:=Tiles.starts hr (k:=1) (by omega) hT
  rw[List.nodup_iff_pairwise_ne,List.pairwise_map]
  exact this
 have hin: ∀t∈tgS s.o3++tgS s.o4,t∈p.low.map fun o=>startR h 1 o.at_:=by
  intro t ht
  have: ∃k,(3≤k∧k≤4)∧t∈tgS (p.at k):=by
   rcases List.mem_append.1 ht with ht|ht
   ·exact⟨3,by omega,by rw[hf.o3]at ht;exact ht⟩
   ·exact⟨4,by omega,by rw[hf.o4]at ht;exact ht⟩
  obtain⟨k,hk,ht⟩:=this
  simp only[tgS,List.mem_map,List.mem_filter]at ht
  obtain⟨o,⟨ho,hg⟩,rfl⟩:=ht
  obtain⟨q,hq,he,_⟩:=parts_gone_low hp hk ho hg
  exact List.mem_map.2 ⟨q,hq,he⟩
 have hpm: ∀t∈tgS s.o3++tgS s.o4,(getA s.pm t).getD 0=1:=by
  intro t ht
  obtain⟨q,hq,he⟩:=List.mem_map.1 (hin t ht)
  have h1:(atR h 1 (p.at 1) t).isSome=true:=by
   unfold atR
   rw[List.find?_isSome]
   exact⟨q,hq,by simpa using he⟩
  have o:=fun k hk hn=>at_one (k:=1) (j:=k) hr hp (by omega) hk hn h1
  rw[hf.pm_at,o 4 (by omega) (by omega),o 3 (by omega) (by omega),o 2 (by omega) (by omega),h1]
  rfl
 unfold copiedCR
 rw[hf.hp]
 cases hc:h.cycle
 ·rfl
 simp only[Bool.not_true,Bool.false_or]
 have key:=once_iff hS (T:=tgS s.o3++tgS s.o4) hin
 have hall:p.low.all (tgOk h p)=true↔ ∀a∈(p.low.map fun o=>startR h 1 o.at_),(tgS s.o3++tgS s.o4).count a=1:=by
  rw[List.all_eq_true]
  constructor
  ·intro hx a ha
   obtain⟨o,ho,rfl⟩:=List.mem_map.1 ha
   have:=hx o ho
   simp only[tgOk,decide_eq_true_eq,targR,tgL_count]at this
   rw[List.count_append,hf.o3,hf.o4]
   exact this
  ·intro hx o ho
   have:=hx _ (List.mem_map.2 ⟨o,ho,rfl⟩)
   rw[List.count_append,hf.o3,hf.o4]at this
   simp only[tgOk,decide_eq_true_eq,targR,tgL_count]
   exact this
 rw[List.length_map]at key
 have c1:=copQ_spec (pm:=s.pm) (l:=s.o3) (m:= []) (K:= []) (by simp) (by simp[getA]) rfl
 simp only[List.nil_append]at c1
 rw[Bool.eq_iff_iff,hall,←key]
 cases h1:copQ s.pm s.o3 []with
 |none=>
  rw[h1]at c1
  simp only[Option.bind_none]
  constructor
  ·intro hx;cases hx
  ·rintro⟨hn,_⟩
   exact(c1 ⟨fun t ht=>hpm t (List.mem_append_left _ ht),(List.nodup_append.1 hn).1⟩).elim
 |some m=>
  rw[h1]at c1
  obtain⟨q1,q2,q3,q4⟩:=c1
  simp only[Option.bind_some]
  have c2:=copQ_spec (pm:=s.pm) (l:=s.o4) (m:=m) (K:=tgS s.o3) q2 q4 q3
  cases h2:copQ s.pm s.o4 m with
  |none=>
   rw[h2]at c2
   constructor
   ·intro hx;cases hx
   ·rintro⟨hn,_⟩
    exact(c2 ⟨fun t ht=>hpm t (List.mem_append_right _ ht),hn⟩).elim
  |some m'=>
   rw[h2]at c2
   obtain⟨r1,r2,r3,r4⟩:=c2
   simp only[decide_eq_true_eq,r3,hf.o1]
   exact⟨fun hx=>⟨r2,hx⟩,fun hx=>hx.2⟩
end
end Vm
namespace Vm
open Go Go.Proofs
set_option maxRecDepth 100000
theorem slots_zero: ∀ {l:List Int} {ptrs:Int} {i:Nat},slotsOk l true ptrs i=true→ ∀w∈l,w=0
 | [],_,_,_,w,hw=>by simp at hw
 |x::l,ptrs,i,h,w,hw=>by
  simp only[slotsOk,Bool.and_eq_true,Bool.not_true,Bool.false_or,decide_eq_true_eq]at h
  rcases List.mem_cons.1 hw with rfl|hw
  ·exact h.1.1
  ·exact slots_zero h.2 w hw
theorem ptrsQ_iff{s:Ck}{k:Int}{q:Int→Int→Bool}:ptrsQ s k q=true↔ ∀o∈s.obs k,o.gone=false→ ∀j,j<o.ptrs.toNat→q ((o.at_.toNat+1+j:Nat):Int) (wordAt (partH s.h k) (o.at_.toNat+1+j))=true:=by
 unfold ptrsQ obQ
 rw[List.all_eq_true]
 constructor
 ·intro h o ho hg j hj
  have:=h o ho
  rw[hg,Bool.false_or,List.all_eq_true]at this
  exact this j (List.mem_range.2 hj)
 ·intro h o ho
  cases hg:o.gone
  ·rw[Bool.false_or,List.all_eq_true]
   intro j hj
   exact h o ho hg j (List.mem_range.1 hj)
  ·rfl
theorem ptrsR_iff{h:Hp}{p:Pts}(hp:partsR h=some p){k:Int}(hk:1≤k∧k≤4):ptrsR h p k=true↔ ∀o∈p.at k,o.gone=false→ ∀j,j<o.ptrs.toNat→ptrOk h p k (o.at_.toNat+1+j)=true:=by
 unfold ptrsR obPtrs
 rw[List.all_eq_true]
 constructor
 ·intro h o ho hg j hj
  have:=h o ho
  rw[List.all_eq_true]at this
  exact this j (List.mem_range.2 hj)
 ·intro h' o ho
  rw[List.all_eq_true]
  intro j hj
  have hj:=List.mem_range.1 hj
  cases hg:o.gone
  ·exact h' o ho hg j hj
  ·have hs:=((parts_tiles hp hk).stands o ho).1
   have hsh:=shapeOk_iff.1 hs.shape
   have h1:=hs.slots
   rw[hg]at h1
   have hz:=slots_zero h1
   have hfit:=hs.fits
   have hnat:=hs.nat
   have hlt:o.at_.toNat+1+j< (partH h k).length:=by omega
   have hw:(partH h k)[o.at_.toNat+1+j]? =some 0:=by
    rw[List.getElem?_eq_getElem hlt]
    refine congrArg some (hz _ ?_)
    rw[List.mem_iff_getElem?]
    refine⟨j,?_⟩
    rw[List.getElem?_take,if_pos (by omega),List.getElem?_drop,List.getElem?_eq_getElem hlt]
   have hgo: ∀a b,goesR h p 0 a b=true:=fun a b=>by simp[goesR]
   unfold ptrOk
   simp[hw,hgo]
section
variable {h:Hp} {s:Ck} {p:Pts}
theorem Found.ptrs(hf:Found h s p)(hr:rightL (layH h)=true)(hp:partsR h=some p):(settledR s&&(unscannedR s&&leftR s))=(h.roots.all (fun w=>goesR h p w 1 2)&&ptrsR h p 1&&ptrsR h p 2&&ptrsR h p 3&&ptrsR h p 4):=by
 have hpt:=hf.points hr hp
 have hroots:s.h.roots.all (fun w=>pointsR s w 1 2)=h.roots.all (fun w=>goesR h p w 1 2):=by
  rw[hf.hp]
  congr 1
  funext w
  exact(hpt w).1
 have hob:=fun k=>hf.obs (k:=k)
 have hpk: ∀(k:Int) (q:Nat→Int→Bool) (hk:1≤k∧k≤4),(∀a,ptrOk h p k a=q a (wordAt (partH h k) a))→(ptrsR h p k=true↔ ∀o∈p.at k,o.gone=false→ ∀j,j<o.ptrs.toNat→q (o.at_.toNat+1+j) (wordAt (partH h k) (o.at_.toNat+1+j))=true):=by
  intro k q hk hq
  rw[ptrsR_iff hp hk]
  simp only[hq]
 have p2:=hpk 2 (fun _ w=>goesR h p w 1 2) (by omega) (fun a=>by simp[ptrOk,wordAt])
 have p3:=hpk 3 (fun _ w=>goesR h p w 3 4) (by omega) (fun a=>by simp[ptrOk,wordAt])
 have p4:=hpk 4 (fun _ w=>goesR h p w 3 4) (by omega) (fun a=>by simp[ptrOk,wordAt])
 have p1:=hpk 1 (fun a w=>if h.scan≤a then goesR h p w 1 2||goesR h p w 3 4 else goesR h p w 1 2) (by omega) (fun a=>by simp[ptrOk,wordAt])
 have q2:ptrsQ s 2 (fun _ w=>pointsR s w 1 2)=true↔ptrsR h p 2=true:=by
  rw[p2,ptrsQ_iff,hob,hf.hp]
  simp only[(hpt _).1]
 have q3:ptrsQ s 3 (fun _ w=>pointsR s w 3 4)=true↔ptrsR h p 3=true:=by
  rw[p3,ptrsQ_iff,hob,hf.hp]
  simp only[(hpt _).2.1]
 have q4:ptrsQ s 4 (fun _ w=>pointsR s w 3 4)=true↔ptrsR h p 4=true:=by
  rw[p4,ptrsQ_iff,hob,hf.hp]
  simp only[(hpt _).2.1]
 have q1:(ptrsQ s 1 (fun a w=>decide (s.h.scan≤a)||pointsR s w 1 2)=true∧ptrsQ s 1 (fun a w=>decide (a<s.h.scan)||pointsR s w 1 4)=true)↔ptrsR h p 1=true:=by
  rw[p1,ptrsQ_iff,ptrsQ_iff,hob,hf.hp]
  simp only[(hpt _).1,(hpt _).2.2]
  constructor
  ·rintro⟨ha,hb⟩ o ho hg j hj
   have ha:=ha o ho hg j hj
   have hb:=hb o ho hg j hj
   generalize o.at_.toNat+1+j=n at*
   by_cases hs:h.scan≤(n:Int)
   ·have: ¬(n:Int) <h.scan:=by omega
    simpa[hs,this]using hb
   ·simpa[hs]using ha
  ·intro hx
   refine⟨fun o ho hg j hj=> ?_,fun o ho hg j hj=> ?_⟩
   ·have hx:=hx o ho hg j hj
    generalize o.at_.toNat+1+j=n at*
    by_cases hs:h.scan≤(n:Int)
    ·simp[hs]
    ·simpa[hs]using hx
   ·have hx:=hx o ho hg j hj
    generalize o.at_.toNat+1+j=n at*
    by_cases hs:h.scan≤(n:Int)
    ·have: ¬(n:Int) <h.scan:=by omega
     simpa[hs,this]using hx
    ·have:(n:Int) <h.scan:=by omega
     simp[this]
 unfold settledR unscannedR leftR
 rw[hroots,Bool.eq_iff_iff]
 simp only[Bool.and_eq_true]
 rw[q2,q3,q4,←q1]
 constructor
 ·rintro⟨⟨a,b,c⟩,d,e,f⟩;exact⟨⟨⟨⟨a,c,d⟩,b⟩,e⟩,f⟩
 ·rintro⟨⟨⟨⟨a,c,d⟩,b⟩,e⟩,f⟩;exact⟨⟨a,b,c⟩,d,e,f⟩
theorem Found.roomy(hf:Found h s p):roomyR s=decide ((h.low.length:Int)+h.high.length+waitR p≤h.cap):=by
 unfold roomyR waitC waitR
 rw[hf.hp,hf.o3,hf.o4]
end
theorem num_is(h:Hp):numR h=(boundedR (initCk h)&&restingR (initCk h)):=by
 unfold numR boundedR restingR initCk
 simp only
 cases rightL (layH h)
 ·simp
 by_cases h1:h.roots.length≤16<;>by_cases h2:0≤h.scan<;>by_cases h3:h.scan≤h.low.length<;>cases hc:h.cycle<;>simp[h1,h2,h3]
 by_cases h4:h.scan=h.low.length<;>by_cases h5:h.old= []<;>by_cases h6:h.far= []<;>simp[h4,h5,h6]
theorem look_right(h:Hp):(lookR h).isSome=rightR h∧ ∀s,lookR h=some s→ ∃p,partsR h=some p∧Found h s p:=by
 have hl:lookR h=(if boundedR (initCk h)=true then if restingR (initCk h)=true then if(walkedR (initCk h)).1=true then
   if copiedCR (walkedR (initCk h)).2=true then if settledR (walkedR (initCk h)).2=true then if unscannedR (walkedR (initCk h)).2=true then if leftR (walkedR (initCk h)).2=true then if roomyR (walkedR (initCk h)).2=true then
    some (walkedR (initCk h)).2 else none else none else none else none else none else none else none else none):=rfl
 have hn:=num_is h
 unfold rightR
 rw[hn]
 cases hb:boundedR (initCk h)
 ·rw[hb]at hl;rw[hl];simp
 have hr:rightL (layH h)=true:=by
  unfold boundedR at hb
  simp only[Bool.and_eq_true]at hb
  exact hb.1
 cases hre:restingR (initCk h)
 ·rw[hb,hre]at hl;rw[hl];simp
 have hw:=walked_parts hr
 cases hp:partsR h with
 |none=>
  rw[hp]at hw
  simp only at hw
  rw[hb,hre,hw]at hl
  rw[hl];simp
 |some p=>
  rw[hp]at hw
  obtain⟨h1,hf⟩:=hw
  rw[hb,hre,h1]at hl
  simp only[if_true]at hl
  generalize (walkedR (initCk h)).2=s at*
  have e1:=hf.copied hr hp
  have e2:=hf.ptrs hr hp
  have e3:=hf.roomy
  have e4:rightP h p=(copiedCR s&&((settledR s&&(unscannedR s&&leftR s))&&roomyR s)):=by
   rw[e1,e2,e3]
   unfold rightP
   simp only[Bool.and_assoc]
  simp only[Bool.true_and]
  rw[e4]
  cases c1:copiedCR s
  ·rw[c1]at hl;rw[hl];simp
  cases c2:settledR s
  ·rw[c1,c2]at hl;rw[hl];simp
  cases c3:unscannedR s
  ·rw[c1,c2,c3]at hl;rw[hl];simp
  cases c4:leftR s
  ·rw[c1,c2,c3,c4]at hl;rw[hl];simp
  cases c5:roomyR s
  ·rw[c1,c2,c3,c4,c5]at hl;rw[hl];simp
  rw[c1,c2,c3,c4,c5]at hl
  simp only[if_true]at hl
  rw[hl]
  refine⟨rfl,fun q hq=>⟨p,rfl,?_⟩⟩
  cases hq
  exact hf
theorem look_objs(h:Hp)(k:Int):objsC h k=objsR h k:=by
 obtain⟨h1,h2⟩:=look_right h
 unfold objsC objsR
 cases hl:lookR h with
 |none=>
  rw[hl]at h1
  have h1':rightR h=false:=h1.symm
  simp[h1']
 |some s=>
  rw[hl]at h1
  have h1':rightR h=true:=h1.symm
  obtain⟨p,hp,hf⟩:=h2 s hl
  simp only[h1',true_and,hp,Option.getD_some,hf.obs]
end Vm
end
section
namespace Vm
open Go Go.Proofs Go.RowKit
def SeqP{α:Type}(F:Fence)(n:Nat)(P:Program)(g:Nat)(lb:Array Value)(encs:α→Array Value)(Kp:World→World→Prop)(S:List α→World→Prop)(Pp:List PanicEntry→List α→World→Prop)(N:Nat)(bt:Option Nat)(Ex:World→Prop)(w:World):Prop:=
 ∀(l:Nat) (J:List α→World→Prop) (W:World),Below w.heap.size w W→(∀pre W,J pre W→Ex W)→(∀s A B row,J s A→A.grownBy B row→(∀r,row=some r→some r=bt)→J s B)→
  (∀pre x W1,J pre W1→pre.length<N→YieldAt F (n-1) P l (encs x) W1 fun e W'=>e= .returned (.bool true)∧J (pre++ [x]) W'∧Kp W1 W')→
  J [] W→
  CallsIn F n P g (#[.func (.yield l) #[] #[]]++lb) W fun e W'=>(∃v xs,e= .returned v∧S xs W'∧J xs W')∨(∃chain pre,e= .panicked chain∧Pp chain pre W'∧J pre W')
def postP{α:Type}(B:Nat)(Kp:World→World→Prop)(I:List α→World→Prop)(xs:List α)(W:World):Exit→Act→World→Prop
 | .normal,_,W'=>KeepsFrom B W W'∧Kp W W'∧I xs W'
 |_,_,_=>False
def OwnP{β:Type}(bt:Option Nat)(B:Nat)(I:β→World→Prop):Prop:=
 ∀s X Y row,I s X→X.grownBy Y row→(∀r,row=some r→some r=bt∨(B≤r∧ ∃o:Obj,X.heap[r]? =some o∧o.isCells=false))→I s Y
theorem OwnP.putObj{β:Type}{bt:Option Nat}{B:Nat}{I:β→World→Prop}(h:OwnP bt B I){s:β}{W:World}{l:Nat}{o:Obj}(o':Obj)(hs:I s W)(hB:B≤l)(hl:W.heap[l]? =some o)(ho:o.isCells=false):I s (W.putObj l o'):=
 h s W _ (some l) hs (grownBy_putObj' W l o') (fun r e=>by cases e;exact .inr ⟨hB,o,hl,ho⟩)
theorem OwnP.alloc{β:Type}{bt:Option Nat}{B:Nat}{I:β→World→Prop}(h:OwnP bt B I){s:β}{W:World}(o:Obj)(hs:I s W):I s (W.alloc o):=
 h s W _ none hs (World.grownBy_alloc W o none) (fun r e=>by cases e)
variable {F:Fence} {n:Nat} {P:Program}
theorem wpIn_rangeFunc_P{α:Type}{g:Operand}{ps:Array Tmp}{assign body:Code}{Q:Exit→Act→World→Prop}{a:Act}{w:World}
  (hro:F.round=none) (h1:1≤n) {gf:Nat} {lb:Array Value} (hg:a.eval g= .func (.func gf) #[] lb) (hFg:F.fn gf) (eg: ∀args w,(callFunc gf args).run P w= .ok (.enter gf args) w)
  {encs:α→Array Value} {Kp:World→World→Prop} {S:List α→World→Prop} {Pp:List PanicEntry→List α→World→Prop} {N:Nat} {bt:Option Nat} {Ex:World→Prop} {w0:World} (hseq:SeqP F (n-1) P gf lb encs Kp S Pp N bt Ex w0)
  (hbt: ∀r,bt=some r→r<w.heap.size)
  (hKt: ∀ {A B C:World},Kp A B→Kp B C→Kp A C) (hKb: ∀(W:World) (l:Nat) (o o':Obj),w.heap.size≤l→W.heap[l]? =some o→o.isCells=false→o.isWalk=false→Kp W (W.putObj l o')) (hb0:Below w0.heap.size w0 w) (hps: ∀x,(encs x).size=ps.size)
  (I:List α→World→Prop) (hI:OwnP bt w.heap.size I) (hEx: ∀pre W,I pre W→Ex W) (h0:I [] w) (hS:OwnP none w.heap.size S) (Ax:α→Act→World→Prop) (hAx: ∀x a',OwnP none w.heap.size (fun(_:Unit) W=>Ax x a' W))
  (hassign: ∀(l:Nat) (pre:List α) (x:α) (W:World) (K:Act→World→Prop),I pre W→(∀a' W',KeepsFrom w.heap.size W W'→Kp W W'→I pre W'→Ax x a' W'→K a' W')→
   assign.wpIn (F.inRound l) (n-1-1) P (Exit.then K (fun _ _ _=>False)) {tmps:=(ps.zip (encs x)).foldl (fun t (p,v)=>t.setIfInBounds p v) a.tmps,defers:= []} W)
  (hbody: ∀(l:Nat) (pre:List α) (x:α) (a':Act) (W:World),I pre W→Ax x a' W→pre.length<N→body.wpIn (F.inRound l) (n-1-1) P (postP w.heap.size Kp I (pre++ [x]) W) a' W)
  (hdone: ∀(D:Nat) (xs:List α) (W:World),w.heap.size≤D→S xs W→I xs W→W.heap[D]? =some (.deferred (some []))→Q .normal {a with defers:= {target:= .collected D,args:= #[]}::a.defers} W)
  (hpanic: ∀(D:Nat) (chain:List PanicEntry) (pre:List α) (W:World),w.heap.size≤D→Pp chain pre W→I pre W→W.heap[D]? =some (.deferred (some []))→Q (.panic chain) {a with defers:= {target:= .collected D,args:= #[]}::a.defers} W):
  (Code.rangeFunc g ps assign body).wpIn F n P Q a w:=by
 refine wpIn_rangeFunc fun fn hfn=> ?_
 rw[hro]
 obtain⟨rec,hrec⟩: ∃rec:LoopState→Option Code→Loop,rec=fun st pe=> {state:=st,pending:=pe,fn,tmps:=a.tmps,params:=ps,assign,body,defers:=w.heap.size}:=⟨_,rfl⟩
 obtain⟨W1,hW1⟩: ∃W1,(w.alloc (.deferred (some []))).alloc (.loop (rec .ready none))=W1:=⟨_,rfl⟩
 have hL1:W1.heap[w.heap.size+1]? =some (.loop (rec .ready none)):=by
  have:=World.alloc_heap_new (w.alloc (.deferred (some []))) (.loop (rec .ready none))
  rw[World.size_alloc]at this
  rw[←hW1];exact this
 have hK1:W1.heap[w.heap.size]? =some (.deferred (some [])):=by
  rw[←hW1];exact(Below.heap_alloc _ _ _ (by simp)).trans (World.alloc_heap_new w _)
 have hb1:Below w0.heap.size w0 W1:=by
  rw[←hW1];exact hb0.trans ((((Below.refl _ w).alloc (Nat.le_refl _) _).alloc (by simp) _).mono hb0.size)
 refine⟨w.heap.size+1,[{target:= .collected w.heap.size,args:= #[]}],W1,{target:= .fn (.func gf) lb,args:= #[.func (.yield (w.heap.size+1)) #[] #[]]},W1,gf,
  #[.func (.yield (w.heap.size+1)) #[] #[]]++lb,W1,?_,?_,?_,?_,fun _=>h1,?_⟩
 ·rw[←hW1,hrec];exact run_enterLoop_outer _ _ _ _ _
 ·simp only[resolve,hg]
  simp[go_sem]
 ·intro f' hf';simp[Target.leads]at hf';subst hf';exact hFg
 ·simp[invoke,go_sem,eg]
 have hrow: ∀ {A B:World} {row:Option Nat} {k:Nat} {o:Obj},A.grownBy B row→(∀r,row=some r→some r=bt)→w.heap.size≤k→A.heap[k]? =some o→B.heap[k]? =some o:=by
  intro A B row k o hgr hr hk ho
  refine(hgr.block k (Array.getElem?_eq_some_iff.1 ho).1 fun e=> ?_).trans ho
  have:=hbt k (hr k e.symm).symm
  omega
 refine(hseq (w.heap.size+1) (fun pre W=>I pre W∧W.heap[w.heap.size+1]? =some (.loop (rec .ready none))∧W.heap[w.heap.size]? =some (.deferred (some []))) W1 hb1 (fun pre W h=>hEx pre W h.1)
  (fun s A B row hs hgr hr=>⟨hI s A B row hs.1 hgr (fun r e=> .inl (hr r e)),hrow hgr hr (by omega) hs.2.1,hrow hgr hr (Nat.le_refl _) hs.2.2⟩) ?_ ⟨by rw[←hW1];exact hI.alloc _ (hI.alloc _ h0),hL1,hK1⟩).mono ?_
 ·rintro pre x W ⟨hi,hl,hk⟩ hlen
  have hy:=run_yield (P:=P) (args:=encs x) hl (by rw[hrec];exact hps x)
  rw[hrec]at hy
  refine⟨fn,_,assign,body,hy,roundIn_of_wpIn hfn (hassign _ pre x W _ hi ?_)⟩
  intro a' V hkf hkp hiV hax
  have hlV:=hkf.same _ _ (by omega) hl rfl
  have hkV:=hkf.same _ _ (Nat.le_refl _) hk rfl
  have hlt:w.heap.size+1<V.heap.size:=(Array.getElem?_eq_some_iff.1 hlV).1
  refine⟨_,run_beginRound hlV (by rw[hrec]),?_⟩
  have hl2:(V.putObj (w.heap.size+1) (.loop {rec .ready none with state:= .busy})).heap[w.heap.size+1]? =some (.loop {rec .ready none with state:= .busy}):=World.putObj_heap_same hlt
  have hk2:(V.putObj (w.heap.size+1) (.loop {rec .ready none with state:= .busy})).heap[w.heap.size]? =some (.deferred (some [])):=(World.putObj_heap_other (by omega)).trans hkV
  have hp2:Kp V (V.putObj (w.heap.size+1) (.loop {rec .ready none with state:= .busy})):=hKb _ _ _ _ (by omega) hlV rfl rfl
  refine wpIn_mono (hbody _ pre x a' _ (hI.putObj _ hiV (by omega) hlV rfl) ((hAx x a').putObj (s:=()) _ hax (by omega) hlV rfl) hlen) ?_
  rintro e a3 W3 hp
  cases e with
  |normal=>
   obtain⟨hk3,hkp3,hi3⟩:=hp
   have hl3:=hk3.same _ _ (by omega) hl2 rfl
   have hd3:=hk3.same _ _ (Nat.le_refl _) hk2 rfl
   have hend:=run_endRound (P:=P) none hl3
   refine⟨_,_,hend,rfl,⟨hI.putObj _ hi3 (by omega) hl3 rfl,?_,(World.putObj_heap_other (by omega)).trans hd3⟩,hKt hkp (hKt (hKt hp2 hkp3) (hKb _ _ _ _ (by omega) hl3 rfl rfl))⟩
   rw[World.putObj_heap_same (Array.getElem?_eq_some_iff.1 hl3).1,hrec]
   rfl
  |ret=>exact hp.elim
  |exit id=>exact hp.elim
  |goto t=>exact hp.elim
  |panic ch=>exact hp.elim
  |outgrown=>exact hp.elim
 ·rintro e W2 (⟨v,xs,rfl,hs,hi,hl,hk⟩ | ⟨chain,pre,rfl,hp,hi,hl,hk⟩)
  ·have hend:=run_endLoop (P:=P) hl (by rw[hrec];simp)
   rw[hrec]at hend
   exact⟨none,_,hend,hdone _ xs _ (Nat.le_refl _) (hS.putObj _ hs (by omega) hl rfl) (hI.putObj _ hi (by omega) hl rfl) ((World.putObj_heap_other (by omega)).trans hk)⟩
  ·exact hpanic _ chain pre _ (Nat.le_refl _) hp hi hk
end Vm
end
section
namespace Vm
open Go
open Go.Proofs
set_option maxRecDepth 100000
def p132:Fn:=⟨4,[0,2,3,4],
(.seq
(.reg ⟨[],[],[(1,.v (.c (.bool false)))]⟩)
(.seq
(.reg ⟨[.call 4 [] (.id 57) false false [(.s 0)]],[],[(2,.v (.ext (.s 4) 0)),(3,.v (.ext (.s 4) 1))]⟩)
(.seq
(.reg ⟨[.lt 5 [] (.bin .eql (.s 0) (.c (.int .u64 (0))))],[([(5,false)],(.bin .eql (.s 3) (.c (.int .i64 (0)))))],[(1,.v (.ite (.s 5) (.c (.bool true)) (.bin .eql (.s 3) (.c (.int .i64 (0))))))]⟩)
.ret))),
[(1,.v)]⟩
theorem c132:compFn Try.prog fresh sig [.fz] [] Try.f132=some p132:=by kernel_rfl
end Vm
end
section
namespace Vm
open Go Go.Proofs Go.RowKit
set_option maxHeartbeats 2000000
set_option maxRecDepth 100000
section
variable {P:Program} {w:World}
theorem wp_appendO{o:Oper}{a:Act}{K:Act→World→Prop}{Q:Exit→Act→World→Prop}(s x:Operand)(t:TypeId)
  (ho:o.op= .call {callee:= .builtin .append,args:= #[s,x],argTypes:= #[t,t]}) {e:TypeId} (ht:P.underlying t=some (.slice e)) (hel:elOk P e=true)
  {B n:Nat} {v y:Value} {xs:List Value} (hs:a.eval s=v) (hx:a.eval x=y) (hown:w.ownsRow B e (P.cellsOf e) v n xs) (hB:B≤w.heap.size)
  {Gy:Nat→Prop} {l:List V} (hy:Rd w Gy (.sl l) y) (hk:sizeOk (P.cellsOf e) l=true) (hlim:n+l.length≤lim)
  (h: ∀v' w' news,w'.ownsRow B e (P.cellsOf e) v' (n+l.length) (xs++news)→w.grownBy w' v.ownBlock→(v'.ownBlock=v.ownBlock∨(w.grownBy w' none∧w'.ownsRow w.heap.size e (P.cellsOf e) v' (n+l.length) (xs++news)))→
   (∀(i:Nat) (ck:V),(flat l)[i]? =some ck→ ∃u,news[i]? =some u∧Rd w Gy ck u)→K (a.put o.dst v') w'):o.wp P a w K Q:=by
 obtain⟨v',w',news,hr,h1,h2,h3,_,h5⟩:=run_appendO (ty:=o.type) ht hel hown hB hy hk hlim
 unfold Oper.wp execOp
 simp only[ho,resolve,invoke,builtin,Sem.run_bind,Sem.run_pure,Result.andThen_ok,List.map_toArray,List.map_cons,List.map_nil,hs,hx,hr]
 exact h v' w' news h1 h2 h3 h5
theorem wpList_appendO{ops:Array Oper}{rest:List Oper}{o:Oper}{a:Act}{Q:Exit→Act→World→Prop}(hgd:o.guard=none)(s x:Operand)(t:TypeId)
  (ho:o.op= .call {callee:= .builtin .append,args:= #[s,x],argTypes:= #[t,t]}) {e:TypeId} (ht:P.underlying t=some (.slice e)) (hel:elOk P e=true)
  {B n:Nat} {v y:Value} {xs:List Value} (hs:a.eval s=v) (hx:a.eval x=y) (hown:w.ownsRow B e (P.cellsOf e) v n xs) (hB:B≤w.heap.size)
  {Gy:Nat→Prop} {l:List V} (hy:Rd w Gy (.sl l) y) (hk:sizeOk (P.cellsOf e) l=true) (hlim:n+l.length≤lim)
  (h: ∀v' w' news,w'.ownsRow B e (P.cellsOf e) v' (n+l.length) (xs++news)→w.grownBy w' v.ownBlock→(v'.ownBlock=v.ownBlock∨(w.grownBy w' none∧w'.ownsRow w.heap.size e (P.cellsOf e) v' (n+l.length) (xs++news)))→
   (∀(i:Nat) (ck:V),(flat l)[i]? =some ck→ ∃u,news[i]? =some u∧Rd w Gy ck u)→wpList P ops Q rest (a.put o.dst v') w'):wpList P ops Q (o::rest) a w:=
 wpList_plain hgd fun _ hK=>wp_appendO s x t ho ht hel hs hx hown hB hy hk hlim fun v' w' news h1 h2 h3 h4=>hK _ _ (h v' w' news h1 h2 h3 h4)
end
def nums(k:IntKind)(l:List Int):List Value:=l.map (Value.int k)
theorem news_nums{w:World}{G:Nat→Prop}{k:IntKind}{l:List Int}{news:List Value}(h: ∀(i:Nat) (ck:V),(flat (l.map (V.int k)))[i]? =some ck→ ∃u,news[i]? =some u∧Rd w G ck u)(hl:news.length=l.length):news=nums k l:=by
 have hflat:flat (l.map (V.int k))=l.map (V.int k):=by
  clear h hl
  induction l with
  |nil=>rfl
  |cons a l ih=>rw[List.map_cons,flat_cons,ih];rfl
 apply List.ext_getElem?
 intro i
 unfold nums
 by_cases hi:i<l.length
 ·obtain⟨u,hu,hr⟩:=h i (.int k l[i]) (by rw[hflat,List.getElem?_map,List.getElem?_eq_getElem hi];rfl)
  rw[hu,List.getElem?_map,List.getElem?_eq_getElem hi]
  cases hr;rfl
 ·rw[List.getElem?_eq_none (by omega),List.getElem?_eq_none (by simp;omega)]
theorem own_form{w:World}{B:Nat}{e:TypeId}{z n:Nat}{v:Value}{xs:List Value}(h:w.ownsRow B e z v n xs): ∃a c,v= .slice a n c:=by
 rcases h.2 with ⟨rfl,rfl⟩ | ⟨g,cap,cur,rfl,_⟩
 ·exact⟨_,_,rfl⟩
 ·exact⟨_,_,rfl⟩
theorem owns_block{w w':World}{B:Nat}{e:TypeId}{z n:Nat}{v:Value}{xs:List Value}(h:w.ownsRow B e z v n xs)(hs: ∀b,v.ownBlock=some b→w'.heap[b]? =w.heap[b]?):w'.ownsRow B e z v n xs:=by
 refine⟨h.1,?_⟩
 rcases h.2 with ⟨h1,h2⟩ | ⟨g,cap,cur,rfl,h2,h3,h4⟩
 ·exact .inl ⟨h1,h2⟩
 ·exact .inr ⟨g,cap,cur,rfl,h2,by rw[hs g rfl];exact h3,h4⟩
theorem frz_of{w:World}{b o:Nat}{cs:Array Value}{T:TypeId}(h:w.heap[b]? =some (.cells cs T (0,0))):w.frozen? ⟨b,o,none⟩=false:=by
 simp[World.frozen?,h]
theorem elU:elOk Try.prog 24=true:=by kernel_rfl
theorem ceU:Try.prog.cellsOf 24=1:=by kernel_rfl
theorem heap_lt{w:World}{b:Nat}{o:Obj}(h:w.heap[b]? =some o):b<w.heap.size:=(Array.getElem?_eq_some_iff.1 h).1
theorem own_lower{w:World}{B B':Nat}{e:TypeId}{z n:Nat}{v:Value}{xs:List Value}(h:w.ownsRow B e z v n xs)(hB:B'≤B):w.ownsRow B' e z v n xs:=by
 refine⟨h.1,?_⟩
 rcases h.2 with h2| ⟨g,cap,cur,hv,hb,h3⟩
 ·exact .inl h2
 ·exact .inr ⟨g,cap,cur,hv,Nat.le_trans hB hb,h3⟩
theorem nums_set(k:IntKind)(l:List Int)(i:Nat)(x:Int):nums k (l.set i x)=(nums k l).set i (.int k x):=by unfold nums;rw[List.map_set]
section
variable {w:World} {B:Nat} {G:Nat→Prop}
theorem flat_ints{k:IntKind}(l:List Int):flat (l.map (V.int k))=l.map (V.int k):=by
 induction l with
 |nil=>rfl
 |cons a l ih=>rw[List.map_cons,flat_cons,ih];rfl
theorem own_rd{k:IntKind}{e:TypeId}{v:Value}{l:List Int}(h:w.ownsRow B e 1 v l.length (nums k l))(hG: ∀c,B≤c→c<w.heap.size→G c):Rd w G (.sl (l.map (V.int k))) v:=by
 rcases h.2 with ⟨rfl,h0⟩ | ⟨g,cap,cur,rfl,hb,hg,hnc,hcm,_⟩
 ·have:l= []:=List.length_eq_zero_iff.1 h0
  subst this
  exact .nil _ _ (by unfold maxLen;omega)
 ·have:=Rd.sl (w:=w) (G:=G) (l.map (V.int k)) g 0 cap 1 (fun i=>(nums k l).getD i undef) (by simpa using hnc) hcm (hG g hb (heap_lt hg)) (fun x hx=>by
   obtain⟨n,_,rfl⟩:=List.mem_map.1 hx
   exact⟨rfl,fun c hc=>by simp[V.cells]at hc;subst hc;rfl⟩) (fun i hi=>by
    have hi':i<l.length:=by simpa using hi
    rw[Nat.zero_add,h.cellAt i (by omega)]
    simp[nums,hi']) (fun i c hc=>by
    rw[flat_ints]at hc
    obtain⟨hi,rfl⟩:=List.getElem?_eq_some_iff.1 hc
    have hi':i<l.length:=by simpa using hi
    simp[nums,hi']
    exact .int _ _)
  simpa using this
end
theorem part_walk(w:World)(b k:Nat)(hk:k=1∨k=2∨k=3∨k=4):
  Calls Try.prog 90 #[.pointer (some ⟨b,0,none⟩),.int .i64 k] w fun e w'=>e= .returned (.pointer (some ⟨b,4+k,none⟩))∧Below w.heap.size w w':=by
 go_enter Try.func90,Try.ntmps90
 rcases hk with rfl|rfl|rfl|rfl
 all_goals
  go_wp2
  go_region
  go_wp2
  go_ret
  exact⟨rfl,((Below.refl _ _).alloc (Nat.le_refl _) _).drew⟩
end Vm
end
section
namespace Vm
open Go Go.Proofs Go.RowKit
set_option maxHeartbeats 4000000
set_option maxRecDepth 100000
def lsH(h:Hp)(j:Nat):List Int:=if j=0 then h.low else if j=1 then h.high else if j=2 then h.old else if j=3 then h.far else h.roots
structure OwSt (w:World) (b:Nat) (el:Nat→Option Obj) (T:TypeId) (hd src:Nat→Value) (L:Nat→List Int) (k:Nat) (xs:Nat→Value) (wr:World):Prop where
 below:Below w.heap.size w wr
 new:w.heap.size≤b
 blk:wr.heap[b]? =some (.cells #[hd 0,hd 1,hd 2,hd 3,hd 4,xs 0,xs 1,xs 2,xs 3,src 4] T (0,0))
 elder: ∀c,w.heap.size≤c→c<b→wr.heap[c]? =el c
 rest: ∀j,k≤j→xs j=src j
 own: ∀j,j<k→wr.ownsRow w.heap.size 24 1 (xs j) (L j).length (nums .u64 (L j))
 newer: ∀j,j<k→ ∀c,(xs j).ownBlock=some c→b<c
 apart: ∀i j,i<j→j<k→ ∀c,(xs i).ownBlock=some c→(xs j).ownBlock≠some c
theorem OwSt.next{w wr w1 w6:World}{b:Nat}{el:Nat→Option Obj}{T:TypeId}{hd src:Nat→Value}{L:Nat→List Int}{k:Nat}{xs:Nat→Value}(h:OwSt w b el T hd src L k xs wr)(hk:k<4)
  (hb:Below wr.heap.size wr w1) (hg:w1.grownBy w6 none) {v:Value} (ho:w6.ownsRow w.heap.size 24 1 v (L k).length (nums .u64 (L k))) (hn: ∀c,v.ownBlock=some c→w1.heap.size≤c):
  OwSt w b el T hd src L (k+1) (fun j=>if j=k then v else xs j) (w6.setCell ⟨b,5+k,none⟩ v):=by
 have hbl:b<wr.heap.size:=heap_lt h.blk
 have hs1:=hb.size
 have hs0:=h.below.size
 have hs2:=hg.size
 have keep: ∀c,c<wr.heap.size→c≠b→(w6.setCell ⟨b,5+k,none⟩ v).heap[c]? =wr.heap[c]? :=fun c hc hne=>by
  rw[Below.heap_setCell _ _ _ _ hne,hg.block c (by omega) (by simp),hb.block c hc]
 have h6:w6.heap[b]? =some (.cells #[hd 0,hd 1,hd 2,hd 3,hd 4,xs 0,xs 1,xs 2,xs 3,src 4] T (0,0)):=by
  rw[hg.block b (by omega) (by simp),hb.block b hbl,h.blk]
 refine⟨((h.below.trans (hb.mono hs0)).grown hg (by omega) (by simp)).setCell h.new _,h.new,?_,?_,?_,?_,?_,?_⟩
 ·have:k=0∨k=1∨k=2∨k=3:=by omega
  rcases this with rfl|rfl|rfl|rfl<;>simp[World.setCell,Array.getElem?_modify,h6]
 ·intro c h1 h2
  rw[keep c (by omega) (by omega)]
  exact h.elder c h1 h2
 ·intro j hj
  rw[if_neg (by omega)]
  exact h.rest j (by omega)
 ·intro j hj
  by_cases hjk:j=k
  ·subst hjk
   rw[if_pos rfl]
   exact owns_block ho fun c hc=>Below.heap_setCell _ _ _ _ (by have:=hn c hc;show c≠b;omega)
  ·rw[if_neg hjk]
   have hoj:=h.own j (by omega)
   exact owns_block hoj fun c hc=>keep c (hoj.lt c hc).2 (by have:=h.newer j (by omega) c hc;omega)
 ·intro j hj c hc
  by_cases hjk:j=k
  ·rw[if_pos hjk]at hc
   have:=hn c hc
   omega
  ·rw[if_neg hjk]at hc
   exact h.newer j (by omega) c hc
 ·intro i j hij hj c hc
  rw[if_neg (by omega)]at hc
  by_cases hjk:j=k
  ·rw[if_pos hjk]
   intro e
   have:=hn c e
   have:=((h.own i (by omega)).lt c hc).2
   omega
  ·rw[if_neg hjk]
   exact h.apart i j hij (by omega) c hc
structure HOwn (B:Nat) (w:World) (h:Hp) (x:Nat→Value):Prop where
 own: ∀j,j<5→w.ownsRow B 24 1 (x j) (lsH h j).length (nums .u64 (lsH h j))
 apart: ∀i j,i<j→j<5→ ∀c,(x i).ownBlock=some c→(x j).ownBlock≠some c
def hpA(h:Hp)(x:Nat→Value):Value:= .agg #[.int .u64 h.base,.int .i64 h.cap,.int .i64 h.to,.bool h.cycle,.int .i64 h.scan,x 0,x 1,x 2,x 3,x 4]
def HOwnPost(w:World)(h:Hp)(e:Ending)(w':World):Prop:= ∃x,e= .returned (hpA h x)∧Below w.heap.size w w'∧HOwn w.heap.size w' h x
theorem lsH_len{h:Hp}(hh:h.ok)(k:Nat):(lsH h k).length≤1000000:=by
 unfold lsH
 split
 ·exact hh.low
 split
 ·exact hh.high
 split
 ·exact hh.old
 split
 ·exact hh.far
 ·exact hh.roots
theorem part_walk'(w:World)(b k:Nat)(hk:k<4):
  Calls Try.prog 90 #[.pointer (some ⟨b,0,none⟩),.int .i64 ((k+1:Nat):Int)] w fun e w'=>e= .returned (.pointer (some ⟨b,5+k,none⟩))∧Below w.heap.size w w':=by
 have:=part_walk w b (k+1) (by omega)
 rw[show 4+(k+1)=5+k by omega]at this
 exact this
theorem Own_walk(w:World)(G:Nat→Prop)(hG: ∀b,G b→b<w.heap.size)(h:Hp)(hh:h.ok)(src:Nat→Value)(hs: ∀j,j<5→Rd w G (.sl ((lsH h j).map vu)) (src j)):
  Calls Try.prog 56 #[hpA h src] w (HOwnPost w h):=by
 have HS:=Lib.hid hs
 have HH:=Lib.hid hh
 clear hs hh
 unfold hpA
 go_enter Try.func56,Try.ntmps56
 go_wp2
 go_loopw [4] (fun i wr=> ∃(k:Nat) (xs:Nat→Value),i= .int .i64 ((k+1:Nat):Int)∧k≤4∧Hid (OwSt w (w.heap.size+2) (fun c=>if c=w.heap.size then some (.cells #[Value.int IntKind.u64 h.base,Value.int IntKind.i64 h.cap,Value.int IntKind.i64 h.to,Value.bool h.cycle,Value.int IntKind.i64 h.scan,src 0,src 1,src 2,src 3,src 4] 31 (0,0))else some (.cells #[Value.int IntKind.u64 0,Value.int IntKind.i64 0,Value.int IntKind.i64 0,Value.bool false,Value.int IntKind.i64 0,Value.slice none 0 0,Value.slice none 0 0,Value.slice none 0 0,Value.slice none 0 0,Value.slice none 0 0] 31 (0,0))) 142 (fun j=>if j=0 then .int .u64 h.base else if j=1 then .int .i64 h.cap else if j=2 then .int .i64 h.to else if j=3 then .bool h.cycle else .int .i64 h.scan) src (lsH h) k xs wr))
  (fun i _=>5- (intOf i).toNat)
 case atStart=>
  refine⟨0,src,rfl,by omega,Lib.hid ⟨(((Below.refl _ _).alloc (Nat.le_refl _) _).alloc (by simp) _).alloc (by simp;omega) _,by omega,?_,?_,fun _ _=>rfl,fun j hj=>by omega,fun j hj=>by omega,fun i j _ hj=>by omega⟩⟩
  have:=heap_alloc_new ((w.alloc (.cells #[Value.int IntKind.u64 h.base,Value.int IntKind.i64 h.cap,Value.int IntKind.i64 h.to,Value.bool h.cycle,Value.int IntKind.i64 h.scan,src 0,src 1,src 2,src 3,src 4] 31)).alloc (.cells #[Value.int IntKind.u64 0,Value.int IntKind.i64 0,Value.int IntKind.i64 0,Value.bool false,Value.int IntKind.i64 0,Value.slice none 0 0,Value.slice none 0 0,Value.slice none 0 0,Value.slice none 0 0,Value.slice none 0 0] 31)) (.cells #[Value.int IntKind.u64 h.base,Value.int IntKind.i64 h.cap,Value.int IntKind.i64 h.to,Value.bool h.cycle,Value.int IntKind.i64 h.scan,src 0,src 1,src 2,src 3,src 4] 142)
  ·simpa using this
  ·intro c h1 h2
   have:c=w.heap.size∨c=w.heap.size+1:=by omega
   rcases this with rfl|rfl
   ·rw[if_pos rfl,Below.heap_alloc _ _ _ (by simp;omega),Below.heap_alloc _ _ _ (by simp)]
    exact heap_alloc_new _ _
   ·rw[if_neg (by omega),Below.heap_alloc _ _ _ (by simp)]
    have:=heap_alloc_new (w.alloc (.cells #[Value.int IntKind.u64 h.base,Value.int IntKind.i64 h.cap,Value.int IntKind.i64 h.to,Value.bool h.cycle,Value.int IntKind.i64 h.scan,src 0,src 1,src 2,src 3,src 4] 31)) (.cells #[Value.int IntKind.u64 0,Value.int IntKind.i64 0,Value.int IntKind.i64 0,Value.bool false,Value.int IntKind.i64 0,Value.slice none 0 0,Value.slice none 0 0,Value.slice none 0 0,Value.slice none 0 0,Value.slice none 0 0] 31)
    simpa using this
 case round=>
  obtain⟨k,xs,rfl,hk,HI⟩:=hrel
  have hsz:=heap_lt HI.out.blk
  by_cases hlt:k<4
  ·have hle:((k+1:Nat):Int)≤4:=by omega
   have c0:wr.cell? ⟨w.heap.size+2,5+k,none⟩=some (src k):=by
    rw[cell_of_row _ _ _ _ _ _ HI.out.blk]
    have h3:k=0∨k=1∨k=2∨k=3:=by omega
    have hr:=HI.out.rest k (Nat.le_refl _)
    rcases h3 with rfl|rfl|rfl|rfl<;>simp[←hr]
   have f0:wr.frozen? ⟨w.heap.size+2,5+k,none⟩=false:=frz_of HI.out.blk
   have hll:(lsH h k).length≤1000000:=lsH_len HH.out k
   go_wp2_with (first
    | (go_at_call 90;refine(part_walk' _ _ _ hlt).mono ?_;rintro e w1 ⟨rfl,hb1⟩;have c1:=(hb1.cell (p:=⟨w.heap.size+2,5+k,none⟩) (by exact hsz)).trans c0;have f1:=(hb1.frozen (p:=⟨w.heap.size+2,5+k,none⟩) (by exact hsz)).trans f0;have HR1:=Lib.hid ((HS.out k (by omega)).keep (w':=w1) (fun b hb=>by rw[hb1.block b (by have:=hG b hb;have:=HI.out.below.size;omega)];exact HI.out.below.block b (hG b hb)) (fun _ h=>h));have HB1:=Lib.hid hb1;have hs1:=hb1.size;have hs0:=HI.out.below.size;clear hb1)
    | (at_builtin;refine wpList_appendO (B:=w.heap.size) (n:=0) (xs:= []) rfl _ _ _ rfl Try.underlying28 elU rfl rfl (World.ownsRow_nil _ _ _ _) (by omega) (l:=(lsH h k).map vu) (Gy:=G) HR1.out (by rw[ceU];exact sizeOk_vi _) (by simp[lim];omega) ?_))
   intro v6 w6 news6 hown6 hgrow hat6 hn6
   simp only[ceU]at hown6
   have hl6:news6.length=(lsH h k).length:=by have:=hown6.1;simpa using this
   rw[news_nums hn6 hl6]at hown6
   try simp only[List.length_map,Nat.zero_add,List.nil_append]at hown6
   obtain⟨a6,q6,hv6⟩:=own_form hown6
   subst hv6
   have hnone:(Value.slice none 0 0).ownBlock=none:=rfl
   rw[hnone]at hgrow
   have c6:=(hgrow.cell_far ⟨w.heap.size+2,5+k,none⟩ (by show w.heap.size+2<_;omega) (by simp)).trans c1
   have f6:=(hgrow.frozen_far ⟨w.heap.size+2,5+k,none⟩ (by show w.heap.size+2<_;omega) (by simp)).trans f1
   have hnew: ∀c,(Value.slice a6 (lsH h k).length q6).ownBlock=some c→w1.heap.size≤c:=by
    intro c hc
    rcases hat6 with e| ⟨_,e⟩
    ·rw[e]at hc;cases hc
    ·exact(e.lt c hc).1
   have HN:=Lib.hid (HI.out.next hlt HB1.out hgrow hown6 hnew)
   clear hown6 hgrow hat6 hn6 hnew
   go_wp2
   go_roundw
   case rel=>exact⟨k+1,_,by go_num,by omega,HN⟩
   case measure=>simp[intOf];omega
  ·have hk4:k=4:=by omega
   subst hk4
   have b0:=HI.out.elder w.heap.size (by omega) (by omega)
   rw[if_pos rfl]at b0
   have b1:=HI.out.elder (w.heap.size+1) (by omega) (by omega)
   rw[if_neg (by omega)]at b1
   have c9:wr.cell? ⟨w.heap.size,9,none⟩=some (src 4):=by rw[cell_of_row _ _ _ _ _ _ b0];rfl
   have hll:(lsH h 4).length≤1000000:=lsH_len HH.out 4
   have HR1:=Lib.hid ((HS.out 4 (by omega)).keep (w':=wr) (fun b hb=>HI.out.below.block b (hG b hb)) (fun _ h=>h))
   have hs0:=HI.out.below.size
   go_wp2_with (at_builtin;refine wpList_appendO (B:=w.heap.size) (n:=0) (xs:= []) rfl _ _ _ rfl Try.underlying28 elU rfl rfl (World.ownsRow_nil _ _ _ _) (by omega) (l:=(lsH h 4).map vu) (Gy:=G) HR1.out (by rw[ceU];exact sizeOk_vi _) (by simp[lim];omega) ?_)
   intro v6 w6 news6 hown6 hgrow hat6 hn6
   simp only[ceU]at hown6
   have hl6:news6.length=(lsH h 4).length:=by have:=hown6.1;simpa using this
   rw[news_nums hn6 hl6]at hown6
   try simp only[List.length_map,Nat.zero_add,List.nil_append]at hown6
   obtain⟨a6,q6,hv6⟩:=own_form hown6
   subst hv6
   have hnone:(Value.slice none 0 0).ownBlock=none:=rfl
   rw[hnone]at hgrow
   obtain⟨a0',q0',e0⟩:=own_form (HI.out.own 0 (by omega))
   obtain⟨a1',q1',e1⟩:=own_form (HI.out.own 1 (by omega))
   obtain⟨a2',q2',e2⟩:=own_form (HI.out.own 2 (by omega))
   obtain⟨a3',q3',e3⟩:=own_form (HI.out.own 3 (by omega))
   have blk:wr.heap[w.heap.size+2]? =some (.cells #[Value.int IntKind.u64 h.base,Value.int IntKind.i64 h.cap,Value.int IntKind.i64 h.to,Value.bool h.cycle,Value.int IntKind.i64 h.scan,Value.slice a0' (lsH h 0).length q0',Value.slice a1' (lsH h 1).length q1',Value.slice a2' (lsH h 2).length q2',Value.slice a3' (lsH h 3).length q3',src 4] 142 (0,0)):=by rw[←e0,←e1,←e2,←e3];exact HI.out.blk
   have blk6:=(hgrow.block (w.heap.size+2) (by omega) (by simp)).trans blk
   have b61:=(hgrow.block (w.heap.size+1) (by omega) (by simp)).trans b1
   have x9:w6.cell? ⟨w.heap.size+2,9,none⟩=some (src 4):=by rw[cell_of_row _ _ _ _ _ _ blk6];rfl
   have y9:w6.frozen? ⟨w.heap.size+2,9,none⟩=false:=frz_of blk6
   have blk7:(w6.setCell ⟨w.heap.size+2,9,none⟩ (Value.slice a6 (lsH h 4).length q6)).heap[w.heap.size+2]? =some (.cells #[Value.int IntKind.u64 h.base,Value.int IntKind.i64 h.cap,Value.int IntKind.i64 h.to,Value.bool h.cycle,Value.int IntKind.i64 h.scan,Value.slice a0' (lsH h 0).length q0',Value.slice a1' (lsH h 1).length q1',Value.slice a2' (lsH h 2).length q2',Value.slice a3' (lsH h 3).length q3',Value.slice a6 (lsH h 4).length q6] 142 (0,0)):=by
    simp[World.setCell,Array.getElem?_modify,blk6]
   have b71:(w6.setCell ⟨w.heap.size+2,9,none⟩ (Value.slice a6 (lsH h 4).length q6)).heap[w.heap.size+1]? =some (.cells #[Value.int IntKind.u64 0,Value.int IntKind.i64 0,Value.int IntKind.i64 0,Value.bool false,Value.int IntKind.i64 0,Value.slice none 0 0,Value.slice none 0 0,Value.slice none 0 0,Value.slice none 0 0,Value.slice none 0 0] 31 (0,0)):=by
    rw[Below.heap_setCell _ _ _ _ (by simp)];exact b61
   have l0:(w6.setCell ⟨w.heap.size+2,9,none⟩ (Value.slice a6 (lsH h 4).length q6)).cell? ⟨w.heap.size+2,0,none⟩=some (Value.int IntKind.u64 h.base):=by rw[cell_of_row _ _ _ _ _ _ blk7];rfl
   have l1:(w6.setCell ⟨w.heap.size+2,9,none⟩ (Value.slice a6 (lsH h 4).length q6)).cell? ⟨w.heap.size+2,1,none⟩=some (Value.int IntKind.i64 h.cap):=by rw[cell_of_row _ _ _ _ _ _ blk7];rfl
   have l2:(w6.setCell ⟨w.heap.size+2,9,none⟩ (Value.slice a6 (lsH h 4).length q6)).cell? ⟨w.heap.size+2,2,none⟩=some (Value.int IntKind.i64 h.to):=by rw[cell_of_row _ _ _ _ _ _ blk7];rfl
   have l3:(w6.setCell ⟨w.heap.size+2,9,none⟩ (Value.slice a6 (lsH h 4).length q6)).cell? ⟨w.heap.size+2,3,none⟩=some (Value.bool h.cycle):=by rw[cell_of_row _ _ _ _ _ _ blk7];rfl
   have l4:(w6.setCell ⟨w.heap.size+2,9,none⟩ (Value.slice a6 (lsH h 4).length q6)).cell? ⟨w.heap.size+2,4,none⟩=some (Value.int IntKind.i64 h.scan):=by rw[cell_of_row _ _ _ _ _ _ blk7];rfl
   have l5:(w6.setCell ⟨w.heap.size+2,9,none⟩ (Value.slice a6 (lsH h 4).length q6)).cell? ⟨w.heap.size+2,5,none⟩=some (Value.slice a0' (lsH h 0).length q0'):=by rw[cell_of_row _ _ _ _ _ _ blk7];rfl
   have l6:(w6.setCell ⟨w.heap.size+2,9,none⟩ (Value.slice a6 (lsH h 4).length q6)).cell? ⟨w.heap.size+2,6,none⟩=some (Value.slice a1' (lsH h 1).length q1'):=by rw[cell_of_row _ _ _ _ _ _ blk7];rfl
   have l7:(w6.setCell ⟨w.heap.size+2,9,none⟩ (Value.slice a6 (lsH h 4).length q6)).cell? ⟨w.heap.size+2,7,none⟩=some (Value.slice a2' (lsH h 2).length q2'):=by rw[cell_of_row _ _ _ _ _ _ blk7];rfl
   have l8:(w6.setCell ⟨w.heap.size+2,9,none⟩ (Value.slice a6 (lsH h 4).length q6)).cell? ⟨w.heap.size+2,8,none⟩=some (Value.slice a3' (lsH h 3).length q3'):=by rw[cell_of_row _ _ _ _ _ _ blk7];rfl
   have l9:(w6.setCell ⟨w.heap.size+2,9,none⟩ (Value.slice a6 (lsH h 4).length q6)).cell? ⟨w.heap.size+2,9,none⟩=some (Value.slice a6 (lsH h 4).length q6):=by rw[cell_of_row _ _ _ _ _ _ blk7];rfl
   have m0:(w6.setCell ⟨w.heap.size+2,9,none⟩ (Value.slice a6 (lsH h 4).length q6)).cell? ⟨w.heap.size+1,0,none⟩=some (Value.int IntKind.u64 0):=by rw[cell_of_row _ _ _ _ _ _ b71];rfl
   have r0:(w6.setCell ⟨w.heap.size+2,9,none⟩ (Value.slice a6 (lsH h 4).length q6)).frozen? ⟨w.heap.size+1,0,none⟩=false:=frz_of b71
   have m1:(w6.setCell ⟨w.heap.size+2,9,none⟩ (Value.slice a6 (lsH h 4).length q6)).cell? ⟨w.heap.size+1,1,none⟩=some (Value.int IntKind.i64 0):=by rw[cell_of_row _ _ _ _ _ _ b71];rfl
   have r1:(w6.setCell ⟨w.heap.size+2,9,none⟩ (Value.slice a6 (lsH h 4).length q6)).frozen? ⟨w.heap.size+1,1,none⟩=false:=frz_of b71
   have m2:(w6.setCell ⟨w.heap.size+2,9,none⟩ (Value.slice a6 (lsH h 4).length q6)).cell? ⟨w.heap.size+1,2,none⟩=some (Value.int IntKind.i64 0):=by rw[cell_of_row _ _ _ _ _ _ b71];rfl
   have r2:(w6.setCell ⟨w.heap.size+2,9,none⟩ (Value.slice a6 (lsH h 4).length q6)).frozen? ⟨w.heap.size+1,2,none⟩=false:=frz_of b71
   have m3:(w6.setCell ⟨w.heap.size+2,9,none⟩ (Value.slice a6 (lsH h 4).length q6)).cell? ⟨w.heap.size+1,3,none⟩=some (Value.bool false):=by rw[cell_of_row _ _ _ _ _ _ b71];rfl
   have r3:(w6.setCell ⟨w.heap.size+2,9,none⟩ (Value.slice a6 (lsH h 4).length q6)).frozen? ⟨w.heap.size+1,3,none⟩=false:=frz_of b71
   have m4:(w6.setCell ⟨w.heap.size+2,9,none⟩ (Value.slice a6 (lsH h 4).length q6)).cell? ⟨w.heap.size+1,4,none⟩=some (Value.int IntKind.i64 0):=by rw[cell_of_row _ _ _ _ _ _ b71];rfl
   have r4:(w6.setCell ⟨w.heap.size+2,9,none⟩ (Value.slice a6 (lsH h 4).length q6)).frozen? ⟨w.heap.size+1,4,none⟩=false:=frz_of b71
   have m5:(w6.setCell ⟨w.heap.size+2,9,none⟩ (Value.slice a6 (lsH h 4).length q6)).cell? ⟨w.heap.size+1,5,none⟩=some (Value.slice none 0 0):=by rw[cell_of_row _ _ _ _ _ _ b71];rfl
   have r5:(w6.setCell ⟨w.heap.size+2,9,none⟩ (Value.slice a6 (lsH h 4).length q6)).frozen? ⟨w.heap.size+1,5,none⟩=false:=frz_of b71
   have m6:(w6.setCell ⟨w.heap.size+2,9,none⟩ (Value.slice a6 (lsH h 4).length q6)).cell? ⟨w.heap.size+1,6,none⟩=some (Value.slice none 0 0):=by rw[cell_of_row _ _ _ _ _ _ b71];rfl
   have r6:(w6.setCell ⟨w.heap.size+2,9,none⟩ (Value.slice a6 (lsH h 4).length q6)).frozen? ⟨w.heap.size+1,6,none⟩=false:=frz_of b71
   have m7:(w6.setCell ⟨w.heap.size+2,9,none⟩ (Value.slice a6 (lsH h 4).length q6)).cell? ⟨w.heap.size+1,7,none⟩=some (Value.slice none 0 0):=by rw[cell_of_row _ _ _ _ _ _ b71];rfl
   have r7:(w6.setCell ⟨w.heap.size+2,9,none⟩ (Value.slice a6 (lsH h 4).length q6)).frozen? ⟨w.heap.size+1,7,none⟩=false:=frz_of b71
   have m8:(w6.setCell ⟨w.heap.size+2,9,none⟩ (Value.slice a6 (lsH h 4).length q6)).cell? ⟨w.heap.size+1,8,none⟩=some (Value.slice none 0 0):=by rw[cell_of_row _ _ _ _ _ _ b71];rfl
   have r8:(w6.setCell ⟨w.heap.size+2,9,none⟩ (Value.slice a6 (lsH h 4).length q6)).frozen? ⟨w.heap.size+1,8,none⟩=false:=frz_of b71
   have m9:(w6.setCell ⟨w.heap.size+2,9,none⟩ (Value.slice a6 (lsH h 4).length q6)).cell? ⟨w.heap.size+1,9,none⟩=some (Value.slice none 0 0):=by rw[cell_of_row _ _ _ _ _ _ b71];rfl
   have r9:(w6.setCell ⟨w.heap.size+2,9,none⟩ (Value.slice a6 (lsH h 4).length q6)).frozen? ⟨w.heap.size+1,9,none⟩=false:=frz_of b71
   have bF:(((((((((((w6.setCell ⟨w.heap.size+2,9,none⟩ (Value.slice a6 (lsH h 4).length q6)).setCell ⟨w.heap.size+1,0,none⟩ (Value.int IntKind.u64 h.base)).setCell ⟨w.heap.size+1,1,none⟩ (Value.int IntKind.i64 h.cap)).setCell ⟨w.heap.size+1,2,none⟩ (Value.int IntKind.i64 h.to)).setCell ⟨w.heap.size+1,3,none⟩ (Value.bool h.cycle)).setCell ⟨w.heap.size+1,4,none⟩ (Value.int IntKind.i64 h.scan)).setCell ⟨w.heap.size+1,5,none⟩ (Value.slice a0' (lsH h 0).length q0')).setCell ⟨w.heap.size+1,6,none⟩ (Value.slice a1' (lsH h 1).length q1')).setCell ⟨w.heap.size+1,7,none⟩ (Value.slice a2' (lsH h 2).length q2')).setCell ⟨w.heap.size+1,8,none⟩ (Value.slice a3' (lsH h 3).length q3')).setCell ⟨w.heap.size+1,9,none⟩ (Value.slice a6 (lsH h 4).length q6)).heap[w.heap.size+1]? =some (.cells #[Value.int IntKind.u64 h.base,Value.int IntKind.i64 h.cap,Value.int IntKind.i64 h.to,Value.bool h.cycle,Value.int IntKind.i64 h.scan,Value.slice a0' (lsH h 0).length q0',Value.slice a1' (lsH h 1).length q1',Value.slice a2' (lsH h 2).length q2',Value.slice a3' (lsH h 3).length q3',Value.slice a6 (lsH h 4).length q6] 31 (0,0)):=by
    simp[World.setCell,Array.getElem?_modify,b61]
   have z0:(((((((((((w6.setCell ⟨w.heap.size+2,9,none⟩ (Value.slice a6 (lsH h 4).length q6)).setCell ⟨w.heap.size+1,0,none⟩ (Value.int IntKind.u64 h.base)).setCell ⟨w.heap.size+1,1,none⟩ (Value.int IntKind.i64 h.cap)).setCell ⟨w.heap.size+1,2,none⟩ (Value.int IntKind.i64 h.to)).setCell ⟨w.heap.size+1,3,none⟩ (Value.bool h.cycle)).setCell ⟨w.heap.size+1,4,none⟩ (Value.int IntKind.i64 h.scan)).setCell ⟨w.heap.size+1,5,none⟩ (Value.slice a0' (lsH h 0).length q0')).setCell ⟨w.heap.size+1,6,none⟩ (Value.slice a1' (lsH h 1).length q1')).setCell ⟨w.heap.size+1,7,none⟩ (Value.slice a2' (lsH h 2).length q2')).setCell ⟨w.heap.size+1,8,none⟩ (Value.slice a3' (lsH h 3).length q3')).setCell ⟨w.heap.size+1,9,none⟩ (Value.slice a6 (lsH h 4).length q6)).cell? ⟨w.heap.size+1,0,none⟩=some (Value.int IntKind.u64 h.base):=by rw[cell_of_row _ _ _ _ _ _ bF];rfl
   have z1:(((((((((((w6.setCell ⟨w.heap.size+2,9,none⟩ (Value.slice a6 (lsH h 4).length q6)).setCell ⟨w.heap.size+1,0,none⟩ (Value.int IntKind.u64 h.base)).setCell ⟨w.heap.size+1,1,none⟩ (Value.int IntKind.i64 h.cap)).setCell ⟨w.heap.size+1,2,none⟩ (Value.int IntKind.i64 h.to)).setCell ⟨w.heap.size+1,3,none⟩ (Value.bool h.cycle)).setCell ⟨w.heap.size+1,4,none⟩ (Value.int IntKind.i64 h.scan)).setCell ⟨w.heap.size+1,5,none⟩ (Value.slice a0' (lsH h 0).length q0')).setCell ⟨w.heap.size+1,6,none⟩ (Value.slice a1' (lsH h 1).length q1')).setCell ⟨w.heap.size+1,7,none⟩ (Value.slice a2' (lsH h 2).length q2')).setCell ⟨w.heap.size+1,8,none⟩ (Value.slice a3' (lsH h 3).length q3')).setCell ⟨w.heap.size+1,9,none⟩ (Value.slice a6 (lsH h 4).length q6)).cell? ⟨w.heap.size+1,1,none⟩=some (Value.int IntKind.i64 h.cap):=by rw[cell_of_row _ _ _ _ _ _ bF];rfl
   have z2:(((((((((((w6.setCell ⟨w.heap.size+2,9,none⟩ (Value.slice a6 (lsH h 4).length q6)).setCell ⟨w.heap.size+1,0,none⟩ (Value.int IntKind.u64 h.base)).setCell ⟨w.heap.size+1,1,none⟩ (Value.int IntKind.i64 h.cap)).setCell ⟨w.heap.size+1,2,none⟩ (Value.int IntKind.i64 h.to)).setCell ⟨w.heap.size+1,3,none⟩ (Value.bool h.cycle)).setCell ⟨w.heap.size+1,4,none⟩ (Value.int IntKind.i64 h.scan)).setCell ⟨w.heap.size+1,5,none⟩ (Value.slice a0' (lsH h 0).length q0')).setCell ⟨w.heap.size+1,6,none⟩ (Value.slice a1' (lsH h 1).length q1')).setCell ⟨w.heap.size+1,7,none⟩ (Value.slice a2' (lsH h 2).length q2')).setCell ⟨w.heap.size+1,8,none⟩ (Value.slice a3' (lsH h 3).length q3')).setCell ⟨w.heap.size+1,9,none⟩ (Value.slice a6 (lsH h 4).length q6)).cell? ⟨w.heap.size+1,2,none⟩=some (Value.int IntKind.i64 h.to):=by rw[cell_of_row _ _ _ _ _ _ bF];rfl
   have z3:(((((((((((w6.setCell ⟨w.heap.size+2,9,none⟩ (Value.slice a6 (lsH h 4).length q6)).setCell ⟨w.heap.size+1,0,none⟩ (Value.int IntKind.u64 h.base)).setCell ⟨w.heap.size+1,1,none⟩ (Value.int IntKind.i64 h.cap)).setCell ⟨w.heap.size+1,2,none⟩ (Value.int IntKind.i64 h.to)).setCell ⟨w.heap.size+1,3,none⟩ (Value.bool h.cycle)).setCell ⟨w.heap.size+1,4,none⟩ (Value.int IntKind.i64 h.scan)).setCell ⟨w.heap.size+1,5,none⟩ (Value.slice a0' (lsH h 0).length q0')).setCell ⟨w.heap.size+1,6,none⟩ (Value.slice a1' (lsH h 1).length q1')).setCell ⟨w.heap.size+1,7,none⟩ (Value.slice a2' (lsH h 2).length q2')).setCell ⟨w.heap.size+1,8,none⟩ (Value.slice a3' (lsH h 3).length q3')).setCell ⟨w.heap.size+1,9,none⟩ (Value.slice a6 (lsH h 4).length q6)).cell? ⟨w.heap.size+1,3,none⟩=some (Value.bool h.cycle):=by rw[cell_of_row _ _ _ _ _ _ bF];rfl
   have z4:(((((((((((w6.setCell ⟨w.heap.size+2,9,none⟩ (Value.slice a6 (lsH h 4).length q6)).setCell ⟨w.heap.size+1,0,none⟩ (Value.int IntKind.u64 h.base)).setCell ⟨w.heap.size+1,1,none⟩ (Value.int IntKind.i64 h.cap)).setCell ⟨w.heap.size+1,2,none⟩ (Value.int IntKind.i64 h.to)).setCell ⟨w.heap.size+1,3,none⟩ (Value.bool h.cycle)).setCell ⟨w.heap.size+1,4,none⟩ (Value.int IntKind.i64 h.scan)).setCell ⟨w.heap.size+1,5,none⟩ (Value.slice a0' (lsH h 0).length q0')).setCell ⟨w.heap.size+1,6,none⟩ (Value.slice a1' (lsH h 1).length q1')).setCell ⟨w.heap.size+1,7,none⟩ (Value.slice a2' (lsH h 2).length q2')).setCell ⟨w.heap.size+1,8,none⟩ (Value.slice a3' (lsH h 3).length q3')).setCell ⟨w.heap.size+1,9,none⟩ (Value.slice a6 (lsH h 4).length q6)).cell? ⟨w.heap.size+1,4,none⟩=some (Value.int IntKind.i64 h.scan):=by rw[cell_of_row _ _ _ _ _ _ bF];rfl
   have z5:(((((((((((w6.setCell ⟨w.heap.size+2,9,none⟩ (Value.slice a6 (lsH h 4).length q6)).setCell ⟨w.heap.size+1,0,none⟩ (Value.int IntKind.u64 h.base)).setCell ⟨w.heap.size+1,1,none⟩ (Value.int IntKind.i64 h.cap)).setCell ⟨w.heap.size+1,2,none⟩ (Value.int IntKind.i64 h.to)).setCell ⟨w.heap.size+1,3,none⟩ (Value.bool h.cycle)).setCell ⟨w.heap.size+1,4,none⟩ (Value.int IntKind.i64 h.scan)).setCell ⟨w.heap.size+1,5,none⟩ (Value.slice a0' (lsH h 0).length q0')).setCell ⟨w.heap.size+1,6,none⟩ (Value.slice a1' (lsH h 1).length q1')).setCell ⟨w.heap.size+1,7,none⟩ (Value.slice a2' (lsH h 2).length q2')).setCell ⟨w.heap.size+1,8,none⟩ (Value.slice a3' (lsH h 3).length q3')).setCell ⟨w.heap.size+1,9,none⟩ (Value.slice a6 (lsH h 4).length q6)).cell? ⟨w.heap.size+1,5,none⟩=some (Value.slice a0' (lsH h 0).length q0'):=by rw[cell_of_row _ _ _ _ _ _ bF];rfl
   have z6:(((((((((((w6.setCell ⟨w.heap.size+2,9,none⟩ (Value.slice a6 (lsH h 4).length q6)).setCell ⟨w.heap.size+1,0,none⟩ (Value.int IntKind.u64 h.base)).setCell ⟨w.heap.size+1,1,none⟩ (Value.int IntKind.i64 h.cap)).setCell ⟨w.heap.size+1,2,none⟩ (Value.int IntKind.i64 h.to)).setCell ⟨w.heap.size+1,3,none⟩ (Value.bool h.cycle)).setCell ⟨w.heap.size+1,4,none⟩ (Value.int IntKind.i64 h.scan)).setCell ⟨w.heap.size+1,5,none⟩ (Value.slice a0' (lsH h 0).length q0')).setCell ⟨w.heap.size+1,6,none⟩ (Value.slice a1' (lsH h 1).length q1')).setCell ⟨w.heap.size+1,7,none⟩ (Value.slice a2' (lsH h 2).length q2')).setCell ⟨w.heap.size+1,8,none⟩ (Value.slice a3' (lsH h 3).length q3')).setCell ⟨w.heap.size+1,9,none⟩ (Value.slice a6 (lsH h 4).length q6)).cell? ⟨w.heap.size+1,6,none⟩=some (Value.slice a1' (lsH h 1).length q1'):=by rw[cell_of_row _ _ _ _ _ _ bF];rfl
   have z7:(((((((((((w6.setCell ⟨w.heap.size+2,9,none⟩ (Value.slice a6 (lsH h 4).length q6)).setCell ⟨w.heap.size+1,0,none⟩ (Value.int IntKind.u64 h.base)).setCell ⟨w.heap.size+1,1,none⟩ (Value.int IntKind.i64 h.cap)).setCell ⟨w.heap.size+1,2,none⟩ (Value.int IntKind.i64 h.to)).setCell ⟨w.heap.size+1,3,none⟩ (Value.bool h.cycle)).setCell ⟨w.heap.size+1,4,none⟩ (Value.int IntKind.i64 h.scan)).setCell ⟨w.heap.size+1,5,none⟩ (Value.slice a0' (lsH h 0).length q0')).setCell ⟨w.heap.size+1,6,none⟩ (Value.slice a1' (lsH h 1).length q1')).setCell ⟨w.heap.size+1,7,none⟩ (Value.slice a2' (lsH h 2).length q2')).setCell ⟨w.heap.size+1,8,none⟩ (Value.slice a3' (lsH h 3).length q3')).setCell ⟨w.heap.size+1,9,none⟩ (Value.slice a6 (lsH h 4).length q6)).cell? ⟨w.heap.size+1,7,none⟩=some (Value.slice a2' (lsH h 2).length q2'):=by rw[cell_of_row _ _ _ _ _ _ bF];rfl
   have z8:(((((((((((w6.setCell ⟨w.heap.size+2,9,none⟩ (Value.slice a6 (lsH h 4).length q6)).setCell ⟨w.heap.size+1,0,none⟩ (Value.int IntKind.u64 h.base)).setCell ⟨w.heap.size+1,1,none⟩ (Value.int IntKind.i64 h.cap)).setCell ⟨w.heap.size+1,2,none⟩ (Value.int IntKind.i64 h.to)).setCell ⟨w.heap.size+1,3,none⟩ (Value.bool h.cycle)).setCell ⟨w.heap.size+1,4,none⟩ (Value.int IntKind.i64 h.scan)).setCell ⟨w.heap.size+1,5,none⟩ (Value.slice a0' (lsH h 0).length q0')).setCell ⟨w.heap.size+1,6,none⟩ (Value.slice a1' (lsH h 1).length q1')).setCell ⟨w.heap.size+1,7,none⟩ (Value.slice a2' (lsH h 2).length q2')).setCell ⟨w.heap.size+1,8,none⟩ (Value.slice a3' (lsH h 3).length q3')).setCell ⟨w.heap.size+1,9,none⟩ (Value.slice a6 (lsH h 4).length q6)).cell? ⟨w.heap.size+1,8,none⟩=some (Value.slice a3' (lsH h 3).length q3'):=by rw[cell_of_row _ _ _ _ _ _ bF];rfl
   have z9:(((((((((((w6.setCell ⟨w.heap.size+2,9,none⟩ (Value.slice a6 (lsH h 4).length q6)).setCell ⟨w.heap.size+1,0,none⟩ (Value.int IntKind.u64 h.base)).setCell ⟨w.heap.size+1,1,none⟩ (Value.int IntKind.i64 h.cap)).setCell ⟨w.heap.size+1,2,none⟩ (Value.int IntKind.i64 h.to)).setCell ⟨w.heap.size+1,3,none⟩ (Value.bool h.cycle)).setCell ⟨w.heap.size+1,4,none⟩ (Value.int IntKind.i64 h.scan)).setCell ⟨w.heap.size+1,5,none⟩ (Value.slice a0' (lsH h 0).length q0')).setCell ⟨w.heap.size+1,6,none⟩ (Value.slice a1' (lsH h 1).length q1')).setCell ⟨w.heap.size+1,7,none⟩ (Value.slice a2' (lsH h 2).length q2')).setCell ⟨w.heap.size+1,8,none⟩ (Value.slice a3' (lsH h 3).length q3')).setCell ⟨w.heap.size+1,9,none⟩ (Value.slice a6 (lsH h 4).length q6)).cell? ⟨w.heap.size+1,9,none⟩=some (Value.slice a6 (lsH h 4).length q6):=by rw[cell_of_row _ _ _ _ _ _ bF];rfl
   have hkp: ∀c,c≠w.heap.size+1→c≠w.heap.size+2→(((((((((((w6.setCell ⟨w.heap.size+2,9,none⟩ (Value.slice a6 (lsH h 4).length q6)).setCell ⟨w.heap.size+1,0,none⟩ (Value.int IntKind.u64 h.base)).setCell ⟨w.heap.size+1,1,none⟩ (Value.int IntKind.i64 h.cap)).setCell ⟨w.heap.size+1,2,none⟩ (Value.int IntKind.i64 h.to)).setCell ⟨w.heap.size+1,3,none⟩ (Value.bool h.cycle)).setCell ⟨w.heap.size+1,4,none⟩ (Value.int IntKind.i64 h.scan)).setCell ⟨w.heap.size+1,5,none⟩ (Value.slice a0' (lsH h 0).length q0')).setCell ⟨w.heap.size+1,6,none⟩ (Value.slice a1' (lsH h 1).length q1')).setCell ⟨w.heap.size+1,7,none⟩ (Value.slice a2' (lsH h 2).length q2')).setCell ⟨w.heap.size+1,8,none⟩ (Value.slice a3' (lsH h 3).length q3')).setCell ⟨w.heap.size+1,9,none⟩ (Value.slice a6 (lsH h 4).length q6)).heap[c]? =w6.heap[c]? :=fun c h1 h2=>by
    simp[World.setCell,Array.getElem?_modify,h1,h2,Ne.symm h1,Ne.symm h2]
   have hbF:Below w.heap.size w (((((((((((w6.setCell ⟨w.heap.size+2,9,none⟩ (Value.slice a6 (lsH h 4).length q6)).setCell ⟨w.heap.size+1,0,none⟩ (Value.int IntKind.u64 h.base)).setCell ⟨w.heap.size+1,1,none⟩ (Value.int IntKind.i64 h.cap)).setCell ⟨w.heap.size+1,2,none⟩ (Value.int IntKind.i64 h.to)).setCell ⟨w.heap.size+1,3,none⟩ (Value.bool h.cycle)).setCell ⟨w.heap.size+1,4,none⟩ (Value.int IntKind.i64 h.scan)).setCell ⟨w.heap.size+1,5,none⟩ (Value.slice a0' (lsH h 0).length q0')).setCell ⟨w.heap.size+1,6,none⟩ (Value.slice a1' (lsH h 1).length q1')).setCell ⟨w.heap.size+1,7,none⟩ (Value.slice a2' (lsH h 2).length q2')).setCell ⟨w.heap.size+1,8,none⟩ (Value.slice a3' (lsH h 3).length q3')).setCell ⟨w.heap.size+1,9,none⟩ (Value.slice a6 (lsH h 4).length q6)):=by
    refine Below.setCell (Below.setCell (Below.setCell (Below.setCell (Below.setCell (Below.setCell (Below.setCell (Below.setCell (Below.setCell (Below.setCell (Below.setCell (HI.out.below.grown hgrow hs0 (by simp)) (by simp) _) (by simp) _) (by simp) _) (by simp) _) (by simp) _) (by simp) _) (by simp) _) (by simp) _) (by simp) _) (by simp) _) (by simp) _
   have hnew: ∀c,(Value.slice a6 (lsH h 4).length q6).ownBlock=some c→wr.heap.size≤c:=by
    intro c hc
    rcases hat6 with e| ⟨_,e⟩
    ·rw[e]at hc;cases hc
    ·exact(e.lt c hc).1
   have hF:HOwn w.heap.size (((((((((((w6.setCell ⟨w.heap.size+2,9,none⟩ (Value.slice a6 (lsH h 4).length q6)).setCell ⟨w.heap.size+1,0,none⟩ (Value.int IntKind.u64 h.base)).setCell ⟨w.heap.size+1,1,none⟩ (Value.int IntKind.i64 h.cap)).setCell ⟨w.heap.size+1,2,none⟩ (Value.int IntKind.i64 h.to)).setCell ⟨w.heap.size+1,3,none⟩ (Value.bool h.cycle)).setCell ⟨w.heap.size+1,4,none⟩ (Value.int IntKind.i64 h.scan)).setCell ⟨w.heap.size+1,5,none⟩ (Value.slice a0' (lsH h 0).length q0')).setCell ⟨w.heap.size+1,6,none⟩ (Value.slice a1' (lsH h 1).length q1')).setCell ⟨w.heap.size+1,7,none⟩ (Value.slice a2' (lsH h 2).length q2')).setCell ⟨w.heap.size+1,8,none⟩ (Value.slice a3' (lsH h 3).length q3')).setCell ⟨w.heap.size+1,9,none⟩ (Value.slice a6 (lsH h 4).length q6)) h (fun j=>if j=4 then Value.slice a6 (lsH h 4).length q6 else xs j):=by
    refine⟨fun j hj=> ?_,fun i j hij hj c hc=> ?_⟩
    ·by_cases h4:j=4
     ·subst h4
      rw[if_pos rfl]
      exact owns_block hown6 fun c hc=>hkp c (by have:=hnew c hc;omega) (by have:=hnew c hc;omega)
     ·rw[if_neg h4]
      have ho:=HI.out.own j (by omega)
      exact owns_block ho fun c hc=>by
       have h1:=HI.out.newer j (by omega) c hc
       have h2:=(ho.lt c hc).2
       rw[hkp c (by omega) (by omega),hgrow.block c h2 (by simp)]
    ·rw[if_neg (by omega)]at hc
     by_cases h4:j=4
     ·subst h4
      rw[if_pos rfl]
      intro e
      have h1:=hnew c e
      have h2:=((HI.out.own i (by omega)).lt c hc).2
      omega
     ·rw[if_neg h4]
      exact HI.out.apart i j hij (by omega) c hc
   clear hkp hnew bF
   go_wp2
   refine bodyPost_ret (v:= .agg #[Value.int IntKind.u64 h.base,Value.int IntKind.i64 h.cap,Value.int IntKind.i64 h.to,Value.bool h.cycle,Value.int IntKind.i64 h.scan,Value.slice a0' (lsH h 0).length q0',Value.slice a1' (lsH h 1).length q1',Value.slice a2' (lsH h 2).length q2',Value.slice a3' (lsH h 3).length q3',Value.slice a6 (lsH h 4).length q6]) (by simp[results,Try.results56,go_sem,z0,z1,z2,z3,z4,z5,z6,z7,z8,z9]) rfl ⟨_,?_,hbF,hF⟩
   unfold hpA
   simp[e0,e1,e2,e3]
end Vm
end
section
namespace Vm
open Go Go.Proofs Go.RowKit
set_option maxHeartbeats 2000000
set_option maxRecDepth 100000
end Vm
end
section
namespace Vm
open Go Go.Proofs Go.RowKit
set_option maxHeartbeats 2000000
set_option maxRecDepth 100000
def conc1:V→Value
 | .int k n=> .int k n
 | .bool b=> .bool b
 |_=>undef
def flat1:V→Bool
 | .int _ _=>true
 | .bool _=>true
 |_=>false
def conc2:V→Value
 | .agg cs=> .agg (cs.map conc1).toArray
 |x=>conc1 x
def flat2:V→Bool
 | .agg cs=>cs.all flat1
 |x=>flat1 x
def conc3:V→Value
 | .tup l=> .tuple (l.map conc2).toArray
 |x=>conc2 x
def flat3:V→Bool
 | .tup l=>l.all flat2
 |x=>flat2 x
variable {w:World} {G:Nat→Prop}
theorem rd_conc1{x:V}(h:flat1 x=true):Rd w G x (conc1 x):=by
 cases x<;>simp[flat1]at h
 ·exact .int _ _
 ·exact .bool _
theorem rd_conc2{x:V}(h:flat2 x=true):Rd w G x (conc2 x):=by
 cases x with
 |agg cs=>
  simp only[flat2,List.all_eq_true]at h
  refine .agg _ _ (by simp) (fun c hc=> ?_) fun i c hc=> ?_
  ·have:=h c hc
   cases c<;>simp[flat1]at this<;>rfl
  ·have h1:=rd_conc1 (w:=w) (G:=G) (h c (List.mem_of_getElem? hc))
   have:((cs.map conc1).toArray).getD i undef=conc1 c:=by
    obtain⟨hi,rfl⟩:=List.getElem?_eq_some_iff.1 hc
    simp[Array.getD,hi]
   rw[this]
   exact h1
 |int k n=>exact .int _ _
 |bool b=>exact .bool _
 |_=>simp[flat2,flat1]at h
theorem conc1_of{x:V}{v:Value}(h:flat1 x=true)(r:Rd w G x v):v=conc1 x:=by
 cases x<;>simp[flat1]at h
 ·cases r;rfl
 ·cases r;rfl
theorem conc2_of{x:V}{v:Value}(h:flat2 x=true)(r:Rd w G x v):v=conc2 x:=by
 cases x with
 |agg cs=>
  simp only[flat2,List.all_eq_true]at h
  cases r with
  |agg _ vs hl _ hr=>
   simp only[conc2,Value.agg.injEq]
   apply Array.ext
   ·simpa using hl
   ·intro i h1 h2
    have hi:i<cs.length:=by omega
    have hc:cs[i]? =some cs[i]:=List.getElem?_eq_getElem hi
    have:=conc1_of (h _ (List.getElem_mem hi)) (hr i _ hc)
    simp[Array.getD,h1]at this
    simpa using this
 |int k n=>cases r;rfl
 |bool b=>cases r;rfl
 |_=>simp[flat2,flat1]at h
theorem conc3_of{x:V}{v:Value}(h:flat3 x=true)(r:Rd w G x v):v=conc3 x:=by
 cases x with
 |tup cs=>
  simp only[flat3,List.all_eq_true]at h
  cases r with
  |tup _ vs hl hr=>
   simp only[conc3,Value.tuple.injEq]
   apply Array.ext
   ·simpa using hl
   ·intro i h1 h2
    have hi:i<cs.length:=by omega
    have hc:cs[i]? =some cs[i]:=List.getElem?_eq_getElem hi
    have:=conc2_of (h _ (List.getElem_mem hi)) (hr i _ hc)
    simp[Array.getD,h1]at this
    simpa using this
 |agg cs=>exact conc2_of (x:= .agg cs) h r
 |int k n=>cases r;rfl
 |bool b=>cases r;rfl
 |_=>simp[flat3,flat2,flat1]at h
theorem calls_flat{P:Program}{f:FuncId}{fr:Bool}{args:List V}{r:V}(h:VC P f fr args r)(ha:args.all flat2=true)(hr:flat3 r=true)(w:World):
  Calls P f (args.map conc2).toArray w fun e w'=>e= .returned (conc3 r)∧Below w.heap.size w w':=by
 simp only[List.all_eq_true]at ha
 refine Calls.mono (h.2 w (fun _=>False) _ (by simp) (by simp) ?_) ?_
 ·intro i x hx
  obtain⟨hi,rfl⟩:=List.getElem?_eq_some_iff.1 hx
  have:((args.map conc2).toArray).getD i undef=conc2 args[i]:=by simp[Array.getD,hi]
  rw[this]
  exact rd_conc2 (ha _ (List.getElem_mem hi))
 ·rintro e w' ⟨v,rfl,hb,hv⟩
  exact⟨by rw[conc3_of hr hv],hb⟩
def lyA(l:Ly):Value:= .agg #[.int .u64 l.base,.int .i64 l.cap,.int .i64 l.to,.int .i64 l.low,.int .i64 l.high,.int .i64 l.old,.int .i64 l.far]
theorem adr_calls{x:Int}(hx:U64 x)(w:World):Calls Try.prog 57 #[.int .u64 x] w fun e w'=>e= .returned (.tuple #[.int .u64 (adr x).1,.int .i64 (adr x).2])∧Below w.heap.size w w':=
 calls_flat (adr_vc hx) rfl rfl w
theorem unpk_calls{x:Int}(hx:U64 x)(w:World):Calls Try.prog 60 #[.int .u64 x] w fun e w'=>e= .returned (.tuple #[.agg #[.int .i64 (unpk x).1,.int .i64 (unpk x).2.1],.int .i64 (unpk x).2.2])∧Below w.heap.size w w':=
 calls_flat (unpk_vc hx) rfl rfl w
theorem Layout_calls{h:Hp}{x:Nat→Value}(hG: ∀b,G b→b<w.heap.size)(hr: ∀j,j<5→Rd w G (.sl ((lsH h j).map vu)) (x j)):
  Calls Try.prog 54 #[hpA h x] w fun e w'=>e= .returned (lyA (layH h))∧Below w.heap.size w w':=by
 refine Calls.mono ((Layout_vc (h:=h)).2 w G _ hG rfl ?_) ?_
 ·intro i y hy
  match i,hy with
  |0,hy=>
   cases hy
   refine .agg _ _ rfl (by simp[V.one]) ?_
   intro i y hy
   match i,hy with
   |0,hy=>cases hy;exact .int _ _
   |1,hy=>cases hy;exact .int _ _
   |2,hy=>cases hy;exact .int _ _
   |3,hy=>cases hy;exact .bool _
   |4,hy=>cases hy;exact .int _ _
   |5,hy=>cases hy;exact hr 0 (by omega)
   |6,hy=>cases hy;exact hr 1 (by omega)
   |7,hy=>cases hy;exact hr 2 (by omega)
   |8,hy=>cases hy;exact hr 3 (by omega)
   |9,hy=>cases hy;exact hr 4 (by omega)
 ·rintro e w' ⟨v,rfl,hb,hv⟩
  exact⟨by rw[conc3_of (by rfl) hv];rfl,hb⟩
end Vm
end
section
namespace Vm
open Go Go.Proofs Go.RowKit
set_option maxHeartbeats 1000000
set_option maxRecDepth 100000
theorem pointer_vc{x:Int}(hx:U64 x):VC Try.prog 132 false [vu x] (.bool (isPtr x)):=by
 refine vc_of_wp Try.func132 follows (by kernel_rfl) c132 rfl ?_
 simp[p132]
 refine callW_of (adr_vc hx) (by simp) ?_
 by_cases h:x=0<;>simp[isPtr,h]
theorem pointer_calls{x:Int}(hx:U64 x)(w:World):Calls Try.prog 132 #[.int .u64 x] w fun e w'=>e= .returned (.bool (isPtr x))∧Below w.heap.size w w':=
 calls_flat (pointer_vc hx) rfl rfl w
structure Words (w:World) (ws:List Int) (g o cap:Nat):Prop where
 at_: ∀(i:Nat) (x:Int),ws[i]? =some x→w.cell? ⟨g,o+i,none⟩=some (.int .u64 x)
 le:ws.length≤cap
 cap:cap≤maxLen
 len:ws.length≤1000000
 u64: ∀x∈ws,U64 x
def wrongA(e:Int):List PanicEntry:= [{v:= .iface 176 (.agg #[.int .i64 e]),recovered:=false}]
def obA(o:Ob):Value:= .agg #[.int .i64 o.at_,.int .i64 o.size,.int .i64 o.ptrs,.bool o.gone,.int .u64 o.target]
def holdE(ws:List Int)(o:Ob):Ending:=
 if(ws.length:Int) <o.at_+1+o.size then .panicked (wrongA 2)else if slotsOk ((ws.drop (o.at_.toNat+1)).take o.size.toNat) o.gone o.ptrs 0=false then .panicked (wrongA 3)else .returned (.tuple #[])
theorem hold_walk(w:World)(ws:List Int)(g o cap:Nat)(hw:Words w ws g o cap)(hg:g<w.heap.size)(ob:Ob)(a:Nat)(ha:ob.at_=a)(hlt:a<ws.length)(hsh:shapeOk ob.size ob.ptrs=true):
  Calls Try.prog 131 #[.slice (some ⟨g,o,none⟩) ws.length cap,obA ob] w fun e w'=>e=holdE ws ob∧Below w.heap.size w w':=by
 have hl:=hw.len
 have hc:=hw.le
 have hm:=hw.cap
 obtain⟨at_,size,ptrs,gone,target⟩:=ob
 simp only at ha hsh
 subst ha
 obtain⟨s1,s2,s3,s4⟩:=shapeOk_iff.1 hsh
 obtain⟨m,rfl⟩:=Int.eq_ofNat_of_zero_le s1
 have HW:=Lib.hid hw
 have he:holdE ws ⟨a,m,ptrs,gone,target⟩=if(ws.length:Int) <a+1+m then .panicked (wrongA 2)else if slotsOk ((ws.drop (a+1)).take m) gone ptrs 0=false then .panicked (wrongA 3)else .returned (.tuple #[]):=rfl
 generalize holdE ws ⟨a,m,ptrs,gone,target⟩=E at*
 unfold obA
 dsimp only
 by_cases hfit:(ws.length:Int) <a+1+m
 ·rw[if_pos hfit]at he
  have HE:=Lib.hid he
  clear he
  have hlt2:((ws.length- (a+1):Nat):Int) <m:=by omega
  go_enter Try.func131,Try.ntmps131
  go_wp2
  all_goals exact⟨rfl,HE.out.symm,(Below.refl _ _).alloc (Nat.le_refl _) _⟩
 ·rw[if_neg hfit]at he
  have HE:=Lib.hid he
  clear he
  have hge2:(m:Int)≤((ws.length- (a+1):Nat):Int):=by omega
  have hge3:m≤ws.length- (a+1):=by omega
  have hnlt:(ws.length- (a+1) <m)=False:=eq_false (by omega)
  have hcm:m≤cap- (a+1):=by omega
  have hm5:m≤255:=by omega
  clear hw hfit
  by_cases hcap:cap=a+1
  ·have hm0:m=0:=by omega
   subst hm0
   subst hcap
   go_enter Try.func131,Try.ntmps131
   go_wp2
   go_loopw [26] (fun i wr=>i= .int .i64 0∧Hid (Below w.heap.size w wr)) (fun i _=>0)
   case atStart=>exact⟨rfl,Lib.hid ((Below.refl _ _).alloc (Nat.le_refl _) _)⟩
   case round=>
    obtain⟨rfl,HB⟩:=hrel
    go_wp2
    go_end0
    exact⟨HE.out.symm,HB.out⟩
  ·go_enter Try.func131,Try.ntmps131
   go_wp2
   go_loopw [26] (fun i wr=> ∃k:Nat,i= .int .i64 k∧k≤m∧Hid (Below w.heap.size w wr∧wr.heap[w.heap.size]? =some (.cells #[.int .i64 a,.int .i64 m,.int .i64 ptrs,.bool gone,.int .u64 target] 57 (0,0))∧
     slotsOk ((ws.drop (a+1)).take m) gone ptrs 0=slotsOk (((ws.drop (a+1)).take m).drop k) gone ptrs k)) (fun i _=>m- (intOf i).toNat)
   case atStart=>exact⟨0,rfl,by omega,Lib.hid ⟨(Below.refl _ _).alloc (Nat.le_refl _) _,heap_alloc_new w _,rfl⟩⟩
   case round=>
    obtain⟨k,rfl,hk,HI⟩:=hrel
    by_cases hlt:k<m
    ·obtain⟨x,hx⟩: ∃x,ws[a+1+k]? =some x:=⟨_,List.getElem?_eq_getElem (by omega)⟩
     have hu:U64 x:=HW.out.u64 x (List.mem_of_getElem? hx)
     have hT:((ws.drop (a+1)).take m)[k]? =some x:=by
      rw[List.getElem?_take,if_pos hlt,List.getElem?_drop];exact hx
     have c0:wr.cell? ⟨g,o+(a+1)+k,none⟩=some (.int .u64 x):=by
      rw[Nat.add_assoc]
      exact(HI.out.1.cell (p:=⟨g,o+(a+1+k),none⟩) hg).trans (HW.out.at_ _ _ hx)
     have c1:wr.cell? ⟨w.heap.size,1,none⟩=some (.int .i64 m):=by rw[cell_of_row _ _ _ _ _ _ HI.out.2.1];rfl
     have c2:wr.cell? ⟨w.heap.size,2,none⟩=some (.int .i64 ptrs):=by rw[cell_of_row _ _ _ _ _ _ HI.out.2.1];rfl
     have c3:wr.cell? ⟨w.heap.size,3,none⟩=some (.bool gone):=by rw[cell_of_row _ _ _ _ _ _ HI.out.2.1];rfl
     have hs:=slotsOk_drop (gone:=gone) (ptrs:=ptrs) hT
     have hlt':(k:Int) <m:=by omega
     have hbs:=heap_lt HI.out.2.1
     clear hx hT
     have stop:slotsOk (((ws.drop (a+1)).take m).drop k) gone ptrs k=false→E= .panicked (wrongA 3):=fun h=>by
      rw[HE.out,HI.out.2.2,h,if_pos rfl]
     cases gone
     ·by_cases hp:(k:Int) <ptrs
      ·cases hip:isPtr x
       ·have HE2:=Lib.hid (stop (by rw[hs];simp[hip,hp]))
        clear stop hs
        go_wp2_with (go_at_call 132;refine(pointer_calls hu _).mono ?_;rintro e w1 ⟨rfl,hb1⟩;have HB1:=Lib.hid hb1;clear hb1)
        exact⟨rfl,HE2.out.symm,HI.out.1.trans (HB1.out.mono HI.out.1.size)⟩
       ·have HS:=Lib.hid (hs.trans (by simp[hip]:_=slotsOk (((ws.drop (a+1)).take m).drop (k+1)) false ptrs (k+1)))
        clear stop hs
        go_wp2_with (go_at_call 132;refine(pointer_calls hu _).mono ?_;rintro e w1 ⟨rfl,hb1⟩;have HB1:=Lib.hid hb1;clear hb1)
        go_wp2
        go_roundw
        case rel=>
         exact⟨k+1,by go_num,by omega,Lib.hid ⟨HI.out.1.trans (HB1.out.mono HI.out.1.size),(HB1.out.block _ hbs).trans HI.out.2.1,HI.out.2.2.trans HS.out⟩⟩
        case measure=>simp[intOf];omega
      ·have HS:=Lib.hid (hs.trans (by simp[hp]:_=slotsOk (((ws.drop (a+1)).take m).drop (k+1)) false ptrs (k+1)))
       clear stop hs
       go_wp2
       go_roundw
       case rel=>exact⟨k+1,by go_num,by omega,Lib.hid ⟨HI.out.1,HI.out.2.1,HI.out.2.2.trans HS.out⟩⟩
       case measure=>simp[intOf];omega
     ·by_cases h0:x=0
      ·subst h0
       have HS:=Lib.hid (hs.trans (by simp[isPtr]:_=slotsOk (((ws.drop (a+1)).take m).drop (k+1)) true ptrs (k+1)))
       clear stop hs
       go_wp2
       go_roundw
       case rel=>exact⟨k+1,by go_num,by omega,Lib.hid ⟨HI.out.1,HI.out.2.1,HI.out.2.2.trans HS.out⟩⟩
       case measure=>simp[intOf];omega
      ·have HE2:=Lib.hid (stop (by rw[hs];simp[h0]))
       clear stop hs
       go_wp2
       exact⟨rfl,HE2.out.symm,HI.out.1⟩
    ·have:k=m:=by omega
     subst this
     have h3:=HI.out.2.2
     have hd:((ws.drop (a+1)).take k).drop k= []:=List.drop_of_length_le (by rw[List.length_take];omega)
     rw[hd]at h3
     have HE2:=Lib.hid (HE.out.trans (by rw[h3];rfl:_=Ending.returned (.tuple #[])))
     clear h3 hd
     go_wp2
     go_end0
     exact⟨HE2.out.symm,HI.out.1⟩
end Vm
namespace Vm
open Go Go.Proofs Go.RowKit
set_option maxHeartbeats 1000000
set_option maxRecDepth 100000
theorem neq_nil(w:World):Sem.run Try.prog (binOp .neq 177 .nilFunc .nilFunc) w= .ok (.bool false) w:=by rfl
theorem neq_fn(w:World)(f:FuncId)(vs:Array Value):Sem.run Try.prog (binOp .neq 177 (.func (.func f) #[] vs) .nilFunc) w= .ok (.bool true) w:=by rfl
theorem row5{w:World}{b:Nat}{T:TypeId}{v0 v1 v2 v3 v4:Value}(h:w.heap[b]? =some (.cells #[v0,v1,v2,v3,v4] T (0,0))) (O:Obj):
  ((w.alloc O).cell? ⟨b,0,none⟩=some v0∧(w.alloc O).cell? ⟨b,1,none⟩=some v1∧(w.alloc O).cell? ⟨b,2,none⟩=some v2∧(w.alloc O).cell? ⟨b,3,none⟩=some v3∧(w.alloc O).cell? ⟨b,4,none⟩=some v4)∧
  (w.alloc O).frozen? ⟨b,0,none⟩=false∧(w.alloc O).frozen? ⟨b,1,none⟩=false∧(w.alloc O).frozen? ⟨b,2,none⟩=false∧(w.alloc O).frozen? ⟨b,3,none⟩=false∧(w.alloc O).frozen? ⟨b,4,none⟩=false:=by
 have h':(w.alloc O).heap[b]? =some (.cells #[v0,v1,v2,v3,v4] T (0,0)):=(Below.heap_alloc _ _ _ (heap_lt h)).trans h
 refine⟨⟨?_,?_,?_,?_,?_⟩,frz_of h',frz_of h',frz_of h',frz_of h',frz_of h'⟩<;>(rw[cell_of_row _ _ _ _ _ _ h'];rfl)
def begE(a:Nat)(x:Int):Ending:=if(unpk x).2.2=0 then .returned (obA ⟨a,(unpk x).1,(unpk x).2.1,false,0⟩)else .panicked (wrongA 3)
theorem begin_new(w:World)(ws:List Int)(g o cap:Nat)(hw:Words w ws g o cap)(hg:g<w.heap.size)(a:Nat)(x:Int)(hx:ws[a]? =some x):
  Calls Try.prog 130 #[.slice (some ⟨g,o,none⟩) ws.length cap,.int .i64 a,.nilFunc] w fun e w'=>e=begE a x∧Below w.heap.size w w':=by
 have hl:=hw.len
 have hc:=hw.le
 have hm:=hw.cap
 have hlt:a<ws.length:=(List.getElem?_eq_some_iff.1 hx).1
 have hlt':(a:Int) <ws.length:=by omega
 have hu:U64 x:=hw.u64 x (List.mem_of_getElem? hx)
 have c0:=hw.at_ a x hx
 have cc: ∀W,Below w.heap.size w W→W.cell? ⟨g,o+a,none⟩=some (.int .u64 x):=fun W hb=>(hb.cell (p:=⟨g,o+a,none⟩) hg).trans c0
 have he:begE a x=if(unpk x).2.2=0 then .returned (obA ⟨a,(unpk x).1,(unpk x).2.1,false,0⟩)else .panicked (wrongA 3):=rfl
 generalize begE a x=E at*
 have HC:=Lib.hid cc
 have hnil:=neq_nil
 clear hw hx cc
 by_cases h0:(unpk x).2.2=0
 ·rw[if_pos h0]at he
  have HE:=Lib.hid he
  clear he
  go_enter Try.func130,Try.ntmps130
  go_wp2_with (first
   | (go_at_call 57;refine(adr_calls hu _).mono ?_;rintro e w1 ⟨rfl,hb1⟩;have HB1:=Lib.hid hb1;have d0:=HC.out w1 (((((Below.refl _ w).alloc (Nat.le_refl _) _).alloc (by simp) _).trans (hb1.mono (by simp;omega))));clear hb1)
   | (go_at_call 60;refine(unpk_calls hu _).mono ?_;rintro e w2 ⟨rfl,hb2⟩;have HB2:=Lib.hid hb2
      have hB:=HB1.out.block
      have r0:w2.heap[w.heap.size]? =some (.cells #[.int .i64 0,.int .i64 0,.int .i64 0,.bool false,.int .u64 0] 57 (0,0)):=(hb2.block _ (by have:=HB1.out.size;simp at this;omega)).trans ((HB1.out.block _ (by simp;omega)).trans ((Below.heap_alloc _ _ _ (by simp)).trans (heap_alloc_new w _)))
      have r1:w2.heap[w.heap.size+1]? =some (.cells #[.int .i64 a,.int .i64 0,.int .i64 0,.bool false,.int .u64 0] 57 (0,0)):=(hb2.block _ (by have:=HB1.out.size;simp at this;omega)).trans ((HB1.out.block _ (by simp)).trans (by have:=heap_alloc_new (w.alloc (.cells #[.int .i64 0,.int .i64 0,.int .i64 0,.bool false,.int .u64 0] 57)) (.cells #[.int .i64 a,.int .i64 0,.int .i64 0,.bool false,.int .u64 0] 57);simpa using this))
      obtain⟨⟨x0,x1,x2,x3,x4⟩,y0,y1,y2,y3,y4⟩:=row5 r0 (.cells #[.int .i64 (unpk x).1,.int .i64 (unpk x).2.1] 55)
      obtain⟨⟨p0,p1,p2,p3,p4⟩,q0,q1,q2,q3,q4⟩:=row5 r1 (.cells #[.int .i64 (unpk x).1,.int .i64 (unpk x).2.1] 55)
      have HR:=Lib.hid (And.intro r0 r1)
      clear hb2 hB r0 r1))
  refine bodyPost_ret (v:=obA ⟨a,(unpk x).1,(unpk x).2.1,false,0⟩) ?_ rfl ⟨HE.out.symm,?_⟩
  ·simp[results,Try.results130,go_sem,obA,x0,x1,x2,x3,x4]
  ·have h1:=(((Below.refl _ w).alloc (Nat.le_refl _) (.cells #[.int .i64 0,.int .i64 0,.int .i64 0,.bool false,.int .u64 0] 57)).alloc (by simp) (.cells #[.int .i64 a,.int .i64 0,.int .i64 0,.bool false,.int .u64 0] 57)).trans (HB1.out.mono (by simp;omega))
   have h2:=(h1.trans (HB2.out.mono (by have:=h1.size;omega))).alloc (by have:=h1.size;have:=HB2.out.size;omega) (.cells #[.int .i64 (unpk x).1,.int .i64 (unpk x).2.1] 55)
   exact((((((h2.setCell (p:=⟨w.heap.size+1,1,none⟩) (by simp) _).setCell (p:=⟨w.heap.size+1,2,none⟩) (by simp) _).setCell (p:=⟨w.heap.size,0,none⟩) (Nat.le_refl _) _).setCell (p:=⟨w.heap.size,1,none⟩) (Nat.le_refl _) _).setCell (p:=⟨w.heap.size,2,none⟩) (Nat.le_refl _) _).setCell (p:=⟨w.heap.size,3,none⟩) (Nat.le_refl _) _).setCell (p:=⟨w.heap.size,4,none⟩) (Nat.le_refl _) _
 ·rw[if_neg h0]at he
  have HE:=Lib.hid he
  clear he
  have h0':((unpk x).2.2=0)=False:=eq_false h0
  go_enter Try.func130,Try.ntmps130
  go_wp2_with (first
   | (go_at_call 57;refine(adr_calls hu _).mono ?_;rintro e w1 ⟨rfl,hb1⟩;have HB1:=Lib.hid hb1;have d0:=HC.out w1 (((((Below.refl _ w).alloc (Nat.le_refl _) _).alloc (by simp) _).trans (hb1.mono (by simp;omega))));clear hb1)
   | (go_at_call 60;refine(unpk_calls hu _).mono ?_;rintro e w2 ⟨rfl,hb2⟩;have HB2:=Lib.hid hb2;clear hb2))
  refine⟨rfl,HE.out.symm,?_⟩
  have h1:=(((Below.refl _ w).alloc (Nat.le_refl _) (.cells #[.int .i64 0,.int .i64 0,.int .i64 0,.bool false,.int .u64 0] 57)).alloc (by simp) (.cells #[.int .i64 a,.int .i64 0,.int .i64 0,.bool false,.int .u64 0] 57)).trans (HB1.out.mono (by simp;omega))
  exact(h1.trans (HB2.out.mono (by have:=h1.size;omega))).alloc (by have:=h1.size;have:=HB2.out.size;omega) _
end Vm
namespace Vm
open Go Go.Proofs Go.RowKit
set_option maxHeartbeats 1000000
set_option maxRecDepth 100000
theorem shapeOk_calls(s p:Int)(w:World):Calls Try.prog 91 #[.agg #[.int .i64 s,.int .i64 p]] w fun e w'=>e= .returned (.bool (shapeOk s p))∧Below w.heap.size w w':=
 calls_flat right5_vc rfl rfl w
structure Shps (w:World) (shs:List (Int×Int)) (bs:Nat) (v:Value):Prop where
 box:w.heap[bs]? =some (.cells #[v] 154 (0,0))
 val:(∃g o cap,v= .slice (some ⟨g,o,none⟩) shs.length cap∧shs.length≤cap∧cap≤maxLen∧g<w.heap.size∧ ∀(i:Nat) (x:Int×Int),shs[i]? =some x→w.cell? ⟨g,o+i*2,none⟩=some (.int .i64 x.1)∧w.cell? ⟨g,o+i*2+1,none⟩=some (.int .i64 x.2))∨
  (∃a cap,v= .slice a 0 cap∧shs= [])
theorem gone_end(w:World)(shs:List (Int×Int))(bt bs:Nat)(v:Value)(hl:shs.length≤1000000)(hs:Shps w shs bs v)(hb:w.heap[bt]? =some (.cells #[.int .i64 shs.length] 3 (0,0))):
  Calls Try.prog 125 #[.pointer (some ⟨bt,0,none⟩),.pointer (some ⟨bs,0,none⟩)] w fun e w'=>e= .panicked (wrongA 3)∧Below w.heap.size w w':=by
 have c0:w.cell? ⟨bt,0,none⟩=some (.int .i64 shs.length):=by rw[cell_of_row _ _ _ _ _ _ hb];rfl
 have hbl:=heap_lt hb
 have hbl2:=heap_lt hs.box
 have c1:w.cell? ⟨bs,0,none⟩=some v:=by rw[cell_of_row _ _ _ _ _ _ hs.box];rfl
 rcases hs.val with ⟨g,o,cap,rfl,h1,h2,h3,h4⟩ | ⟨a,cap,rfl,rfl⟩
 ·clear h4 hs hb
  go_enter Try.func125,Try.ntmps125
  go_wp2
  exact⟨rfl,rfl,(Below.refl _ _).alloc (Nat.le_refl _) _⟩
 ·clear hs hb
  simp only[List.length_nil]at c0
  go_enter Try.func125,Try.ntmps125
  go_wp2
  exact⟨rfl,rfl,(Below.refl _ _).alloc (Nat.le_refl _) _⟩
theorem gone_bad(w:World)(shs:List (Int×Int))(bt bs t:Nat)(v:Value)(x:Int×Int)(hl:shs.length≤1000000)(hs:Shps w shs bs v)(hb:w.heap[bt]? =some (.cells #[.int .i64 t] 3 (0,0))) (hx:shs[t]? =some x) (hn:shapeOk x.1 x.2=false):
  Calls Try.prog 125 #[.pointer (some ⟨bt,0,none⟩),.pointer (some ⟨bs,0,none⟩)] w fun e w'=>e= .panicked (wrongA 3)∧Below w.heap.size w w':=by
 have c0:w.cell? ⟨bt,0,none⟩=some (.int .i64 t):=by rw[cell_of_row _ _ _ _ _ _ hb];rfl
 have hbl:=heap_lt hb
 have hbl2:=heap_lt hs.box
 have hlt:t<shs.length:=(List.getElem?_eq_some_iff.1 hx).1
 have hne: ¬t=shs.length:=by omega
 have hlt':(t:Int) <shs.length:=by omega
 have c1:w.cell? ⟨bs,0,none⟩=some v:=by rw[cell_of_row _ _ _ _ _ _ hs.box];rfl
 rcases hs.val with ⟨g,o,cap,rfl,h1,h2,h3,h4⟩ | ⟨a,cap,rfl,rfl⟩
 ·obtain⟨d0,d1⟩:=h4 t x hx
  have e2:=shapeOk_calls x.1 x.2
  rw[hn]at e2
  clear h4 hs hb hx hn
  go_enter Try.func125,Try.ntmps125
  go_wp2_with (go_at_call 91;refine(e2 _).mono ?_;rintro e w1 ⟨rfl,hb1⟩;have HB1:=Lib.hid hb1;clear hb1)
  exact⟨rfl,rfl,((Below.refl _ w).alloc (Nat.le_refl _) _).trans (HB1.out.mono (by simp))⟩
 ·simp at hx
theorem gone_ok(w:World)(shs:List (Int×Int))(bt bs t:Nat)(v:Value)(x:Int×Int)(hl:shs.length≤1000000)(hs:Shps w shs bs v)(hb:w.heap[bt]? =some (.cells #[.int .i64 t] 3 (0,0))) (hx:shs[t]? =some x) (hn:shapeOk x.1 x.2=true) (hbs:bs≠bt)
  (hgb: ∀g o cap,v= .slice (some ⟨g,o,none⟩) shs.length cap→g≠bt):
  Calls Try.prog 125 #[.pointer (some ⟨bt,0,none⟩),.pointer (some ⟨bs,0,none⟩)] w fun e w'=>e= .returned (.agg #[.int .i64 x.1,.int .i64 x.2])∧w.grownBy w' (some bt)∧w'.heap[bt]? =some (.cells #[.int .i64 ((t+1:Nat):Int)] 3 (0,0)):=by
 have c0:w.cell? ⟨bt,0,none⟩=some (.int .i64 t):=by rw[cell_of_row _ _ _ _ _ _ hb];rfl
 have hbl:=heap_lt hb
 have hbl2:=heap_lt hs.box
 have hlt:t<shs.length:=(List.getElem?_eq_some_iff.1 hx).1
 have hne: ¬t=shs.length:=by omega
 have hlt':(t:Int) <shs.length:=by omega
 have c1:w.cell? ⟨bs,0,none⟩=some v:=by rw[cell_of_row _ _ _ _ _ _ hs.box];rfl
 have hf:=frz_of (o:=0) hb
 have hbs': ¬bs=bt:=hbs
 have hbs2: ¬bt=bs:=fun e=>hbs e.symm
 rcases hs.val with ⟨g,o,cap,rfl,h1,h2,h3,h4⟩ | ⟨a,cap,rfl,rfl⟩
 ·obtain⟨d0,d1⟩:=h4 t x hx
  have hg:=hgb g o cap rfl
  have e2:=shapeOk_calls x.1 x.2
  rw[hn]at e2
  have HB:=Lib.hid hb
  clear h4 hs hb hx hn hgb
  go_enter Try.func125,Try.ntmps125
  go_wp2_with (go_at_call 91;refine(e2 _).mono ?_;rintro e w1 ⟨rfl,hb1⟩
               have HB1:=Lib.hid hb1
               have s1:=hb1.size
               have k0:w1.cell? ⟨bt,0,none⟩=some (.int .i64 t):=(hb1.cell (p:=⟨bt,0,none⟩) (by simp;omega)).trans ((World.cell?_alloc_lt _ _ _ hbl).trans c0)
               have k1:w1.frozen? ⟨bt,0,none⟩=false:=frz_of ((hb1.block bt (by simp;omega)).trans ((Below.heap_alloc _ _ _ hbl).trans HB.out))
               have k2:w1.cell? ⟨bs,0,none⟩=some (.slice (some ⟨g,o,none⟩) shs.length cap):=(hb1.cell (p:=⟨bs,0,none⟩) (by simp;omega)).trans ((World.cell?_alloc_lt _ _ _ hbl2).trans c1)
               have k3:w1.cell? ⟨g,o+t*2,none⟩=some (.int .i64 x.1):=(hb1.cell (p:=⟨g,o+t*2,none⟩) (by simp;omega)).trans ((World.cell?_alloc_lt _ _ _ h3).trans d0)
               have k4:w1.cell? ⟨g,o+t*2+1,none⟩=some (.int .i64 x.2):=(hb1.cell (p:=⟨g,o+t*2+1,none⟩) (by simp;omega)).trans ((World.cell?_alloc_lt _ _ _ h3).trans d1)
               have r0:w1.heap[w.heap.size]? =some (.cells #[.int .i64 0,.int .i64 0] 55 (0,0)):=(hb1.block _ (by simp)).trans (heap_alloc_new w _)
               have x0:w1.cell? ⟨w.heap.size,0,none⟩=some (.int .i64 0):=by rw[cell_of_row _ _ _ _ _ _ r0];rfl
               have x1:w1.cell? ⟨w.heap.size,1,none⟩=some (.int .i64 0):=by rw[cell_of_row _ _ _ _ _ _ r0];rfl
               have y0:=frz_of (o:=0) r0
               have y1:=frz_of (o:=1) r0
               have n1: ¬w.heap.size=bt:=by omega
               have n2: ¬bt=w.heap.size:=by omega
               have HR:=Lib.hid r0
               clear hb1 r0)
  have hB:Below w.heap.size w w1:=((Below.refl _ w).alloc (Nat.le_refl _) (.cells #[.int .i64 0,.int .i64 0] 55)).trans (HB1.out.mono (by simp))
  have hw1:w1.heap[bt]? =some (.cells #[.int .i64 t] 3 (0,0)):=(hB.block bt hbl).trans HB.out
  refine bodyPost_ret (v:= .agg #[.int .i64 x.1,.int .i64 x.2]) ?_ rfl ⟨rfl,⟨hB.os,hB.tape,hB.output,?_,fun k hk hne=> ?_⟩,?_⟩
  ·simp[results,Try.results125,go_sem,x0,x1,n1,n2]
  ·simp[World.setCell];exact hB.size
  ·have hkb:k≠bt:=fun e=>hne (by rw[e])
   rw[Below.heap_setCell _ _ _ _ (by show k≠w.heap.size;omega),Below.heap_setCell _ _ _ _ (by show k≠w.heap.size;omega),Below.heap_setCell _ _ _ _ hkb]
   exact hB.block k hk
  ·rw[Below.heap_setCell _ _ _ _ (by show bt≠w.heap.size;omega),Below.heap_setCell _ _ _ _ (by show bt≠w.heap.size;omega)]
   simp[World.setCell,Array.getElem?_modify,hw1]
 ·simp at hx
end Vm
namespace Vm
open Go Go.Proofs Go.RowKit
set_option maxHeartbeats 1000000
set_option maxRecDepth 100000
theorem begin_old_new(w:World)(f:FuncId)(vs:Array Value)(ws:List Int)(g o cap:Nat)(hw:Words w ws g o cap)(hg:g<w.heap.size)(a:Nat)(x:Int)(hx:ws[a]? =some x)(hna: ¬(adr x).2=0):
  Calls Try.prog 130 #[.slice (some ⟨g,o,none⟩) ws.length cap,.int .i64 a,.func (.func f) #[] vs] w fun e w'=>e=begE a x∧Below w.heap.size w w':=by
 have hl:=hw.len
 have hc:=hw.le
 have hm:=hw.cap
 have hlt:a<ws.length:=(List.getElem?_eq_some_iff.1 hx).1
 have hlt':(a:Int) <ws.length:=by omega
 have hu:U64 x:=hw.u64 x (List.mem_of_getElem? hx)
 have c0:=hw.at_ a x hx
 have cc: ∀W,Below w.heap.size w W→W.cell? ⟨g,o+a,none⟩=some (.int .u64 x):=fun W hb=>(hb.cell (p:=⟨g,o+a,none⟩) hg).trans c0
 have he:begE a x=if(unpk x).2.2=0 then .returned (obA ⟨a,(unpk x).1,(unpk x).2.1,false,0⟩)else .panicked (wrongA 3):=rfl
 generalize begE a x=E at*
 have HC:=Lib.hid cc
 have hfn:=fun W=>neq_fn W f vs
 have hna':((adr x).2=0)=False:=eq_false hna
 clear hw hx cc
 by_cases h0:(unpk x).2.2=0
 ·rw[if_pos h0]at he
  have HE:=Lib.hid he
  clear he
  go_enter Try.func130,Try.ntmps130
  go_wp2_with (first
   | (go_at_call 57;refine(adr_calls hu _).mono ?_;rintro e w1 ⟨rfl,hb1⟩;have HB1:=Lib.hid hb1;have d0:=HC.out w1 (((((Below.refl _ w).alloc (Nat.le_refl _) _).alloc (by simp) _).trans (hb1.mono (by simp;omega))));clear hb1)
   | (go_at_call 60;refine(unpk_calls hu _).mono ?_;rintro e w2 ⟨rfl,hb2⟩;have HB2:=Lib.hid hb2
      have hB:=HB1.out.block
      have r0:w2.heap[w.heap.size]? =some (.cells #[.int .i64 0,.int .i64 0,.int .i64 0,.bool false,.int .u64 0] 57 (0,0)):=(hb2.block _ (by have:=HB1.out.size;simp at this;omega)).trans ((HB1.out.block _ (by simp;omega)).trans ((Below.heap_alloc _ _ _ (by simp)).trans (heap_alloc_new w _)))
      have r1:w2.heap[w.heap.size+1]? =some (.cells #[.int .i64 a,.int .i64 0,.int .i64 0,.bool false,.int .u64 0] 57 (0,0)):=(hb2.block _ (by have:=HB1.out.size;simp at this;omega)).trans ((HB1.out.block _ (by simp)).trans (by have:=heap_alloc_new (w.alloc (.cells #[.int .i64 0,.int .i64 0,.int .i64 0,.bool false,.int .u64 0] 57)) (.cells #[.int .i64 a,.int .i64 0,.int .i64 0,.bool false,.int .u64 0] 57);simpa using this))
      obtain⟨⟨x0,x1,x2,x3,x4⟩,y0,y1,y2,y3,y4⟩:=row5 r0 (.cells #[.int .i64 (unpk x).1,.int .i64 (unpk x).2.1] 55)
      obtain⟨⟨p0,p1,p2,p3,p4⟩,q0,q1,q2,q3,q4⟩:=row5 r1 (.cells #[.int .i64 (unpk x).1,.int .i64 (unpk x).2.1] 55)
      have HR:=Lib.hid (And.intro r0 r1)
      clear hb2 hB r0 r1))
  refine bodyPost_ret (v:=obA ⟨a,(unpk x).1,(unpk x).2.1,false,0⟩) ?_ rfl ⟨HE.out.symm,?_⟩
  ·simp[results,Try.results130,go_sem,obA,x0,x1,x2,x3,x4]
  ·have h1:=(((Below.refl _ w).alloc (Nat.le_refl _) (.cells #[.int .i64 0,.int .i64 0,.int .i64 0,.bool false,.int .u64 0] 57)).alloc (by simp) (.cells #[.int .i64 a,.int .i64 0,.int .i64 0,.bool false,.int .u64 0] 57)).trans (HB1.out.mono (by simp;omega))
   have h2:=(h1.trans (HB2.out.mono (by have:=h1.size;omega))).alloc (by have:=h1.size;have:=HB2.out.size;omega) (.cells #[.int .i64 (unpk x).1,.int .i64 (unpk x).2.1] 55)
   exact((((((h2.setCell (p:=⟨w.heap.size+1,1,none⟩) (by simp) _).setCell (p:=⟨w.heap.size+1,2,none⟩) (by simp) _).setCell (p:=⟨w.heap.size,0,none⟩) (Nat.le_refl _) _).setCell (p:=⟨w.heap.size,1,none⟩) (Nat.le_refl _) _).setCell (p:=⟨w.heap.size,2,none⟩) (Nat.le_refl _) _).setCell (p:=⟨w.heap.size,3,none⟩) (Nat.le_refl _) _).setCell (p:=⟨w.heap.size,4,none⟩) (Nat.le_refl _) _
 ·rw[if_neg h0]at he
  have HE:=Lib.hid he
  clear he
  have h0':((unpk x).2.2=0)=False:=eq_false h0
  go_enter Try.func130,Try.ntmps130
  go_wp2_with (first
   | (go_at_call 57;refine(adr_calls hu _).mono ?_;rintro e w1 ⟨rfl,hb1⟩;have HB1:=Lib.hid hb1;have d0:=HC.out w1 (((((Below.refl _ w).alloc (Nat.le_refl _) _).alloc (by simp) _).trans (hb1.mono (by simp;omega))));clear hb1)
   | (go_at_call 60;refine(unpk_calls hu _).mono ?_;rintro e w2 ⟨rfl,hb2⟩;have HB2:=Lib.hid hb2;clear hb2))
  refine⟨rfl,HE.out.symm,?_⟩
  have h1:=(((Below.refl _ w).alloc (Nat.le_refl _) (.cells #[.int .i64 0,.int .i64 0,.int .i64 0,.bool false,.int .u64 0] 57)).alloc (by simp) (.cells #[.int .i64 a,.int .i64 0,.int .i64 0,.bool false,.int .u64 0] 57)).trans (HB1.out.mono (by simp;omega))
  exact(h1.trans (HB2.out.mono (by have:=h1.size;omega))).alloc (by have:=h1.size;have:=HB2.out.size;omega) _
theorem begin_gone_bad(w:World)(vs:Array Value)(ws:List Int)(g o cap:Nat)(hw:Words w ws g o cap)(hg:g<w.heap.size)(a:Nat)(x:Int)(hx:ws[a]? =some x)(hna:(adr x).2=0)
  (hcall: ∀W,Below w.heap.size w W→Calls Try.prog 125 vs W fun e W'=>e= .panicked (wrongA 3)∧Below W.heap.size W W'):
  Calls Try.prog 130 #[.slice (some ⟨g,o,none⟩) ws.length cap,.int .i64 a,.func (.func 125) #[] vs] w fun e w'=>e= .panicked (wrongA 3)∧Below w.heap.size w w':=by
 have hl:=hw.len
 have hc:=hw.le
 have hm:=hw.cap
 have hlt:a<ws.length:=(List.getElem?_eq_some_iff.1 hx).1
 have hlt':(a:Int) <ws.length:=by omega
 have hu:U64 x:=hw.u64 x (List.mem_of_getElem? hx)
 have c0:=hw.at_ a x hx
 have hfn:=fun W=>neq_fn W 125 vs
 have HX:=Lib.hid hcall
 clear hw hx hcall
 go_enter Try.func130,Try.ntmps130
 go_wp2_with (first
  | (go_at_call 57;refine(adr_calls hu _).mono ?_;rintro e w1 ⟨rfl,hb1⟩
     have hB:Below w.heap.size w w1:=((((Below.refl _ w).alloc (Nat.le_refl _) _).alloc (by simp) _).trans (hb1.mono (by simp;omega)))
     have r1:w1.heap[w.heap.size+1]? =some (.cells #[.int .i64 a,.int .i64 0,.int .i64 0,.bool false,.int .u64 0] 57 (0,0)):=(hb1.block _ (by simp)).trans (by have:=heap_alloc_new (w.alloc (.cells #[.int .i64 0,.int .i64 0,.int .i64 0,.bool false,.int .u64 0] 57)) (.cells #[.int .i64 a,.int .i64 0,.int .i64 0,.bool false,.int .u64 0] 57);simpa using this)
     have p3:w1.cell? ⟨w.heap.size+1,3,none⟩=some (.bool false):=by rw[cell_of_row _ _ _ _ _ _ r1];rfl
     have p4:w1.cell? ⟨w.heap.size+1,4,none⟩=some (.int .u64 0):=by rw[cell_of_row _ _ _ _ _ _ r1];rfl
     have q3:=frz_of (o:=3) r1
     have q4:=frz_of (o:=4) r1
     have HB:=Lib.hid hB
     clear hb1 hB r1)
  | (go_at_call 125;refine(HX.out _ ?_).mono ?_;rotate_left;rintro e w2 ⟨rfl,hb2⟩;have HB2:=Lib.hid hb2;clear hb2))
 case refine_1=>exact(HB.out.setCell (p:=⟨w.heap.size+1,3,none⟩) (by simp) _).setCell (p:=⟨w.heap.size+1,4,none⟩) (by simp) _
 case refine_2=>
  have h2:=(HB.out.setCell (p:=⟨w.heap.size+1,3,none⟩) (by simp) (.bool true)).setCell (p:=⟨w.heap.size+1,4,none⟩) (by simp) (.int .u64 (adr x).1)
  exact⟨rfl,rfl,h2.trans (HB2.out.mono h2.size)⟩
theorem grown_set{w W:World}{r:Option Nat}(h:w.grownBy W r){p:Addr}(hp:w.heap.size≤p.block)(u:Value):w.grownBy (W.setCell p u) r:=
 ⟨h.os,h.tape,h.output,by simpa[World.setCell]using h.size,fun k hk hne=>(Below.heap_setCell _ _ _ _ (by omega)).trans (h.block k hk hne)⟩
theorem begin_gone_ok(w:World)(vs:Array Value)(ws:List Int)(g o cap:Nat)(hw:Words w ws g o cap)(hg:g<w.heap.size)(a:Nat)(x:Int)(hx:ws[a]? =some x)(hna:(adr x).2=0)
  (bt:Nat) (O:Obj) (s p:Int) (hbt:bt<w.heap.size)
  (hcall: ∀W,Below w.heap.size w W→Calls Try.prog 125 vs W fun e W'=>e= .returned (.agg #[.int .i64 s,.int .i64 p])∧W.grownBy W' (some bt)∧W'.heap[bt]? =some O):
  Calls Try.prog 130 #[.slice (some ⟨g,o,none⟩) ws.length cap,.int .i64 a,.func (.func 125) #[] vs] w fun e w'=>e= .returned (obA ⟨a,s,p,true,(adr x).1⟩)∧w.grownBy w' (some bt)∧w'.heap[bt]? =some O:=by
 have hl:=hw.len
 have hc:=hw.le
 have hm:=hw.cap
 have hlt:a<ws.length:=(List.getElem?_eq_some_iff.1 hx).1
 have hlt':(a:Int) <ws.length:=by omega
 have hu:U64 x:=hw.u64 x (List.mem_of_getElem? hx)
 have c0:=hw.at_ a x hx
 have hfn:=fun W=>neq_fn W 125 vs
 have HX:=Lib.hid hcall
 clear hw hx hcall
 go_enter Try.func130,Try.ntmps130
 go_wp2_with (first
  | (go_at_call 57;refine(adr_calls hu _).mono ?_;rintro e w1 ⟨rfl,hb1⟩
     have hB:Below w.heap.size w w1:=((((Below.refl _ w).alloc (Nat.le_refl _) _).alloc (by simp) _).trans (hb1.mono (by simp;omega)))
     have r1:w1.heap[w.heap.size+1]? =some (.cells #[.int .i64 a,.int .i64 0,.int .i64 0,.bool false,.int .u64 0] 57 (0,0)):=(hb1.block _ (by simp)).trans (by have:=heap_alloc_new (w.alloc (.cells #[.int .i64 0,.int .i64 0,.int .i64 0,.bool false,.int .u64 0] 57)) (.cells #[.int .i64 a,.int .i64 0,.int .i64 0,.bool false,.int .u64 0] 57);simpa using this)
     have p3:w1.cell? ⟨w.heap.size+1,3,none⟩=some (.bool false):=by rw[cell_of_row _ _ _ _ _ _ r1];rfl
     have p4:w1.cell? ⟨w.heap.size+1,4,none⟩=some (.int .u64 0):=by rw[cell_of_row _ _ _ _ _ _ r1];rfl
     have q3:=frz_of (o:=3) r1
     have q4:=frz_of (o:=4) r1
     have r0:w1.heap[w.heap.size]? =some (.cells #[.int .i64 0,.int .i64 0,.int .i64 0,.bool false,.int .u64 0] 57 (0,0)):=(hb1.block _ (by simp;omega)).trans ((Below.heap_alloc _ _ _ (by simp)).trans (heap_alloc_new w _))
     have HR:=Lib.hid (And.intro r0 r1)
     have HB:=Lib.hid hB
     clear hb1 hB r0 r1)
  | (go_at_call 125;refine(HX.out _ ?_).mono ?_;rotate_left;rintro e w2 ⟨rfl,hb2,ho2⟩
     have HB2:=Lib.hid hb2
     have HO2:=Lib.hid ho2
     have z1:w2.heap[w.heap.size+1]? =some (.cells #[.int .i64 a,.int .i64 0,.int .i64 0,.bool true,.int .u64 (adr x).1] 57 (0,0)):=(hb2.block _ (by simp[World.setCell];exact heap_lt HR.out.2) (by simp;omega)).trans (by simp[World.setCell,Array.getElem?_modify,HR.out.2])
     have z0:w2.heap[w.heap.size]? =some (.cells #[.int .i64 0,.int .i64 0,.int .i64 0,.bool false,.int .u64 0] 57 (0,0)):=(hb2.block _ (by simp[World.setCell];exact heap_lt HR.out.1) (by simp;omega)).trans (by simp[World.setCell,Array.getElem?_modify,HR.out.1])
     have s0:w2.cell? ⟨w.heap.size+1,0,none⟩=some (.int .i64 a):=by rw[cell_of_row _ _ _ _ _ _ z1];rfl
     have s1:w2.cell? ⟨w.heap.size+1,1,none⟩=some (.int .i64 0):=by rw[cell_of_row _ _ _ _ _ _ z1];rfl
     have s2:w2.cell? ⟨w.heap.size+1,2,none⟩=some (.int .i64 0):=by rw[cell_of_row _ _ _ _ _ _ z1];rfl
     have s3:w2.cell? ⟨w.heap.size+1,3,none⟩=some (.bool true):=by rw[cell_of_row _ _ _ _ _ _ z1];rfl
     have s4:w2.cell? ⟨w.heap.size+1,4,none⟩=some (.int .u64 (adr x).1):=by rw[cell_of_row _ _ _ _ _ _ z1];rfl
     have t0:w2.cell? ⟨w.heap.size,0,none⟩=some (.int .i64 0):=by rw[cell_of_row _ _ _ _ _ _ z0];rfl
     have t1:w2.cell? ⟨w.heap.size,1,none⟩=some (.int .i64 0):=by rw[cell_of_row _ _ _ _ _ _ z0];rfl
     have t2:w2.cell? ⟨w.heap.size,2,none⟩=some (.int .i64 0):=by rw[cell_of_row _ _ _ _ _ _ z0];rfl
     have t3:w2.cell? ⟨w.heap.size,3,none⟩=some (.bool false):=by rw[cell_of_row _ _ _ _ _ _ z0];rfl
     have t4:w2.cell? ⟨w.heap.size,4,none⟩=some (.int .u64 0):=by rw[cell_of_row _ _ _ _ _ _ z0];rfl
     have u1:=frz_of (o:=1) z1
     have u2:=frz_of (o:=2) z1
     have v0:=frz_of (o:=0) z0
     have v1:=frz_of (o:=1) z0
     have v2:=frz_of (o:=2) z0
     have v3:=frz_of (o:=3) z0
     have v4:=frz_of (o:=4) z0
     clear hb2 ho2 z0 z1))
 case refine_1=>exact(HB.out.setCell (p:=⟨w.heap.size+1,3,none⟩) (by simp) _).setCell (p:=⟨w.heap.size+1,4,none⟩) (by simp) _
 next=>
  have h2:=(HB.out.setCell (p:=⟨w.heap.size+1,3,none⟩) (by simp) (.bool true)).setCell (p:=⟨w.heap.size+1,4,none⟩) (by simp) (.int .u64 (adr x).1)
  have hg2:w.grownBy w2 (some bt):=⟨HB2.out.os.trans h2.os,HB2.out.tape.trans h2.tape,HB2.out.output.trans h2.output,Nat.le_trans h2.size HB2.out.size,fun k hk hne=>(HB2.out.block k (Nat.lt_of_lt_of_le hk h2.size) hne).trans (h2.block k hk)⟩
  have k1:bt≠w.heap.size+1:=by omega
  have k2:bt≠w.heap.size:=by omega
  clear h2
  refine bodyPost_ret (v:=obA ⟨a,s,p,true,(adr x).1⟩) ?_ rfl ⟨rfl,?_,?_⟩
  ·simp[results,Try.results130,go_sem,obA,t0,t1,t2,t3,t4]
  ·exact grown_set (grown_set (grown_set (grown_set (grown_set (grown_set (grown_set hg2 (by simp) _) (by simp) _) (by simp) _) (by simp) _) (by simp) _) (by simp) _) (by simp) _
  ·rw[Below.heap_setCell _ _ _ _ k2,Below.heap_setCell _ _ _ _ k2,Below.heap_setCell _ _ _ _ k2,Below.heap_setCell _ _ _ _ k2,Below.heap_setCell _ _ _ _ k2,Below.heap_setCell _ _ _ _ k1,Below.heap_setCell _ _ _ _ k1]
   exact HO2.out
end Vm
namespace Vm
open Go Go.Proofs Go.RowKit Go.Shelf
set_option maxHeartbeats 1000000
set_option maxRecDepth 100000
def rowB(W:World)(bl:Nat):Option Nat:=(W.cell? ⟨bl,0,none⟩).bind Value.ownBlock
structure KpW (bl base:Nat) (A B:World):Prop where
 size:A.heap.size≤B.heap.size
 same: ∀k o,A.heap[k]? =some o→o.isCells=true→k≠bl→(k<base∨rowB A bl≠some k)→B.heap[k]? =some o
 row: ∀k,k<A.heap.size→rowB B bl=some k→rowB A bl=some k
theorem KpW.trans{bl base:Nat}{A B C:World}(h:KpW bl base A B)(k:KpW bl base B C):KpW bl base A C:=
 ⟨Nat.le_trans h.size k.size,fun i o hi hc hn hr=>k.same i o (h.same i o hi hc hn hr) hc hn (hr.imp id fun hne e=>hne (h.row i (heap_lt hi) e)),fun i hi hr=>h.row i hi (k.row i (Nat.lt_of_lt_of_le hi h.size) hr)⟩
theorem KpW.put{bl base:Nat}{W:World}{l:Nat}{o:Obj}(o':Obj)(hl:W.heap[l]? =some o)(ho:o.isCells=false)(hne:bl≠l):KpW bl base W (W.putObj l o'):=by
 have hcell:(W.putObj l o').cell? ⟨bl,0,none⟩=W.cell? ⟨bl,0,none⟩:=World.cell?_of_block (World.putObj_heap_other (by show bl≠l;exact hne))
 refine⟨(grownBy_putObj' W l o').size,fun k o2 hk hk2 _ _=> ?_,fun k _ hr=> ?_⟩
 ·have:k≠l:=fun e=>by rw[e,hl]at hk;cases hk;rw[ho]at hk2;cases hk2
  exact(World.putObj_heap_other this).trans hk
 ·unfold rowB at hr⊢
  rw[hcell]at hr
  exact hr
def BegOk(ws:List Int)(g o cap:Nat)(gv:Value)(shs:List (Int×Int))(old:Bool)(bt:Option Nat)(K:Nat→World→Prop):Prop:=
 ∀(W:World) (a t:Nat) (x:Int),Words W ws g o cap→g<W.heap.size→K t W→ws[a]? =some x→
  Calls Try.prog 130 #[.slice (some ⟨g,o,none⟩) ws.length cap,.int .i64 a,gv] W fun e W'=>W.grownBy W' bt∧match objR shs old a t x with
   |some (ob,t')=>e= .returned (obA ob)∧K t' W'
   |none=>e= .panicked (wrongA 3)
def endS(ws:List Int)(shs:List (Int×Int))(old:Bool)(K:Nat→World→Prop)(xs:List Ob)(W:World):Prop:=
 ∃t,K t W∧walkW ws shs old=(if t<shs.length then([],3)else(xs,0))
def endP(ws:List Int)(shs:List (Int×Int))(old:Bool)(chain:List PanicEntry)(pre:List Ob)(W:World):Prop:=
 ∃e,(e=2∨e=3)∧chain=wrongA e∧walkW ws shs old=([],e)
structure Stat6 (ws:List Int) (g o cap:Nat) (sv:Value) (bw bg base bl:Nat) (bt:Option Nat) (gv:Value) (W:World):Prop where
 words:Words W ws g o cap
 sv_:sv= .slice (some ⟨g,o,none⟩) ws.length cap∨(ws= []∧ ∃a c,sv= .slice a 0 c)
 hbw:W.heap[bw]? =some (.cells #[sv] 28 (0,0))
 hbg:W.heap[bg]? =some (.cells #[gv] 177 (0,0))
 gb:ws≠ []→ ∃ob,W.heap[g]? =some ob∧ob.isCells=true
 lt:g<base∧bw<base∧bg<base∧base≤W.heap.size
 ne:g≠bl∧bw≠bl∧bg≠bl
 nt:some g≠bt∧some bw≠bt∧some bg≠bt
section
variable {ws:List Int} {g o cap bw bg base bl:Nat} {bt:Option Nat} {sv gv:Value} {W W':World}
theorem Stat6.of(h:Stat6 ws g o cap sv bw bg base bl bt gv W)(hs:W.heap.size≤W'.heap.size)(hb: ∀k ob,W.heap[k]? =some ob→ob.isCells=true→k<base→k≠bl→some k≠bt→W'.heap[k]? =some ob):Stat6 ws g o cap sv bw bg base bl bt gv W':=by
 refine⟨⟨fun i x hx=> ?_,h.words.le,h.words.cap,h.words.len,h.words.u64⟩,h.sv_,hb _ _ h.hbw rfl h.lt.2.1 h.ne.2.1 h.nt.2.1,hb _ _ h.hbg rfl h.lt.2.2.1 h.ne.2.2 h.nt.2.2,fun hn=> ?_,⟨h.lt.1,h.lt.2.1,h.lt.2.2.1,Nat.le_trans h.lt.2.2.2 hs⟩,h.ne,h.nt⟩
 ·have hn:ws≠ []:=fun e=>by rw[e]at hx;simp at hx
  obtain⟨ob,ho,hc⟩:=h.gb hn
  have h2:=hb _ _ ho hc h.lt.1 h.ne.1 h.nt.1
  rw[←h.words.at_ i x hx]
  exact World.cell?_of_block (h2.trans ho.symm)
 ·obtain⟨ob,ho,hc⟩:=h.gb hn
  exact⟨ob,hb _ _ ho hc h.lt.1 h.ne.1 h.nt.1,hc⟩
theorem Stat6.grown(h:Stat6 ws g o cap sv bw bg base bl bt gv W)(hg:W.grownBy W' bt):Stat6 ws g o cap sv bw bg base bl bt gv W':=
 h.of hg.size fun k ob hk _ _ _ hn=>(hg.block k (heap_lt hk) hn).trans hk
theorem Stat6.kp(h:Stat6 ws g o cap sv bw bg base bl bt gv W)(hk:KpW bl base W W'):Stat6 ws g o cap sv bw bg base bl bt gv W':=
 h.of hk.size fun k ob hk1 hc hlt hne _=>hk.same k ob hk1 hc hne (.inl hlt)
end
theorem grown_of{W W':World}(hb:Below W.heap.size W W')(r:Option Nat):W.grownBy W' r:=⟨hb.os,hb.tape,hb.output,hb.size,fun k hk _=>hb.block k hk⟩
theorem beg_nil{ws:List Int}{g o cap:Nat}:BegOk ws g o cap .nilFunc [] false none (fun t _=>t=0):=by
 intro W a t x hw hg hK hx
 refine(begin_new W ws g o cap hw hg a x hx).mono ?_
 rintro e W' ⟨rfl,hb⟩
 refine⟨grown_of hb none,?_⟩
 unfold objR begE
 rw[if_neg (by simp)]
 by_cases hu:(unpk x).2.2=0
 ·simp only[hu,if_true]
  exact⟨trivial,hK⟩
 ·simp only[hu,if_false]
theorem Shps.grown{W W':World}{shs:List (Int×Int)}{bs:Nat}{v:Value}{r:Option Nat}(h:Shps W shs bs v)(hg:W.grownBy W' r)(hbs:some bs≠r)(hgb:shs≠ []→ ∀g o cap,v= .slice (some ⟨g,o,none⟩) shs.length cap→some g≠r):Shps W' shs bs v:=by
 refine⟨(hg.block _ (heap_lt h.box) hbs).trans h.box,?_⟩
 rcases h.val with ⟨g,o,cap,rfl,h1,h2,h3,h4⟩ | ⟨a,cap,rfl,rfl⟩
 ·refine .inl ⟨g,o,cap,rfl,h1,h2,Nat.lt_of_lt_of_le h3 hg.size,fun i x hx=> ?_⟩
  have hb:=hg.block g h3 (hgb (fun e=>by rw[e]at hx;simp at hx) _ _ _ rfl)
  exact⟨(World.cell?_of_block hb).trans (h4 i x hx).1,(World.cell?_of_block hb).trans (h4 i x hx).2⟩
 ·exact .inr ⟨a,cap,rfl,rfl⟩
def KOld(shs:List (Int×Int))(bt bs:Nat)(v:Value)(t:Nat)(W:World):Prop:=W.heap[bt]? =some (.cells #[.int .i64 t] 3 (0,0))∧Shps W shs bs v∧t≤shs.length
theorem beg_old{ws:List Int}{g o cap:Nat}{shs:List (Int×Int)}{bt bs:Nat}{v:Value}(hl:shs.length≤1000000)(hbs:bs≠bt)(hgb:shs≠ []→ ∀g o cap,v= .slice (some ⟨g,o,none⟩) shs.length cap→g≠bt):
  BegOk ws g o cap (.func (.func 125) #[] #[.pointer (some ⟨bt,0,none⟩),.pointer (some ⟨bs,0,none⟩)]) shs true (some bt) (KOld shs bt bs v):=by
 intro W a t x hw hg hK hx
 obtain⟨hb,hs,ht⟩:=hK
 have hbs':some bs≠some bt:=fun e=>hbs (by simpa using e)
 have hgb':shs≠ []→ ∀g o cap,v= .slice (some ⟨g,o,none⟩) shs.length cap→some g≠some bt:=fun hn g o cap e e2=>hgb hn g o cap e (by simpa using e2)
 have hsB: ∀W',Below W.heap.size W W'→Shps W' shs bs v:=fun W' hB=>hs.grown (grown_of hB none) (by simp) (fun _ _ _ _ _=>by simp)
 have hbB: ∀W',Below W.heap.size W W'→W'.heap[bt]? =some (.cells #[.int .i64 t] 3 (0,0)):=fun W' hB=>(hB.block _ (heap_lt hb)).trans hb
 by_cases ha:(adr x).2=0
 ·unfold objR
  rw[if_pos ⟨rfl,ha⟩]
  cases hxs:shs[t]? with
  |none=>
   have:t=shs.length:=by have:=List.getElem?_eq_none_iff.1 hxs;omega
   subst this
   refine(begin_gone_bad W _ ws g o cap hw hg a x hx ha fun W' hB=>gone_end W' shs bt bs v hl (hsB W' hB) (hbB W' hB)).mono ?_
   rintro e W' ⟨rfl,hB⟩
   exact⟨grown_of hB _,rfl⟩
  |some s=>
   simp only
   cases hok:shapeOk s.1 s.2
   ·refine(begin_gone_bad W _ ws g o cap hw hg a x hx ha fun W' hB=>gone_bad W' shs bt bs t v s hl (hsB W' hB) (hbB W' hB) hxs hok).mono ?_
    rintro e W' ⟨rfl,hB⟩
    exact⟨grown_of hB _,by simp⟩
   ·refine(begin_gone_ok W _ ws g o cap hw hg a x hx ha bt _ s.1 s.2 (heap_lt hb) fun W' hB=>gone_ok W' shs bt bs t v s hl (hsB W' hB) (hbB W' hB) hxs hok hbs (hgb (fun e=>by rw[e]at hxs;simp at hxs))).mono ?_
    rintro e W' ⟨rfl,hG,hO⟩
    have hlt:=(List.getElem?_eq_some_iff.1 hxs).1
    refine⟨hG,?_⟩
    simp only[if_true]
    exact⟨trivial,hO,hs.grown hG hbs' hgb',by omega⟩
 ·refine(begin_old_new W _ _ ws g o cap hw hg a x hx ha).mono ?_
  rintro e W' ⟨rfl,hB⟩
  refine⟨grown_of hB _,?_⟩
  unfold objR begE
  rw[if_neg (fun hc=>ha hc.2)]
  by_cases hu:(unpk x).2.2=0
  ·simp only[hu,if_true]
   exact⟨trivial,hbB W' hB,hsB W' hB,ht⟩
  ·simp only[hu,if_false]
end Vm
end
