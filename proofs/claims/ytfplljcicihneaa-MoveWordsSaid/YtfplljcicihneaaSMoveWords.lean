/-
  The law MoveWords holds of the given program, for every input.
-/
import Derived.Deep.RegionHeld3
import Derived.Deep.CutRange
import Derived.Deep.DeepCutAuto
import Derived.Deep.LoopGhost
import Derived.Test.YtfplljcicihneaaRows
import Derived.Test.YtfplljcicihneaaSMoveWords5
set_option linter.unusedSimpArgs false
set_option linter.unusedVariables false
section
namespace Vm
open Go Go.Proofs
set_option maxRecDepth 100000
set_option maxHeartbeats 1000000
structure Made (b:Bt) (x:Rw):Prop where
 pl:Placed b x
 lay:rightL (layH b.h)=true
 nine: ∀n∈b.g.nodes,sizN n≤9
 cyc:b.h.cycle=true→ ∀i,i<b.g.nodes.length→(hereAt b i).part=1→(oldAt b i).part≠0
 scan:0≤b.h.scan∧b.h.scan≤b.h.low.length∧(if b.h.cycle then b.h.scan<b.h.low.length else b.h.scan=b.h.low.length∧b.h.old= []∧b.h.far= [])
 room:(b.h.low.length:Int)+b.h.high.length+((wtL (obs b 3)+wtL (obs b 4):Nat):Int)≤b.h.cap
 fit:Fit b.h.scan
def ptsB(b:Bt):Pts:=⟨obs b 1,obs b 2,obs b 3,obs b 4⟩
theorem ptsB_at(b:Bt){k:Int}(hk:1≤k∧k≤4):(ptsB b).at k=obs b k:=by
 have h1:k=1∨k=2∨k=3∨k=4:=by omega
 rcases h1 with rfl|rfl|rfl|rfl<;>rfl
section
variable {b:Bt} {x:Rw}
theorem Made.fill(m:Made b x):(fillH x b).ok∧layH (fillH x b)=layH b.h∧(fillH x b).scan=b.h.scan∧(fillH x b).cycle=b.h.cycle:=fillH_ok m.pl.ok m.fit
theorem Made.tiles(m:Made b x){k:Int}(hk:1≤k∧k≤4):Tiles (partH (fillH x b) k) (decide (2<k)) 0 (obs b k):=obs_tile m.pl m.lay m.nine hk
theorem Made.start(m:Made b x){k a:Int}(hk:1≤k∧k≤4)(ha:0≤a∧a<sizL (layH b.h) k):startR (fillH x b) k a=fstL (layH b.h) k+a:=by
 unfold startR
 rw[m.fill.2.1,addr_in m.lay hk ha]
theorem sizN_pos(n:Nd):1≤sizN n:=by unfold sizN;omega
theorem Made.ob_here(m:Made b x){i:Nat}(hi:i<b.g.nodes.length)(hp:(hereAt b i).part≠0): ∃o∈obs b (hereAt b i).part,o.at_=(hereAt b i).at_∧o.size=((ndAt b i).ptrs.length:Int)+(ndAt b i).data.length∧o.ptrs=(ndAt b i).ptrs.length∧o.gone=false:=
 ⟨_,mem_obs.2 ⟨i,hi,by unfold obAt;rw[if_pos rfl];exact .head _⟩,rfl,rfl,rfl,rfl⟩
theorem Made.ob_old(m:Made b x){i:Nat}(hi:i<b.g.nodes.length)(hp:(oldAt b i).part≠0): ∃o∈obs b (oldAt b i).part,o.at_=(oldAt b i).at_:=by
 obtain⟨h1,h2,h3,h4⟩:=m.pl.old_in hi hp
 have hne: ¬(hereAt b i).part=(oldAt b i).part:=by
  by_cases h0:(hereAt b i).part=0
  ·omega
  ·have:=(m.pl.here_in hi h0).1;omega
 by_cases h0:(hereAt b i).part=0
 ·exact⟨_,mem_obs.2 ⟨i,hi,by unfold obAt;rw[if_neg hne,if_pos rfl,if_pos h0];exact .head _⟩,rfl⟩
 ·exact⟨_,mem_obs.2 ⟨i,hi,by unfold obAt;rw[if_neg hne,if_pos rfl,if_neg h0];exact .head _⟩,rfl⟩
theorem Made.to_here(m:Made b x){i:Nat}(hi:i<b.g.nodes.length):goesR (fillH x b) (ptsB b) (refB b.h (hereAt b i)) 1 2=true:=by
 by_cases h0:(hereAt b i).part=0
 ·have:refB b.h (hereAt b i)=0:=by unfold refB;rw[if_pos h0]
  rw[this]
  simp[goesR]
 ·obtain⟨h1,h2,h3⟩:=m.pl.here_in hi h0
  have hs:=sizN_pos (ndAt b i)
  obtain⟨o,ho,ha,_⟩:=m.ob_here hi h0
  rw[m.pl.ref_here m.lay hi h0]
  unfold goesR
  rw[adr_ref m.lay (by omega)]
  have:(atR (fillH x b) (hereAt b i).part (obs b (hereAt b i).part) (fstL (layH b.h) (hereAt b i).part+(hereAt b i).at_)).isSome=true:=by
   refine atR_isSome.2 ⟨o,ho,?_⟩
   rw[ha,m.start (by omega) ⟨by omega,by omega⟩]
  rcases h1 with h|h
  ·rw[h]at this
   rw[h]
   simp only[ptsB_at b (show 1≤(1:Int)∧(1:Int)≤4 by omega),this]
   simp
  ·rw[h]at this
   rw[h]
   simp only[ptsB_at b (show 1≤(2:Int)∧(2:Int)≤4 by omega),this]
   simp
theorem Made.to_old(m:Made b x){i:Nat}(hi:i<b.g.nodes.length):goesR (fillH x b) (ptsB b) (refB b.h (oldAt b i)) 3 4=true:=by
 by_cases h0:(oldAt b i).part=0
 ·have:refB b.h (oldAt b i)=0:=by unfold refB;rw[if_pos h0]
  rw[this]
  simp[goesR]
 ·obtain⟨h1,h2,_,h3⟩:=m.pl.old_in hi h0
  have hs:=sizN_pos (ndAt b i)
  obtain⟨o,ho,ha⟩:=m.ob_old hi h0
  rw[m.pl.ref_old m.lay hi h0]
  unfold goesR
  rw[adr_ref m.lay (by omega)]
  have:(atR (fillH x b) (oldAt b i).part (obs b (oldAt b i).part) (fstL (layH b.h) (oldAt b i).part+(oldAt b i).at_)).isSome=true:=by
   refine atR_isSome.2 ⟨o,ho,?_⟩
   rw[ha,m.start (by omega) ⟨by omega,by omega⟩]
  rcases h1 with h|h
  ·rw[h]at this
   rw[h]
   simp only[ptsB_at b (show 1≤(3:Int)∧(3:Int)≤4 by omega),this]
   simp
  ·rw[h]at this
   rw[h]
   simp only[ptsB_at b (show 1≤(4:Int)∧(4:Int)≤4 by omega),this]
   simp
theorem Made.same_at(m:Made b x){k:Int}(hk:1≤k∧k≤4){o q:Ob}(ho:o∈obs b k)(hq:q∈obs b k)(h:q.at_=o.at_):q=o:=by
 have ht:=m.tiles hk
 rcases ht.apart q hq o ho with h1|h1|h1
 ·exact h1
 ·have:=shapeOk_iff.1 (ht.stands q hq).1.shape;omega
 ·have:=shapeOk_iff.1 (ht.stands o ho).1.shape;omega
theorem Made.ob_in(m:Made b x){k:Int}(hk:1≤k∧k≤4){o:Ob}(ho:o∈obs b k):0≤o.at_∧o.at_<sizL (layH b.h) k:=by
 have hs:=((m.tiles hk).stands o ho).1
 have h1:=shapeOk_iff.1 hs.shape
 have h2:=hs.fits
 have h3:=hs.nat
 have:sizL (layH b.h) k=(partH (fillH x b) k).length:=by rw[←m.fill.2.1,sizL_part _ hk]
 omega
theorem Made.find(m:Made b x){k:Int}(hk:1≤k∧k≤4){o:Ob}(ho:o∈obs b k):atR (fillH x b) k (obs b k) (fstL (layH b.h) k+o.at_)=some o:=by
 rw[←m.start hk (m.ob_in hk ho)]
 refine atR_of ho fun q hq e=>m.same_at hk ho hq ?_
 rw[m.start hk (m.ob_in hk ho),m.start hk (m.ob_in hk hq)]at e
 omega
theorem mem_obAt_gone{k:Int}{i:Nat}{o:Ob}(h:o∈obAt b k i)(hg:o.gone=true): ¬(hereAt b i).part=k∧(oldAt b i).part=k∧ ¬(hereAt b i).part=0∧o=⟨(oldAt b i).at_,((ndAt b i).ptrs.length:Int)+(ndAt b i).data.length,(ndAt b i).ptrs.length,true,(adr (refB b.h (hereAt b i))).1⟩:=by
 unfold obAt at h
 split at h
 ·simp at h;subst h;simp at hg
 rename_i h1
 split at h
 ·rename_i h2
  split at h
  ·simp at h;subst h;simp at hg
  ·rename_i h3
   simp at h
   exact⟨h1,h2,h3,h⟩
 ·simp at h
theorem Made.gone(m:Made b x){k:Int}(hk:3≤k∧k≤4):GoneOk (fillH x b) (obs b 1) (obs b k):=by
 intro o ho hg
 obtain⟨i,hi,hoi⟩:=mem_obs.1 ho
 obtain⟨h1,h2,h3,rfl⟩:=mem_obAt_gone hoi hg
 obtain⟨u1,u2,u3⟩:=m.pl.here_in hi h3
 have hn2:=(m.pl.old_in hi (by omega)).2.2.1
 have hp1:(hereAt b i).part=1:=by omega
 obtain⟨q,hq,q1,q2,q3,_⟩:=m.ob_here hi h3
 rw[hp1]at hq
 refine⟨q,?_,q2,q3⟩
 simp only
 rw[m.pl.ref_here m.lay hi h3,adr_ref m.lay (by omega),hp1,←q1]
 exact m.find (by omega) hq
theorem Made.parts(m:Made b x):partsR (fillH x b)=some (ptsB b):=
 parts_of (m.tiles (k:=1) (by omega)) (m.tiles (k:=2) (by omega)) (m.tiles (k:=3) (by omega)) (m.tiles (k:=4) (by omega)) (m.gone (by omega)) (m.gone (by omega))
theorem tgL_append(l r:List Ob)(a:Int):tgL (l++r) a=tgL l a+tgL r a:=by simp[tgL]
theorem tg_at(b:Bt)(k:Int)(j:Nat)(a:Int):tgL (obAt b k j) a=if ¬(hereAt b j).part=k∧(oldAt b j).part=k∧ ¬(hereAt b j).part=0∧(adr (refB b.h (hereAt b j))).1=a then 1 else 0:=by
 unfold obAt
 by_cases h1:(hereAt b j).part=k
 ·rw[if_pos h1,if_neg (fun h=>h.1 h1)]
  simp[tgL]
 rw[if_neg h1]
 by_cases h2:(oldAt b j).part=k
 ·rw[if_pos h2]
  by_cases h3:(hereAt b j).part=0
  ·rw[if_pos h3,if_neg (fun h=>h.2.2.1 h3)]
   simp[tgL]
  ·rw[if_neg h3]
   by_cases h4:(adr (refB b.h (hereAt b j))).1=a
   ·rw[if_pos ⟨h1,h2,h3,h4⟩]
    simp[tgL,h4]
   ·rw[if_neg (fun h=>h4 h.2.2.2)]
    simp[tgL,h4]
 ·rw[if_neg h2,if_neg (fun h=>h2 h.2.1)]
  simp[tgL]
theorem Made.once(m:Made b x)(hc:b.h.cycle=true){i:Nat}(hi:i<b.g.nodes.length)(hp:(hereAt b i).part=1):targR (ptsB b) (fstL (layH b.h) 1+(hereAt b i).at_)=1:=by
 have key: ∀j,j≤b.g.nodes.length→tgL ((List.range j).flatMap (obAt b 3)) (fstL (layH b.h) 1+(hereAt b i).at_)+tgL ((List.range j).flatMap (obAt b 4)) (fstL (layH b.h) 1+(hereAt b i).at_)=if i<j then 1 else 0:=by
  intro j
  induction j with
  |zero=>intro _;simp[tgL]
  |succ j ih=>
   intro hj
   have ih:=ih (by omega)
   have hjl:j<b.g.nodes.length:=by omega
   rw[List.range_succ,List.flatMap_append,List.flatMap_append,tgL_append,tgL_append]
   simp only[List.flatMap_cons,List.flatMap_nil,List.append_nil]
   have hone:tgL (obAt b 3 j) (fstL (layH b.h) 1+(hereAt b i).at_)+tgL (obAt b 4 j) (fstL (layH b.h) 1+(hereAt b i).at_)=if j=i then 1 else 0:=by
    rw[tg_at,tg_at]
    by_cases h0:(hereAt b j).part=0
    ·have: ¬j=i:=fun e=>by subst e;omega
     rw[if_neg this,if_neg (fun h=>h.2.2.1 h0),if_neg (fun h=>h.2.2.1 h0)]
    obtain⟨u1,u2,u3⟩:=m.pl.here_in hjl h0
    by_cases hj1:(hereAt b j).part=1
    ·have ho:=m.cyc hc j hjl hj1
     obtain⟨v1,_⟩:=m.pl.old_in hjl ho
     have htg:(adr (refB b.h (hereAt b j))).1=fstL (layH b.h) 1+(hereAt b j).at_:=by rw[m.pl.ref_here m.lay hjl h0,adr_ref m.lay (by omega),hj1]
     have heq:(fstL (layH b.h) 1+(hereAt b j).at_=fstL (layH b.h) 1+(hereAt b i).at_)↔j=i:=by
      constructor
      ·intro e
       obtain⟨w1,w2,w3⟩:=m.pl.here_in hi (by omega)
       rw[hj1]at u2
       rw[hp]at w2
       have hs1:=sizN_pos (ndAt b i)
       have hs2:=sizN_pos (ndAt b j)
       have bi:(blk b x 1 i).length=sizN (ndAt b i):=by unfold blk;rw[if_pos hp];exact laidN_len _ _ _ _
       have bj:(blk b x 1 j).length=sizN (ndAt b j):=by unfold blk;rw[if_pos hj1];exact laidN_len _ _ _ _
       by_cases hlt:j<i
       ·obtain⟨r,hr⟩:=cat_mono b x 1 (show j+1≤i by omega)
        rw[cat_succ]at hr
        have:=congrArg List.length hr
        simp[bj]at this
        omega
       ·by_cases hgt:i<j
        ·obtain⟨r,hr⟩:=cat_mono b x 1 (show i+1≤j by omega)
         rw[cat_succ]at hr
         have:=congrArg List.length hr
         simp[bi]at this
         omega
        ·omega
      ·rintro rfl;rfl
     rw[htg]
     rcases v1 with v|v
     ·rw[if_neg (show ¬(¬(hereAt b j).part=4∧(oldAt b j).part=4∧_)from fun h=>by have:=h.2.1;omega)]
      by_cases hji:j=i
      ·rw[if_pos hji,if_pos ⟨by omega,v,h0,heq.2 hji⟩]
      ·rw[if_neg hji,if_neg (fun h=>hji (heq.1 h.2.2.2))]
     ·rw[if_neg (show ¬(¬(hereAt b j).part=3∧(oldAt b j).part=3∧_)from fun h=>by have:=h.2.1;omega)]
      by_cases hji:j=i
      ·rw[if_pos hji,if_pos ⟨by omega,v,h0,heq.2 hji⟩]
      ·rw[if_neg hji,if_neg (fun h=>hji (heq.1 h.2.2.2))]
    ·have hp2:(hereAt b j).part=2:=by omega
     have hold:(oldAt b j).part=0:=by
      by_cases h:(oldAt b j).part=0
      ·exact h
      ·exact absurd hp2 (m.pl.old_in hjl h).2.2.1
     have: ¬j=i:=fun e=>by subst e;omega
     rw[if_neg this,if_neg (fun h=>by have:=h.2.1;omega),if_neg (fun h=>by have:=h.2.1;omega)]
   by_cases hji:j=i
   ·subst hji
    rw[if_pos rfl]at hone
    rw[if_neg (Nat.lt_irrefl _)]at ih
    rw[if_pos (Nat.lt_succ_self _)]
    omega
   ·rw[if_neg hji]at hone
    by_cases hij:i<j
    ·rw[if_pos hij]at ih
     rw[if_pos (show i<j+1 by omega)]
     omega
    ·rw[if_neg hij]at ih
     rw[if_neg (show ¬i<j+1 by omega)]
     omega
 have:=key b.g.nodes.length (Nat.le_refl _)
 rw[if_pos hi]at this
 exact this
end
end Vm
end
section
namespace Vm
open Go Go.Proofs
set_option maxRecDepth 100000
set_option maxHeartbeats 1000000
section
variable {b:Bt} {x:Rw}
theorem Made.word(m:Made b x){k:Int}(hk:1≤k∧k≤4){i t:Nat}(hi:i<b.g.nodes.length)(ht:t< (blk b x k i).length):(partH (fillH x b) k)[(cat b x k i).length+t]? =(blk b x k i)[t]? :=by
 rw[fill_parts m.pl hk]
 obtain⟨r,hr⟩:=cat_mono b x k (show i+1≤b.g.nodes.length by omega)
 rw[hr,cat_succ,List.append_assoc,List.getElem?_append_right (by omega),Nat.add_sub_cancel_left,List.getElem?_append_left ht]
theorem laidN_slot{p:Pl}{n:Nd}{tw:Int}{j:Nat}(hj:j<n.ptrs.length): ∃q∈n.ptrs,(laidN b p n tw)[1+j]? =some (slotB b ⟨p.part,((p.at_.toNat+1+j:Nat):Int)⟩ q (IntKind.i64.wrap (tw+j))):=by
 refine⟨n.ptrs[j],List.getElem_mem hj,?_⟩
 unfold laidN
 rw[Nat.add_comm 1 j,List.getElem?_cons_succ,List.getElem?_append_left (by simp[slotsB];exact hj)]
 simp[slotsB,hj]
theorem goes_zero(h:Hp)(p:Pts)(k j:Int):goesR h p 0 k j=true:=by simp[goesR]
theorem Made.ptr_ok(m:Made b x)(hp: ∀n∈b.g.nodes,∀q∈n.ptrs,-1≤q∧q< (b.g.nodes.length:Int)){i:Nat}(hi:i<b.g.nodes.length){k:Int}{p:Pl}(hk:p.part=k){a:Nat}{tb_ tw:Int}(hto:tb_∈(ndAt b i).ptrs)(hw:((partH (fillH x b) k)[a]?).getD 0=slotB b ⟨p.part,(a:Int)⟩ tb_ tw):ptrOk (fillH x b) (ptsB b) k a=true:=by
 have hb:=hp (ndAt b i) (by unfold ndAt;rw[List.getElem?_eq_getElem hi];exact List.getElem_mem hi) tb_ hto
 unfold ptrOk
 simp only[hw]
 unfold slotB
 rw[hk]
 by_cases h0:tb_<0
 ·rw[if_pos h0]
  simp[goes_zero]
 obtain⟨t,rfl⟩:=Int.eq_ofNat_of_zero_le (show 0≤tb_ by omega)
 have ht:t<b.g.nodes.length:=by omega
 rw[if_neg h0]
 have g1:=m.to_here (i:=t) ht
 have g2:=m.to_old (i:=t) ht
 unfold hereAt at g1
 unfold oldAt at g2
 simp only[Int.toNat_natCast]
 by_cases h2:2<k
 ·rw[if_pos h2,if_pos h2]
  exact g2
 rw[if_neg h2,if_neg h2]
 rw[m.fill.2.2.1]
 by_cases h3:k=1∧b.h.scan≤(a:Int)
 ·rw[if_pos h3]
  split
  ·rw[g2];simp
  ·rw[g1];simp
 ·rw[if_neg h3,if_neg (fun h=>h3 ⟨h.1,h.2.1⟩)]
  exact g1
theorem Made.ptrs(m:Made b x)(hp: ∀n∈b.g.nodes,∀q∈n.ptrs,-1≤q∧q< (b.g.nodes.length:Int)){k:Int}(hk:1≤k∧k≤4):ptrsR (fillH x b) (ptsB b) k=true:=by
 unfold ptrsR
 rw[ptsB_at b hk,List.all_eq_true]
 intro o ho
 obtain⟨i,hi,hoi⟩:=mem_obs.1 ho
 unfold obPtrs
 rw[List.all_eq_true]
 intro j hj
 rw[List.mem_range]at hj
 unfold obAt at hoi
 split at hoi
 ·rename_i h1
  simp at hoi
  subst hoi
  simp only[Int.toNat_natCast]at hj
  obtain⟨_,q2,_⟩:=m.pl.here_in hi (by omega)
  rw[h1]at q2
  have hb:blk b x k i=laidN b (hereAt b i) (ndAt b i) (IntKind.i64.wrap (x.slack+i)):=by unfold blk;rw[if_pos h1]
  obtain⟨q,hq,hs⟩:=laidN_slot (b:=b) (p:=hereAt b i) (tw:=IntKind.i64.wrap (x.slack+i)) hj
  have hw:=m.word hk hi (t:=1+j) (by rw[hb,laidN_len];unfold sizN;omega)
  rw[hb,hs]at hw
  simp only
  refine m.ptr_ok hp hi h1 (tw:=IntKind.i64.wrap (IntKind.i64.wrap (x.slack+i)+j)) hq ?_
  rw[q2]at hw⊢
  simp only[Int.toNat_natCast]at hw⊢
  rw[←Nat.add_assoc]at hw
  rw[hw]
  rfl
 rename_i h1
 split at hoi
 ·rename_i h2
  obtain⟨_,q2,_⟩:=m.pl.old_in hi (by omega)
  rw[h2]at q2
  split at hoi
  ·rename_i h3
   simp at hoi
   subst hoi
   simp only[Int.toNat_natCast]at hj
   have hb:blk b x k i=laidN b (oldAt b i) (ndAt b i) 0:=by unfold blk;rw[if_neg h1,if_pos h2,if_pos h3]
   obtain⟨q,hq,hs⟩:=laidN_slot (b:=b) (p:=oldAt b i) (tw:=0) hj
   have hw:=m.word hk hi (t:=1+j) (by rw[hb,laidN_len];unfold sizN;omega)
   rw[hb,hs]at hw
   simp only
   refine m.ptr_ok hp hi h2 (tw:=IntKind.i64.wrap (0+j)) hq ?_
   rw[q2]at hw⊢
   simp only[Int.toNat_natCast]at hw⊢
   rw[←Nat.add_assoc]at hw
   rw[hw]
   rfl
  ·rename_i h3
   simp at hoi
   subst hoi
   simp only[Int.toNat_natCast]at hj
   have hb:blk b x k i=goneN b (hereAt b i) (ndAt b i):=by unfold blk;rw[if_neg h1,if_pos h2,if_neg h3]
   have hw:=m.word hk hi (t:=1+j) (by rw[hb,goneN_len];unfold sizN;omega)
   have hz:(goneN b (hereAt b i) (ndAt b i))[1+j]? =some 0:=by
    unfold goneN
    rw[Nat.add_comm 1 j,List.getElem?_cons_succ,List.getElem?_replicate,if_pos (by unfold sizN;omega)]
   rw[hb,hz]at hw
   unfold ptrOk
   simp only
   rw[q2,Int.toNat_natCast,show(cat b x k i).length+1+j=(cat b x k i).length+(1+j)by omega,hw]
   simp[goes_zero]
 ·simp at hoi
theorem Made.right(m:Made b x)(hp: ∀n∈b.g.nodes,∀q∈n.ptrs,-1≤q∧q< (b.g.nodes.length:Int)):rightR (fillH x b)=true:=by
 have hl:=m.fill.2.1
 have hlow:(fillH x b).low.length=b.h.low.length:=by have:=congrArg Ly.low hl;simp only[layH]at this;omega
 have hhigh:(fillH x b).high.length=b.h.high.length:=by have:=congrArg Ly.high hl;simp only[layH]at this;omega
 have hold:(fillH x b).old.length=b.h.old.length:=by have:=congrArg Ly.old hl;simp only[layH]at this;omega
 have hfar:(fillH x b).far.length=b.h.far.length:=by have:=congrArg Ly.far hl;simp only[layH]at this;omega
 have hcap:(fillH x b).cap=b.h.cap:=congrArg Ly.cap hl
 refine right_of ?_ m.parts ?_
 ·unfold numR
  have hs:=m.scan
  have hrl:=m.pl.ok.rl
  have hro:(fillH x b).roots.length≤5:=by simp only[fillH,List.length_map];exact hrl
  rw[hl,m.lay,m.fill.2.2.1,m.fill.2.2.2,hlow,hold,hfar]
  obtain⟨s1,s2,s3⟩:=hs
  cases hc:b.h.cycle
  ·rw[hc]at s3
   simp only[Bool.false_eq_true,if_false]at s3
   simp[s1,s2,s3]
   omega
  ·rw[hc]at s3
   simp only[if_true]at s3
   simp[s1,s2,s3]
   omega
 ·unfold rightP
  simp only[Bool.and_eq_true,decide_eq_true_eq]
  refine⟨⟨⟨⟨⟨⟨?_,?_⟩,m.ptrs hp (by omega)⟩,m.ptrs hp (by omega)⟩,m.ptrs hp (by omega)⟩,m.ptrs hp (by omega)⟩,?_⟩
  ·rw[m.fill.2.2.2]
   cases hc:b.h.cycle
   ·rfl
   ·simp only[Bool.not_true,Bool.false_or,List.all_eq_true]
    intro o ho
    obtain⟨i,hi,hoi⟩:=mem_obs.1 ho
    have h1:(hereAt b i).part=1∧o.at_=(hereAt b i).at_:=by
     unfold obAt at hoi
     split at hoi
     ·rename_i h1;simp at hoi;subst hoi;exact⟨h1,rfl⟩
     split at hoi
     ·rename_i h2
      have:=(m.pl.old_in hi (by omega)).1
      omega
     ·simp at hoi
    have hin:=m.ob_in (k:=1) (by omega) ho
    unfold tgOk
    rw[m.start (by omega) hin,h1.2,decide_eq_true_eq]
    exact m.once hc hi h1.1
  ·rw[List.all_eq_true]
   intro w hw
   simp only[fillH,List.mem_map]at hw
   obtain⟨r,hr,rfl⟩:=hw
   have hrl:=m.pl.ok.rts r hr
   by_cases h0:0≤r
   ·rw[if_pos h0]
    have hlk:=like_N (x:=x) m.pl.ok b.g.nodes.length (Nat.le_refl _)
    rw[refB_like hlk]
    obtain⟨t,rfl⟩:=Int.eq_ofNat_of_zero_le h0
    exact m.to_here (i:=t) (by omega)
   ·rw[if_neg h0]
    exact goes_zero _ _ _ _
  ·rw[hlow,hhigh,hcap]
   exact m.room
end
end Vm
end
section
namespace Vm
open Go Go.Proofs
set_option maxRecDepth 100000
set_option maxHeartbeats 1000000
theorem wtL_append(l r:List Ob):wtL (l++r)=wtL l+wtL r:=by simp[wtL]
section
variable {x:Rw} {c:Bool}
theorem wt_one{b:Bt}(hpl:Placed b x){i:Nat}(hi:i<b.g.nodes.length):wtL (obAt b 3 i)+wtL (obAt b 4 i)=if(hereAt b i).part=0 then sizN (ndAt b i)else 0:=by
 have hz:((1:Nat)+(((ndAt b i).ptrs.length:Int)+(ndAt b i).data.length).toNat)=sizN (ndAt b i):=by unfold sizN;omega
 rcases hpl.here i hi with ⟨h1,k,hk,hok⟩ | ⟨h1,_⟩
 ·have h0:(hereAt b i).part=0:=by rw[h1]
  rw[if_pos h0]
  rcases hk with rfl|rfl<;>simp[obAt,h0,hok,wtL,wtO,hz]
 ·have e0: ¬(hereAt b i).part=0:=by omega
  have e3: ¬(hereAt b i).part=3:=by omega
  have e4: ¬(hereAt b i).part=4:=by omega
  have: ∀k:Int,¬(hereAt b i).part=k→wtL (obAt b k i)=0:=fun k hk=>by
   unfold obAt
   rw[if_neg hk,if_neg e0]
   split<;>simp[wtL,wtO]
  rw[if_neg e0,this 3 e3,this 4 e4]
theorem wt_upto(hx:x.ok): ∀j,j≤(mkG x.nodes x.roots).nodes.length→wtL ((List.range j).flatMap (obAt (standB x c) 3))+wtL ((List.range j).flatMap (obAt (standB x c) 4))=(stN x c (mkG x.nodes x.roots) j).wt
 |0,_=>rfl
 |j+1,hj=>by
  have ih:=wt_upto hx j (by omega)
  have h1:=wt_one (stand_placed (c:=c) hx) (i:=j) (by rw[standB_g];omega)
  rw[here_is (by omega)]at h1
  have hn:ndAt (standB x c) j=((mkG x.nodes x.roots).nodes[j]?).getD default:=rfl
  rw[hn]at h1
  rw[List.range_succ,List.flatMap_append,List.flatMap_append,wtL_append,wtL_append,stN]
  simp only[List.flatMap_cons,List.flatMap_nil,List.append_nil]
  generalize ((mkG x.nodes x.roots).nodes[j]?).getD default=n at*
  unfold hereF at h1
  simp only[stStep]
  rcases clsK_range x j c with h0|h0| ⟨h0,rfl⟩
  ·simp[h0]at h1⊢;omega
  ·simp[h0]at h1⊢;omega
  ·simp[h0]at h1⊢;omega
theorem mkG_ptrB(x:Rw)(c:Bool): ∀n∈(standB x c).g.nodes,∀q∈n.ptrs,-1≤q∧q< ((standB x c).g.nodes.length:Int):=by
 rw[standB_g]
 exact mkG_ptr x.nodes x.roots
theorem nofar(hc:c=false): ∀j,(stN x c (mkG x.nodes x.roots) j).n3=0∧(stN x c (mkG x.nodes x.roots) j).n4=0
 |0=>⟨rfl,rfl⟩
 |j+1=>by
  have:=nofar hc j
  subst hc
  simpa[stN,stStep]using this
theorem made(hx:x.ok)(hc:c=true→(standB x true).h.low.length≠0):Made (standB x c) x:=by
 obtain⟨k1,k2,k3⟩:=stand_ok hx c
 refine⟨stand_placed hx,k3,?_,?_,?_,?_,k2⟩
 ·rw[standB_g];exact sz9 x
 ·intro hcy i hi h1
  have hct:c=true:=hcy
  subst hct
  rw[standB_g]at hi
  rw[here_is hi]at h1
  rw[old_is hi]
  unfold hereF at h1
  unfold oldF
  rcases clsK_range x i true with h0|h0| ⟨h0,_⟩
  ·simp[h0]at h1
  ·simp[h0]
   cases clsF x i<;>simp
  ·simp[h0]at h1
 ·have hlow:(standB x c).h.low.length=(stN x c (mkG x.nodes x.roots) (mkG x.nodes x.roots).nodes.length).n1:=by simp[standB]
  cases c
  ·obtain⟨e3,e4⟩:=nofar (x:=x) (c:=false) rfl (mkG x.nodes x.roots).nodes.length
   rw[hlow]
   have hs:(standB x false).h.scan=((stN x false (mkG x.nodes x.roots) (mkG x.nodes x.roots).nodes.length).n1:Int):=by simp[standB]
   have hcy:(standB x false).h.cycle=false:=rfl
   rw[hs,hcy]
   simp only[Bool.false_eq_true,if_false]
   refine⟨by omega,by omega,trivial,?_,?_⟩<;>simp[standB,e3,e4]
  ·have h0:=hc rfl
   rw[hlow]at h0
   rw[hlow]
   have hs:(standB x true).h.scan=pick x.scan (stN x true (mkG x.nodes x.roots) (mkG x.nodes x.roots).nodes.length).n1:=by
    simp only[standB]
    rw[if_pos ⟨trivial,by omega⟩]
   have hcy:(standB x true).h.cycle=true:=rfl
   have hp:=pick_lt (c:=x.scan) (n:=((stN x true (mkG x.nodes x.roots) (mkG x.nodes x.roots).nodes.length).n1:Int)) (by omega)
   rw[hs,hcy]
   simp only[if_true]
   omega
 ·have hw:=wt_upto (c:=c) hx (mkG x.nodes x.roots).nodes.length (Nat.le_refl _)
  have hl:(standB x c).h.low.length=(stN x c (mkG x.nodes x.roots) (mkG x.nodes x.roots).nodes.length).n1:=by simp[standB]
  have hh:(standB x c).h.high.length=(stN x c (mkG x.nodes x.roots) (mkG x.nodes x.roots).nodes.length).n2:=by simp[standB]
  have hcap:(standB x c).h.cap=max (((stN x c (mkG x.nodes x.roots) (mkG x.nodes x.roots).nodes.length).n1:Int)+(stN x c (mkG x.nodes x.roots) (mkG x.nodes x.roots).nodes.length).n2+(stN x c (mkG x.nodes x.roots) (mkG x.nodes x.roots).nodes.length).wt) (((stN x c (mkG x.nodes x.roots) (mkG x.nodes x.roots).nodes.length).n3:Int)+(stN x c (mkG x.nodes x.roots) (mkG x.nodes x.roots).nodes.length).n4)+pick x.slack 12:=rfl
  have hp:=pick_lt (c:=x.slack) (n:=12) (by omega)
  unfold obs
  rw[standB_g,hw,hl,hh,hcap]
  omega
theorem heapX_made(hx:x.ok): ∃c,heapX x=fillH x (standB x c)∧Made (standB x c) x:=by
 unfold heapX
 by_cases h:(standB x true).h.low.length=0
 ·rw[if_pos h]
  exact⟨false,rfl,made hx (by simp)⟩
 ·rw[if_neg h]
  exact⟨true,rfl,made hx fun _=>h⟩
theorem heapX_right(hx:x.ok):rightR (heapX x)=true:=by
 obtain⟨c,h,m⟩:=heapX_made hx
 rw[h]
 exact m.right (mkG_ptrB x c)
end
end Vm
end
section
namespace Vm
open Go
open Go.Proofs
set_option maxRecDepth 100000
def p43:Fn:=⟨14,[0,1,2,3,4,5,6,7,8,9,10,11,12,13],
(.seq
(.reg ⟨[],[],[(0,.v (.c (.bool false)))]⟩)
(.seq
(.reg ⟨[],[([],(.ag [(.c (.int .u64 (10))),(.c (.int .i64 (5))),(.c (.int .i64 (0))),(.c (.bool false)),(.c (.int .i64 (2))),(.lit [(.c (.int .u64 (2))),(.c (.int .u64 (6)))]),(.c (.sl [])),(.c (.sl [])),(.c (.sl [])),(.lit [(.c (.int .u64 (21)))])]))],[(1,.m [(.c (.int .u64 (10))),(.c (.int .i64 (5))),(.c (.int .i64 (0))),(.c (.bool false)),(.c (.int .i64 (2))),(.lit [(.c (.int .u64 (2))),(.c (.int .u64 (6)))]),(.c (.sl [])),(.c (.sl [])),(.c (.sl [])),(.lit [(.c (.int .u64 (21)))])])]⟩)
(.seq
(.reg ⟨[.call 14 [] (.id 46) false false [(.mm 1 0 10),(.c (.int .u64 (100))),(.c (.int .i64 (9)))]],[],[(2,.m [(.fld (.sz (.ext (.s 14) 0) 10) 0),(.fld (.sz (.ext (.s 14) 0) 10) 1),(.fld (.sz (.ext (.s 14) 0) 10) 2),(.fld (.sz (.ext (.s 14) 0) 10) 3),(.fld (.sz (.ext (.s 14) 0) 10) 4),(.fld (.sz (.ext (.s 14) 0) 10) 5),(.fld (.sz (.ext (.s 14) 0) 10) 6),(.fld (.sz (.ext (.s 14) 0) 10) 7),(.fld (.sz (.ext (.s 14) 0) 10) 8),(.fld (.sz (.ext (.s 14) 0) 10) 9)]),(3,.v (.fl (.ext (.s 14) 1)))]⟩)
(.seq
(.reg ⟨[.call 15 [] (.id 46) false false [(.mm 1 0 10),(.c (.int .u64 (100))),(.c (.int .i64 (4)))]],[],[(4,.m [(.fld (.sz (.ext (.s 15) 0) 10) 0),(.fld (.sz (.ext (.s 15) 0) 10) 1),(.fld (.sz (.ext (.s 15) 0) 10) 2),(.fld (.sz (.ext (.s 15) 0) 10) 3),(.fld (.sz (.ext (.s 15) 0) 10) 4),(.fld (.sz (.ext (.s 15) 0) 10) 5),(.fld (.sz (.ext (.s 15) 0) 10) 6),(.fld (.sz (.ext (.s 15) 0) 10) 7),(.fld (.sz (.ext (.s 15) 0) 10) 8),(.fld (.sz (.ext (.s 15) 0) 10) 9)]),(5,.v (.ext (.s 15) 1))]⟩)
(.seq
(.reg ⟨[.call 16 [] (.id 46) false false [(.mm 1 0 10),(.c (.int .u64 (0))),(.c (.int .i64 (9)))]],[],[(6,.m [(.fld (.sz (.ext (.s 16) 0) 10) 0),(.fld (.sz (.ext (.s 16) 0) 10) 1),(.fld (.sz (.ext (.s 16) 0) 10) 2),(.fld (.sz (.ext (.s 16) 0) 10) 3),(.fld (.sz (.ext (.s 16) 0) 10) 4),(.fld (.sz (.ext (.s 16) 0) 10) 5),(.fld (.sz (.ext (.s 16) 0) 10) 6),(.fld (.sz (.ext (.s 16) 0) 10) 7),(.fld (.sz (.ext (.s 16) 0) 10) 8),(.fld (.sz (.ext (.s 16) 0) 10) 9)]),(7,.v (.ext (.s 16) 1))]⟩)
(.seq
(.reg ⟨[.call 17 [] (.id 46) false false [(.mm 1 0 10),(.c (.int .u64 (9223372036854775808))),(.c (.int .i64 (9)))]],[],[(8,.m [(.fld (.sz (.ext (.s 17) 0) 10) 0),(.fld (.sz (.ext (.s 17) 0) 10) 1),(.fld (.sz (.ext (.s 17) 0) 10) 2),(.fld (.sz (.ext (.s 17) 0) 10) 3),(.fld (.sz (.ext (.s 17) 0) 10) 4),(.fld (.sz (.ext (.s 17) 0) 10) 5),(.fld (.sz (.ext (.s 17) 0) 10) 6),(.fld (.sz (.ext (.s 17) 0) 10) 7),(.fld (.sz (.ext (.s 17) 0) 10) 8),(.fld (.sz (.ext (.s 17) 0) 10) 9)]),(9,.v (.ext (.s 17) 1))]⟩)
(.seq
(.reg ⟨[.call 18 [] (.id 49) false false [(.ag [(.c (.int .u64 (10))),(.c (.int .i64 (5))),(.c (.int .i64 (0))),(.c (.int .i64 (0))),(.c (.int .i64 (1))),(.c (.int .i64 (0))),(.c (.int .i64 (0)))]),(.ag [(.c (.int .u64 (20))),(.c (.int .i64 (9))),(.c (.int .i64 (0))),(.c (.int .i64 (0))),(.c (.int .i64 (2))),(.c (.int .i64 (0))),(.c (.int .i64 (0)))]),(.c (.int .u64 (29)))]],[],[(10,.v (.ext (.s 18) 0)),(11,.v (.ext (.s 18) 1))]⟩)
(.seq
(.reg ⟨[.call 19 [] (.id 49) false false [(.ag [(.c (.int .u64 (10))),(.c (.int .i64 (5))),(.c (.int .i64 (0))),(.c (.int .i64 (0))),(.c (.int .i64 (1))),(.c (.int .i64 (0))),(.c (.int .i64 (0)))]),(.ag [(.c (.int .u64 (20))),(.c (.int .i64 (9))),(.c (.int .i64 (0))),(.c (.int .i64 (0))),(.c (.int .i64 (0))),(.c (.int .i64 (0))),(.c (.int .i64 (0)))]),(.c (.int .u64 (29)))]],[],[(12,.v (.ext (.s 19) 0)),(13,.v (.ext (.s 19) 1))]⟩)
(.seq
(.reg ⟨[.lt 20 [] (.bin .eql (.s 3) (.c (.int .i64 (0)))),.call 21 [(20,true)] (.id 22) false false [(.mm 2 0 10),(.ag [(.c (.int .u64 (100))),(.c (.int .i64 (9))),(.c (.int .i64 (0))),(.c (.bool false)),(.c (.int .i64 (2))),(.lit [(.c (.int .u64 (2))),(.c (.int .u64 (6)))]),(.c (.sl [])),(.c (.sl [])),(.c (.sl [])),(.lit [(.c (.int .u64 (201)))])])],.lt 22 [] (.ite (.s 20) (.s 21) (.c (.bool false))),.lt 23 [] (.ite (.s 22) (.bin .eql (.s 5) (.c (.int .i64 (8)))) (.c (.bool false))),.lt 24 [] (.ite (.s 23) (.bin .eql (.s 7) (.c (.int .i64 (1)))) (.c (.bool false))),.lt 25 [] (.ite (.s 24) (.bin .eql (.s 9) (.c (.int .i64 (9)))) (.c (.bool false))),.lt 26 [] (.ite (.s 25) (.bin .eql (.s 11) (.c (.int .i64 (0)))) (.c (.bool false))),.lt 27 [] (.ite (.s 26) (.bin .eql (.s 10) (.c (.int .u64 (55)))) (.c (.bool false)))],[([(22,true)],(.bin .eql (.s 5) (.c (.int .i64 (8))))),([(23,true)],(.bin .eql (.s 7) (.c (.int .i64 (1))))),([(24,true)],(.bin .eql (.s 9) (.c (.int .i64 (9))))),([(25,true)],(.bin .eql (.s 11) (.c (.int .i64 (0))))),([(26,true)],(.bin .eql (.s 10) (.c (.int .u64 (55))))),([(27,true)],(.bin .eql (.s 13) (.c (.int .i64 (6)))))],[(0,.v (.ite (.s 27) (.bin .eql (.s 13) (.c (.int .i64 (6)))) (.c (.bool false))))]⟩)
.ret))))))))),
[(0,.v)]⟩
theorem c43:compFn Try.prog fresh sig [] [] Try.f43=some p43:=by kernel_rfl
end Vm
end
section
namespace Vm
open Go Go.Proofs
set_option maxRecDepth 100000
set_option maxHeartbeats 1000000
def MoveOk:Prop:= ∀(h:Hp) (base words:Int),h.ok→U64 base→Fit words→VC Try.prog 46 false [hpV h,vu base,vi words] (.tup [hpV (moveR h base words).1,vi (moveR h base words).2])
def ex20:Hp:=⟨10,5,0,false,2,[2,6],[],[],[],[21]⟩
def ey20:Hp:=⟨100,9,0,false,2,[2,6],[],[],[],[201]⟩
theorem ex20_ok:ex20.ok:=by refine⟨?_,?_,?_,?_,?_,?_,?_,?_,?_,?_,?_,?_,?_,?_⟩<;>simp[ex20,U64,Fit]
theorem ey20_ok:ey20.ok:=by refine⟨?_,?_,?_,?_,?_,?_,?_,?_,?_,?_,?_,?_,?_,?_⟩<;>simp[ey20,U64,Fit]
theorem awake20_vc(hM:MoveOk):VC Try.prog 43 false [] (.bool true):=by
 refine vc_of_wp Try.func43 follows (by kernel_rfl) c43 rfl ?_
 have r1:moveR ex20 100 9=(ey20,0):=by decide+kernel
 have r2:moveR ex20 100 4=(Hp.zero,8):=by decide+kernel
 have r3:moveR ex20 0 9=(Hp.zero,1):=by decide+kernel
 have r4:moveR ex20 9223372036854775808 9=(Hp.zero,9):=by decide+kernel
 have m1:=hM ex20 100 9 ex20_ok (by simp[U64]) (by simp[Fit])
 have m2:=hM ex20 100 4 ex20_ok (by simp[U64]) (by simp[Fit])
 have m3:=hM ex20 0 9 ex20_ok (by simp[U64]) (by simp[Fit])
 have m4:=hM ex20 9223372036854775808 9 ex20_ok (by simp[U64]) (by simp[Fit])
 rw[r1]at m1
 rw[r2]at m2
 rw[r3]at m3
 rw[r4]at m4
 have q1:ptrM ⟨10,5,0,0,1,0,0⟩ ⟨20,9,0,0,2,0,0⟩ 29=(55,0):=by decide+kernel
 have q2:ptrM ⟨10,5,0,0,1,0,0⟩ ⟨20,9,0,0,0,0,0⟩ 29=(0,6):=by decide+kernel
 have p1:=ptrM_vc (f:=⟨10,5,0,0,1,0,0⟩) (t:=⟨20,9,0,0,2,0,0⟩) (w:=29) (by simp[Ly.fits,U64,Fit]) (by simp[Ly.fits,U64,Fit]) (by simp[U64])
 have p2:=ptrM_vc (f:=⟨10,5,0,0,1,0,0⟩) (t:=⟨20,9,0,0,0,0,0⟩) (w:=29) (by simp[Ly.fits,U64,Fit]) (by simp[Ly.fits,U64,Fit]) (by simp[U64])
 rw[q1]at p1
 rw[q2]at p2
 have s1:=sameH_vc (b:=ey20) ey20_ok
 simp only[hpV,ex20,ey20,Hp.zero,lyV,List.map_cons,List.map_nil]at m1 m2 m3 m4 p1 p2 s1
 simp[p43]
 refine callW_of m1 (by simp) ?_
 simp
 refine callW_of m2 (by simp) ?_
 simp
 refine callW_of m3 (by simp) ?_
 simp
 refine callW_of m4 (by simp) ?_
 simp
 refine callW_of p1 (by simp) ?_
 simp
 refine callW_of p2 (by simp) ?_
 simp
 refine callW_of s1 (by simp) ?_
 simp
theorem stand_cap{x:Rw}(hx:x.ok)(cycle:Bool):(standB x cycle).h.cap≤200:=by
 obtain⟨hb1,hb2,hb3⟩:=mkG_bounds x.nodes x.roots
 have hb5:=mkG_nodes x.nodes x.roots
 unfold standB
 generalize mkG x.nodes x.roots=g at*
 have hsz: ∀n∈g.nodes,sizN n≤9:=fun n hn=>by have:=hb3 n hn;unfold sizN;omega
 obtain⟨s1,s2,s3,s4⟩:=stN_bound (x:=x) (cycle:=cycle) hsz g.nodes.length (Nat.le_refl _)
 dsimp only
 generalize stN x cycle g g.nodes.length=s at*
 have hsl:=pick_lt (c:=x.slack) (n:=12) (by omega)
 omega
theorem heapX_cap{x:Rw}(hx:x.ok):(heapX x).cap≤200:=by
 have key: ∀c,(fillH x (standB x c)).cap≤200:=fun c=>by
  obtain⟨h1,h2,h3⟩:=stand_ok hx c
  obtain⟨_,k2,_,_⟩:=fillH_ok (x:=x) h1 h2
  have e:(fillH x (standB x c)).cap=(standB x c).h.cap:=congrArg Ly.cap k2
  rw[e]
  exact stand_cap hx c
 unfold heapX stillX
 split
 ·exact key false
 ·exact key true
theorem place_mv{h:Hp}(hc:0≤h.cap∧h.cap≤4000){base more:Int}(hb:U64 base):MvOk h (placeB h base more) (placeN h more)∧U64 (placeB h base more)∧Fit (placeN h more)∧placeN h more≤h.cap+19:=by
 have hp:=pick_lt (c:=more) (n:=20) (by omega)
 unfold placeB placeN
 generalize pick more 20=q at*
 obtain⟨hb1,hb2⟩:=hb
 have hm1:0≤base.tmod (9223372036854775808-2*(h.cap+q))∧base.tmod (9223372036854775808-2*(h.cap+q)) <9223372036854775808-2*(h.cap+q):=by
  rw[Int.tmod_eq_emod_of_nonneg hb1]
  exact⟨Int.emod_nonneg _ (by omega),Int.emod_lt_of_pos _ (by omega)⟩
 refine⟨⟨?_,?_,?_,?_,?_⟩,⟨?_,?_⟩,⟨?_,?_⟩,?_⟩<;>omega
theorem movM_ok{h:Hp}(hh:h.ok){p:Pts}{base words:Int}(hb:U64 base)(hw:Fit words):(movM h p base words).ok:=by
 obtain⟨a1,a2,a3,a4,a5,a6,a7,a8,a9,b1,b2,b3,b4,b5⟩:=hh
 refine⟨hb,hw,a3,a4,?_,?_,?_,?_,?_,?_,?_,?_,?_,?_⟩
 ·show(mvL _ _ _ _).length≤_;rw[mvL_length];exact a5
 ·show(mvL _ _ _ _).length≤_;rw[mvL_length];exact a6
 ·show(mvL _ _ _ _).length≤_;rw[mvL_length];exact a7
 ·show(mvL _ _ _ _).length≤_;rw[mvL_length];exact a8
 ·show(h.roots.map _).length≤_;rw[List.length_map];exact a9
 ·exact mvL_u b1
 ·exact mvL_u b2
 ·exact mvL_u b3
 ·exact mvL_u b4
 ·intro w hw
  obtain⟨v,_,rfl⟩:=List.mem_map.1 hw
  exact ptrM_u _ _ _
end Vm
end
section
namespace Vm
open Go
open Go.Proofs
set_option maxRecDepth 100000
def p14:Fn:=⟨39,[0,1,2,3,6,7,8,9,10,11,12,57,13,14,15,66,16,17,90,18,92,19,20,21,22,115,23,119,24,25,130,26,144,27,165,28,29,177,184],
(.seq
(.reg ⟨[],[],[(3,.m [(.fld (.sz (.s 0) 7) 0),(.fld (.sz (.s 0) 7) 1),(.fld (.sz (.s 0) 7) 2),(.fld (.sz (.s 0) 7) 3),(.fld (.sz (.s 0) 7) 4),(.fld (.sz (.s 0) 7) 5),(.fld (.sz (.s 0) 7) 6)]),(4,.v (.c (.bool false)))]⟩)
(.seq
(.reg ⟨[.call 39 [] (.id 43) false false []],[],[(5,.v (.s 39))]⟩)
(.seq
(.reg ⟨[.call 40 [] (.id 16) false false [(.mm 3 0 7)]],[],[(6,.m [(.fld (.sz (.s 40) 10) 0),(.fld (.sz (.s 40) 10) 1),(.fld (.sz (.s 40) 10) 2),(.fld (.sz (.s 40) 10) 3),(.fld (.sz (.s 40) 10) 4),(.fld (.sz (.s 40) 10) 5),(.fld (.sz (.s 40) 10) 6),(.fld (.sz (.s 40) 10) 7),(.fld (.sz (.s 40) 10) 8),(.fld (.sz (.s 40) 10) 9)])]⟩)
(.seq
(.reg ⟨[.call 41 [] (.id 44) false false [(.mm 6 0 10),(.s 1),(.s 2)]],[],[(7,.v (.ext (.s 41) 0)),(8,.v (.ext (.s 41) 1))]⟩)
(.seq
(.reg ⟨[.call 42 [] (.id 46) false false [(.mm 6 0 10),(.s 7),(.s 8)]],[],[(9,.m [(.fld (.sz (.ext (.s 42) 0) 10) 0),(.fld (.sz (.ext (.s 42) 0) 10) 1),(.fld (.sz (.ext (.s 42) 0) 10) 2),(.fld (.sz (.ext (.s 42) 0) 10) 3),(.fld (.sz (.ext (.s 42) 0) 10) 4),(.fld (.sz (.ext (.s 42) 0) 10) 5),(.fld (.sz (.ext (.s 42) 0) 10) 6),(.fld (.sz (.ext (.s 42) 0) 10) 7),(.fld (.sz (.ext (.s 42) 0) 10) 8),(.fld (.sz (.ext (.s 42) 0) 10) 9)]),(10,.v (.ext (.s 42) 1))]⟩)
(.seq
(.seq
(.reg ⟨[.lt 43 [] (.bin .neq (.s 10) (.c (.int .i64 (0))))],[([(43,false)],(.bin .neq (.len (.m 9 9)) (.len (.m 6 9))))],[(11,.v (.ite (.s 43) (.c (.bool true)) (.bin .neq (.len (.m 9 9)) (.len (.m 6 9)))))]⟩)
(.cond (.s 11)
 (.seq
 (.reg ⟨[],[],[(4,.v (.c (.bool false)))]⟩)
 .ret)
 .skip))
(.seq
(.reg ⟨[.call 44 [] (.id 38) false false [(.mm 6 0 10)]],[],[(12,.m [(.fld (.sz (.s 44) 7) 0),(.fld (.sz (.s 44) 7) 1),(.fld (.sz (.s 44) 7) 2),(.fld (.sz (.s 44) 7) 3),(.fld (.sz (.s 44) 7) 4),(.fld (.sz (.s 44) 7) 5),(.fld (.sz (.s 44) 7) 6)])]⟩)
(.seq
(.reg ⟨[.call 45 [] (.id 38) false false [(.mm 9 0 10)]],[],[(13,.m [(.fld (.sz (.s 45) 7) 0),(.fld (.sz (.s 45) 7) 1),(.fld (.sz (.s 45) 7) 2),(.fld (.sz (.s 45) 7) 3),(.fld (.sz (.s 45) 7) 4),(.fld (.sz (.s 45) 7) 5),(.fld (.sz (.s 45) 7) 6)])]⟩)
(.seq
(.seq
(.reg ⟨[],[],[(14,.v (.c (.int .i64 (0))))]⟩)
(.block 0
 (.loop [0,1,2,3,4,5,6,7,8,9,10,11,12,13,14]
  (.seq
  (.seq
  (.reg ⟨[],[],[(15,.v (.bin .lss (.s 14) (.len (.m 6 9))))]⟩)
  (.cond (.s 15)
   .skip
   (.exit 0)))
  (.seq
  (.block 1
   (.seq
   (.reg ⟨[.call 46 [] (.id 49) false false [(.mm 12 0 7),(.mm 13 0 7),(.fld (.idx (.m 6 9) (.s 14) 1) 0)]],[],[(16,.v (.ext (.s 46) 0)),(17,.v (.ext (.s 46) 1))]⟩)
   (.seq
   (.reg ⟨[.lt 47 [] (.bin .neq (.s 17) (.c (.int .i64 (0))))],[([(47,false)],(.bin .neq (.fld (.idx (.m 9 9) (.s 14) 1) 0) (.s 16)))],[(18,.v (.ite (.s 47) (.c (.bool true)) (.bin .neq (.fld (.idx (.m 9 9) (.s 14) 1) 0) (.s 16))))]⟩)
   (.cond (.s 18)
    (.seq
    (.reg ⟨[],[],[(4,.v (.c (.bool false)))]⟩)
    .ret)
    .skip))))
  (.reg ⟨[],[],[(14,.v (.bin .add (.s 14) (.c (.int .i64 (1)))))]⟩))))))
(.seq
(.seq
(.reg ⟨[],[],[(19,.v (.c (.int .i64 (1))))]⟩)
(.block 2
 (.loop [0,1,2,3,4,5,6,7,8,9,10,11,12,13,14,15,19]
  (.seq
  (.seq
  (.reg ⟨[],[],[(20,.v (.bin .leq (.s 19) (.c (.int .i64 (4)))))]⟩)
  (.cond (.s 20)
   .skip
   (.exit 2)))
  (.seq
  (.block 3
   (.seq
   (.reg ⟨[.call 48 [] (.id 28) false false [(.mm 6 0 10),(.s 19)]],[],[(21,.v (.s 48))]⟩)
   (.seq
   (.reg ⟨[.call 49 [] (.id 28) false false [(.mm 9 0 10),(.s 19)]],[],[(22,.v (.s 49))]⟩)
   (.seq
   (.reg ⟨[.call 50 [] (.id 34) false false [(.mm 6 0 10),(.s 19)]],[],[(23,.v (.ext (.s 50) 0)),(24,.v (.ext (.s 50) 1))]⟩)
   (.seq
   (.seq
   (.reg ⟨[.lt 51 [] (.bin .neq (.s 24) (.c (.int .i64 (0))))],[([(51,false)],(.bin .neq (.len (.s 21)) (.len (.s 22))))],[(25,.v (.ite (.s 51) (.c (.bool true)) (.bin .neq (.len (.s 21)) (.len (.s 22)))))]⟩)
   (.cond (.s 25)
    (.seq
    (.reg ⟨[],[],[(4,.v (.c (.bool false)))]⟩)
    .ret)
    .skip))
   (.seq
   (.reg ⟨[],[],[(26,.v (.c (.int .i64 (0))))]⟩)
   (.block 4
    (.loop [0,1,2,3,4,5,6,7,8,9,10,11,12,13,14,15,19,20,21,22,23,24,25,26]
     (.seq
     (.seq
     (.reg ⟨[],[],[(27,.v (.bin .lss (.s 26) (.len (.s 23))))]⟩)
     (.cond (.s 27)
      .skip
      (.exit 4)))
     (.seq
     (.block 5
      (.seq
      (.reg ⟨[],[],[(28,.m [(.fld (.flds (.idx (.s 23) (.s 26) 5) 0 5) 0),(.fld (.flds (.idx (.s 23) (.s 26) 5) 0 5) 1),(.fld (.flds (.idx (.s 23) (.s 26) 5) 0 5) 2),(.fld (.flds (.idx (.s 23) (.s 26) 5) 0 5) 3),(.fld (.flds (.idx (.s 23) (.s 26) 5) 0 5) 4)])]⟩)
      (.seq
      (.reg ⟨[],[],[(29,.v (.c (.int .i64 (0))))]⟩)
      (.block 6
       (.loop [0,1,2,3,4,5,6,7,8,9,10,11,12,13,14,15,19,20,21,22,23,24,25,26,27,28,29]
        (.seq
        (.seq
        (.reg ⟨[],[],[(30,.v (.bin .leq (.s 29) (.m 28 1)))]⟩)
        (.cond (.s 30)
         .skip
         (.exit 6)))
        (.seq
        (.block 7
         (.seq
         (.reg ⟨[],[],[(31,.v (.bin .add (.m 28 0) (.s 29)))]⟩)
         (.seq
         (.seq
         (.reg ⟨[.lt 52 [] (.bin .lss (.s 31) (.c (.int .i64 (0))))],[([(52,false)],(.bin .geq (.s 31) (.len (.s 21))))],[(32,.v (.ite (.s 52) (.c (.bool true)) (.bin .geq (.s 31) (.len (.s 21)))))]⟩)
         (.cond (.s 32)
          (.seq
          (.reg ⟨[],[],[(4,.v (.c (.bool false)))]⟩)
          .ret)
          .skip))
         (.seq
         (.reg ⟨[],[],[(33,.v (.fld (.idx (.s 21) (.s 31) 1) 0))]⟩)
         (.seq
         (.seq
         (.reg ⟨[.lt 53 [] (.bin .eql (.s 29) (.c (.int .i64 (0)))),.lt 54 [] (.ite (.s 53) (.m 28 3) (.c (.bool false))),.lt 55 [(54,false)] (.bin .gtr (.s 29) (.c (.int .i64 (0))))],[([(53,true)],(.m 28 3)),([(54,false),(55,true)],(.bin .leq (.s 29) (.m 28 2))),([(54,false)],(.ite (.s 55) (.bin .leq (.s 29) (.m 28 2)) (.c (.bool false))))],[(34,.v (.ite (.s 54) (.c (.bool true)) (.ite (.s 55) (.bin .leq (.s 29) (.m 28 2)) (.c (.bool false)))))]⟩)
         (.cond (.s 34)
          (.seq
          (.reg ⟨[.call 56 [] (.id 49) false false [(.mm 12 0 7),(.mm 13 0 7),(.fld (.idx (.s 21) (.s 31) 1) 0)]],[],[(35,.v (.ext (.s 56) 0)),(36,.v (.ext (.s 56) 1))]⟩)
          (.seq
          (.seq
          (.reg ⟨[],[],[(37,.v (.bin .neq (.s 36) (.c (.int .i64 (0)))))]⟩)
          (.cond (.s 37)
           (.seq
           (.reg ⟨[],[],[(4,.v (.c (.bool false)))]⟩)
           .ret)
           .skip))
          (.reg ⟨[],[],[(33,.v (.s 35))]⟩)))
          .skip))
         (.seq
         (.reg ⟨[],[],[(38,.v (.bin .neq (.fld (.idx (.s 22) (.s 31) 1) 0) (.s 33)))]⟩)
         (.cond (.s 38)
          (.seq
          (.reg ⟨[],[],[(4,.v (.c (.bool false)))]⟩)
          .ret)
          .skip)))))))
        (.reg ⟨[],[],[(29,.v (.bin .add (.s 29) (.c (.int .i64 (1)))))]⟩))))))))
     (.reg ⟨[],[],[(26,.v (.bin .add (.s 26) (.c (.int .i64 (1)))))]⟩)))))))))))
  (.reg ⟨[],[],[(19,.v (.bin .add (.s 19) (.c (.int .i64 (1)))))]⟩))))))
(.seq
(.reg ⟨[],[],[(4,.v (.s 5))]⟩)
.ret))))))))))),
[(4,.v)]⟩
theorem c14:compFn Try.prog fresh sig [.fz,.fz,.fz] [] Try.f14=some p14:=by kernel_rfl
end Vm
end
section
namespace Vm
open Go Go.Proofs
set_option maxRecDepth 100000
set_option maxHeartbeats 1000000
section
variable {h:Hp} {p:Pts} {base words:Int}
theorem mv_ptr(r:Body h p)(l:LkL (layH h) (layH {h with base:=base,cap:=words})){k:Int}(hk:1≤k∧k≤4){o:Ob}(ho:o∈p.at k){a j:Nat}(ea:o.at_=a)(hj:(j:Int)≤o.size)(hp:(j=0∧o.gone=true)∨(0<j∧(j:Int)≤o.ptrs)){w:Int}(hw:(partH h k)[a+j]? =some w):
  (ptrM (layH h) (layH {h with base:=base,cap:=words}) w).2=0∧(partH (movM h p base words) k)[a+j]? =some (ptrM (layH h) (layH {h with base:=base,cap:=words}) w).1:=by
 obtain⟨a',n,m,ea',en,em,hal,_,hmn⟩:=r.toTld.ob hk ho
 have:a'=a:=by omega
 subst this
 rw[partH_mv hk]
 by_cases hq:isP o (a'+j)
 ·rw[mvL_ptr ho hq,hw]
  exact⟨l.err (isP_form r hk ho hq hw),rfl⟩
 ·cases hg:o.gone with
  |false=>
   rw[hg]at hp
   rcases hp with ⟨_,h0⟩ | ⟨h0,h1⟩
   ·cases h0
   ·exact absurd (.inr ⟨hg,by omega,by omega⟩) hq
  |true=>
   have hj0:j≠0:=by
    rintro rfl
    exact hq (.inl ⟨hg,by omega⟩)
   obtain⟨i,rfl⟩: ∃i,j=i+1:=⟨j-1,by omega⟩
   obtain⟨w',hw',hz⟩:=r.toTld.slot hk ho (j:=i) (by omega)
   rw[ea,Int.toNat_natCast,show a'+1+i=a'+(i+1)by omega,hw]at hw'
   cases hw'
   rw[hz hg,ptrM_zero l.hf l.ht]
   refine⟨rfl,?_⟩
   rw[mvL_no,hw,hz hg]
   intro x hx hq2
   have:=isP_one r.toTld hk ho hx hq2 (by omega) (by omega)
   subst this
   exact hq hq2
theorem mv_word(r:Body h p){k:Int}(hk:1≤k∧k≤4){o:Ob}(ho:o∈p.at k){a j:Nat}(ea:o.at_=a)(hj:(j:Int)≤o.size)(hp: ¬((j=0∧o.gone=true)∨(0<j∧(j:Int)≤o.ptrs))):
  (partH (movM h p base words) k)[a+j]? =(partH h k)[a+j]? :=by
 obtain⟨a',n,m,ea',en,em,hal,_,hmn⟩:=r.toTld.ob hk ho
 have:a'=a:=by omega
 subst this
 rw[partH_mv hk]
 refine mvL_no fun x hx hq2=> ?_
 have:=isP_one r.toTld hk ho hx hq2 (by omega) (by omega)
 subst this
 rcases hq2 with ⟨hg,e⟩ | ⟨hg,h1,h2⟩
 ·exact hp (.inl ⟨by omega,hg⟩)
 ·exact hp (.inr ⟨by omega,by omega⟩)
end
theorem law20Words(hM:MoveOk){x:Rw}(hx:x.ok){base more:Int}(hb:U64 base)(hm:Fit more):VC Try.prog 14 false [rwV x,vu base,vi more] (.bool true):=by
 refine vc_of_wp Try.func14 follows (by kernel_rfl) c14 rfl ?_
 simp[p14]
 refine callW_of (awake20_vc hM) (by simp) ?_
 simp
 have kh:=Heap_vc hx
 unfold rwV at kh
 refine callW_of kh (by simp) ?_
 obtain⟨hh,hl,hro⟩:=heapX_ok hx
 have hcap:=heapX_cap hx
 obtain⟨p,r⟩:=right_iff.1 (heapX_right hx)
 generalize heapX x=h at*
 have hc0:0≤h.cap:=(rightL_iff.1 hl).1
 have q2:=Place_vc (h:=h) (by omega) hb hm
 obtain⟨m2,u2,f2,_⟩:=place_mv (h:=h) (by omega) (base:=base) (more:=more) hb
 have k2:=hM h (placeB h base more) (placeN h more) hh u2 f2
 rw[moveR_ok r m2]at k2
 have okg:=movM_ok hh (p:=p) u2 f2
 have rg:=r.mv m2 u2.1
 have lk:=m2.like u2.1 hl
 generalize placeB h base more=tb_ at*
 generalize placeN h more=room at*
 have hptr:=fun {k:Int} (hk:1≤k∧k≤4) {o:Ob} (ho:o∈p.at k) {a j:Nat} (ea:o.at_=a) (hj:(j:Int)≤o.size) (hp:(j=0∧o.gone=true)∨(0<j∧(j:Int)≤o.ptrs)) {w:Int} (hw:(partH h k)[a+j]? =some w)=>mv_ptr (base:=tb_) (words:=room) r.toBody lk hk ho ea hj hp hw
 have hwrd:=fun {k:Int} (hk:1≤k∧k≤4) {o:Ob} (ho:o∈p.at k) {a j:Nat} (ea:o.at_=a) (hj:(j:Int)≤o.size) (hp: ¬((j=0∧o.gone=true)∨(0<j∧(j:Int)≤o.ptrs)))=>mv_word (base:=tb_) (words:=room) r.toBody hk ho ea hj hp
 have hlen: ∀k:Int,1≤k∧k≤4→(partH (movM h p tb_ room) k).length=(partH h k).length:=fun k hk=>by rw[partH_mv hk,mvL_length]
 have hrt:(movM h p tb_ room).roots=h.roots.map fun w=>(ptrM (layH h) (layH {h with base:=tb_,cap:=room}) w).1:=rfl
 have hrz: ∀w∈h.roots,(ptrM (layH h) (layH {h with base:=tb_,cap:=room}) w).2=0:=fun w hw=>lk.err (gos_form r.toTld (by omega) (by omega) (r.roots w hw))
 have l1:=refLayout_vc (h:=h)
 have l2:=refLayout_vc (h:=movM h p tb_ room)
 rw[layH_mv]at l2
 have ff:=hh.lay
 have ft:=okg.lay
 rw[layH_mv]at ft
 have kp:=fun w hw=>ptrM_vc (w:=w) ff ft hw
 generalize hgt:movM h p tb_ room=g at*
 generalize layH {h with base:=tb_,cap:=room}=t at*
 generalize hlf:layH h=f at*
 simp only[hpV,lyV]at k2 q2 l1 l2 kp
 simp
 refine callW_of q2 (by simp) ?_
 simp
 refine callW_of k2 (by simp) ?_
 have hrl:g.roots.length=h.roots.length:=by rw[hrt,List.length_map]
 simp[hrl]
 refine callW_of l1 (by simp) ?_
 simp
 refine callW_of l2 (by simp) ?_
 simp
 refine wpS_for0 14 h.roots.length (fun _=>True) (by simp) (by simp) trivial ?_
 intro i hi _
 have hwi:=wrap_i ((i:Int)+1) (by have:=hh.roots;omega) (by have:=hh.roots;omega)
 by_cases hlt:i<h.roots.length
 ·have hxi:h.roots[i]? =some h.roots[i]:=List.getElem?_eq_getElem hlt
  have hgi:g.roots[i]? =some (ptrM f t h.roots[i]).1:=by rw[hrt,List.getElem?_map,hxi];rfl
  have hpi:=kp _ (hh.rootsW _ (List.getElem_mem hlt))
  have hz:=hrz _ (List.getElem_mem hlt)
  generalize h.roots[i]=v at*
  rw[hz]at hpi
  have hlt2:i<g.roots.length:=by omega
  simp[hlt,hlt2,hxi,hgi,at_of hxi,at_of hgi]
  refine callW_of hpi (by simp) ?_
  simp[hlt,hlt2,hxi,hgi,at_of hxi,at_of hgi,hwi]
 have:i=h.roots.length:=by omega
 subst this
 simp
 refine wpS_loopP (fun k:Nat=> [(19,.v (vi ((k+1:Nat):Int)))]) (fun k=>k≤4) (cnt 19 5) 0 (by simp) (by simp) ?_
 intro k hk
 by_cases hk4:k=4
 ·subst hk4
  simp
 have hki:1≤((k+1:Nat):Int)∧((k+1:Nat):Int)≤4:=by omega
 have wk:=wrap_i (((k+1:Nat):Int)+1) (by omega) (by omega)
 have pa:=Part_vc (h:=h) (n:=((k+1:Nat):Int))
 have pb:=Part_vc (h:=g) (n:=((k+1:Nat):Int))
 have ob:=CO_vc hh (k:=((k+1:Nat):Int))
 have hol:=objsR_len hh ((k+1:Nat):Int)
 rw[r.objs hki]at ob hol
 have hlk:=hlen _ hki
 have tob:=fun {o:Ob} (ho:o∈p.at ((k+1:Nat):Int))=>r.toTld.ob hki ho
 have hptr:=fun {o:Ob} (ho:o∈p.at ((k+1:Nat):Int)) {a j:Nat} (ea:o.at_=a)=>hptr hki ho (j:=j) ea
 have hwrd:=fun {o:Ob} (ho:o∈p.at ((k+1:Nat):Int)) {a j:Nat} (ea:o.at_=a)=>hwrd hki ho (j:=j) ea
 have hpu:=(partH_ok hh ((k+1:Nat):Int))
 generalize hk1:k+1=k1 at*
 have hk14:(k1:Int)≤4:=by omega
 generalize p.at (k1:Int)=l at*
 generalize partH h (k1:Int)=A at*
 generalize partH g (k1:Int)=B at*
 simp only[hpV]at pa pb ob hol
 simp[hk14]
 refine callW_of pa (by simp) ?_
 simp
 refine callW_of pb (by simp) ?_
 simp
 refine callW_of ob (by simp) ?_
 simp[hlk]
 refine wpS_for0 26 l.length (fun _=>True) (by simp) (by simp) trivial ?_
 intro i hi _
 have hwi:=wrap_i ((i:Int)+1) (by omega) (by omega)
 by_cases hlt:i<l.length
 case neg=>
  have:i=l.length:=by omega
  subst this
  simp[hk14,wk]
  exact⟨k+1,by omega,by rw[←hk1],by simp[cnt];omega⟩
 have hxi:l[i]? =some l[i]:=List.getElem?_eq_getElem hlt
 have hom:=List.getElem_mem hlt
 generalize l[i]=o at*
 obtain⟨a,n,m,ea,en,em,hal,hn5,hmn⟩:=tob hom
 simp[hlt,hxi,at_of hxi,ea,en,em]
 refine wpS_for0 29 (n+1) (fun _=>True) (by simp) (by simp) trivial ?_
 intro j hj _
 have hwj:=wrap_i ((j:Int)+1) (by omega) (by omega)
 by_cases hjn:j<n+1
 case neg=>
  have:j=n+1:=by omega
  subst this
  simp[hlt,hwi,en,show ¬((n:Int)+1≤n)by omega]
 obtain⟨z,hz⟩: ∃z:Nat,a+j=z:=⟨_,rfl⟩
 have wz:IntKind.i64.wrap ((a:Int)+j)=(z:Int):=by rw[wrap_i _ (by omega) (by omega)];omega
 have hzl:z<A.length:=by omega
 have hzb:z<B.length:=by omega
 have hzv:A[z]? =some A[z]:=List.getElem?_eq_getElem hzl
 have hzw:B[z]? =some B[z]:=List.getElem?_eq_getElem hzb
 have hku:=kp _ (hpu.1 _ (List.getElem_mem hzl))
 have h1:=hptr hom (j:=j) ea (by omega)
 have h2:=hwrd hom (j:=j) ea (by omega)
 rw[hz]at h1 h2
 generalize A[z]=v at*
 generalize B[z]=u at*
 have hjn':(j:Int)≤n:=by omega
 rw[em]at h1 h2
 have hnz: ¬(A.length:Int)≤z:=by omega
 by_cases hp:(j=0∧o.gone=true)∨(0<j∧(j:Int)≤m)
 ·obtain⟨z1,z2⟩:=h1 hp hzv
  rw[hzw]at z2
  cases z2
  rw[z1]at hku
  by_cases hj0:j=0
  ·subst hj0
   have hg:o.gone=true:=by
    rcases hp with ⟨_,e⟩ | ⟨e,_⟩
    ·exact e
    ·omega
   have ez:z=a:=by omega
   subst ez
   have wa:=wrap_i (z:Int) (by omega) (by omega)
   have wo:=wrap_i (1:Int) (by omega) (by omega)
   simp[hjn',ea,en,em,hg,wa,wo,hnz,hzl,hzb,hzv,hzw,at_of hzv,at_of hzw,hlk,show ¬(z:Int) <0 by omega]
   refine callW_of hku (by simp) ?_
   simp[hjn',ea,en,em,hg,wa,wo,hnz,hzl,hzb,hzv,hzw,at_of hzv,at_of hzw,hlk,show ¬(z:Int) <0 by omega]
  ·have hjm:(j:Int)≤m:=by
    rcases hp with ⟨e,_⟩ | ⟨_,e⟩
    ·omega
    ·exact e
   have hjp:0<j:=by omega
   simp[hjn',ea,en,em,hj0,hjm,hjp,wz,hnz,hzl,hzb,hzv,hzw,at_of hzv,at_of hzw,hlk,show ¬(z:Int) <0 by omega,show(0:Int) <j by omega]
   refine callW_of hku (by simp) ?_
   simp[hjn,hjn',ea,en,em,hj0,hjm,hjp,wz,hwj,hnz,hzl,hzb,hzv,hzw,at_of hzv,at_of hzw,hlk]
 ·have z2:=h2 hp
  rw[hzv,hzw]at z2
  cases z2
  by_cases hj0:j=0
  ·subst hj0
   have hg:o.gone=false:=by
    cases e:o.gone
    ·rfl
    ·exact absurd (.inl ⟨rfl,e⟩) hp
   have ez:z=a:=by omega
   subst ez
   have wa:=wrap_i (z:Int) (by omega) (by omega)
   have wo:=wrap_i (1:Int) (by omega) (by omega)
   simp[hjn',ea,en,em,hg,wa,wo,hnz,hzl,hzb,hzv,hzw,at_of hzv,at_of hzw,hlk,show ¬(z:Int) <0 by omega]
  ·have hjm: ¬(j:Int)≤m:=fun e=>hp (.inr ⟨by omega,e⟩)
   have hjp:0<j:=by omega
   simp[hjn',ea,en,em,hj0,hjm,hjp,wz,hnz,hzl,hzb,hzv,hzw,at_of hzv,at_of hzw,hlk,show ¬(z:Int) <0 by omega,show(0:Int) <j by omega]
   exact⟨hjn,hwj⟩
end Vm
end
section
namespace Vm
open Go Go.Proofs Go.RowKit
set_option maxHeartbeats 4000000
set_option maxRecDepth 100000
end Vm
namespace Vm
open Go Go.Proofs Go.RowKit
set_option maxHeartbeats 4000000
set_option maxRecDepth 100000
end Vm
namespace Vm
open Go Go.Proofs Go.RowKit
set_option maxHeartbeats 4000000
set_option maxRecDepth 100000
theorem zero_rd(w':World)(G:Nat→Prop): ∀j,j<5→Rd w' G (.sl ((lsH Hp.zero j).map vu)) (.slice none 0 0):=fun j hj=>by
 have:lsH Hp.zero j= []:=by
  unfold lsH Hp.zero
  split
  ·rfl
  split
  ·rfl
  split
  ·rfl
  split<;>rfl
 rw[this]
 exact .nil _ _ (by unfold maxLen;omega)
def zeroA:Array Value:= #[Value.int IntKind.u64 0,Value.int IntKind.i64 0,Value.int IntKind.i64 0,Value.bool false,Value.int IntKind.i64 0,Value.slice none 0 0,Value.slice none 0 0,Value.slice none 0 0,Value.slice none 0 0,Value.slice none 0 0]
theorem zero_new(w:World)(o:Obj):((w.alloc o).alloc (.cells #[Value.int IntKind.u64 0,Value.int IntKind.i64 0,Value.int IntKind.i64 0,Value.bool false,Value.int IntKind.i64 0,Value.slice none 0 0,Value.slice none 0 0,Value.slice none 0 0,Value.slice none 0 0,Value.slice none 0 0] 31)).heap[w.heap.size+1]? =some (.cells zeroA 31 (0,0)):=by
 have e:(w.alloc o).heap.size=w.heap.size+1:=by simp
 have:=heap_alloc_new (w.alloc o) (.cells zeroA 31)
 rw[e]at this
 exact this
theorem put10_blk{w2:World}{b:Nat}{T:TypeId}(hb:w2.heap[b]? =some (.cells zeroA T (0,0)))(v0 v1 v2 v3 v4 v5 v6 v7 v8 v9:Value):((((((((((w2.setCell ⟨b,0,none⟩ v0).setCell ⟨b,1,none⟩ v1).setCell ⟨b,2,none⟩ v2).setCell ⟨b,3,none⟩ v3).setCell ⟨b,4,none⟩ v4).setCell ⟨b,5,none⟩ v5).setCell ⟨b,6,none⟩ v6).setCell ⟨b,7,none⟩ v7).setCell ⟨b,8,none⟩ v8).setCell ⟨b,9,none⟩ v9).heap[b]? =some (.cells #[v0,v1,v2,v3,v4,v5,v6,v7,v8,v9] T (0,0)):=by
 unfold zeroA at hb
 simp[World.setCell,Array.getElem?_modify,hb]
theorem put10_cells{w2:World}{b:Nat}{T:TypeId}(hb:w2.heap[b]? =some (.cells zeroA T (0,0)))(v0 v1 v2 v3 v4 v5 v6 v7 v8 v9:Value)(j:Nat):((((((((((w2.setCell ⟨b,0,none⟩ v0).setCell ⟨b,1,none⟩ v1).setCell ⟨b,2,none⟩ v2).setCell ⟨b,3,none⟩ v3).setCell ⟨b,4,none⟩ v4).setCell ⟨b,5,none⟩ v5).setCell ⟨b,6,none⟩ v6).setCell ⟨b,7,none⟩ v7).setCell ⟨b,8,none⟩ v8).setCell ⟨b,9,none⟩ v9).cell? ⟨b,j,none⟩=(#[v0,v1,v2,v3,v4,v5,v6,v7,v8,v9]:Array Value)[j]? :=
 cell_of_row _ _ _ _ _ _ (put10_blk hb v0 v1 v2 v3 v4 v5 v6 v7 v8 v9)
theorem put10_below{B:Nat}{w0 w2:World}{b:Nat}(h:Below B w0 w2)(hb:B≤b)(v0 v1 v2 v3 v4 v5 v6 v7 v8 v9:Value):Below B w0 ((((((((((w2.setCell ⟨b,0,none⟩ v0).setCell ⟨b,1,none⟩ v1).setCell ⟨b,2,none⟩ v2).setCell ⟨b,3,none⟩ v3).setCell ⟨b,4,none⟩ v4).setCell ⟨b,5,none⟩ v5).setCell ⟨b,6,none⟩ v6).setCell ⟨b,7,none⟩ v7).setCell ⟨b,8,none⟩ v8).setCell ⟨b,9,none⟩ v9):=
 (((((((((h.setCell hb _).setCell hb _).setCell hb _).setCell hb _).setCell hb _).setCell hb _).setCell hb _).setCell hb _).setCell hb _).setCell hb _
theorem put10_other{w2:World}{b c:Nat}(hc:c≠b)(v0 v1 v2 v3 v4 v5 v6 v7 v8 v9:Value):((((((((((w2.setCell ⟨b,0,none⟩ v0).setCell ⟨b,1,none⟩ v1).setCell ⟨b,2,none⟩ v2).setCell ⟨b,3,none⟩ v3).setCell ⟨b,4,none⟩ v4).setCell ⟨b,5,none⟩ v5).setCell ⟨b,6,none⟩ v6).setCell ⟨b,7,none⟩ v7).setCell ⟨b,8,none⟩ v8).setCell ⟨b,9,none⟩ v9).heap[c]? =w2.heap[c]? :=by
 have: ¬b=c:=fun e=>hc e.symm
 simp[World.setCell,Array.getElem?_modify,this]
end Vm
namespace Vm
open Go Go.Proofs Go.RowKit
set_option maxHeartbeats 600000
set_option maxRecDepth 100000
end Vm
namespace Vm
open Go Go.Proofs Go.RowKit
set_option maxHeartbeats 4000000
set_option maxRecDepth 100000
end Vm
namespace Vm
open Go Go.Proofs Go.RowKit
set_option maxHeartbeats 1000000
set_option maxRecDepth 100000
theorem rd_int_inv{w:World}{G:Nat→Prop}{k:IntKind}{n:Int}{v:Value}(r:Rd w G (.int k n) v):v= .int k n:=by cases r;rfl
theorem rd_bool_inv{w:World}{G:Nat→Prop}{b:Bool}{v:Value}(r:Rd w G (.bool b) v):v= .bool b:=by cases r;rfl
theorem hp_src{w:World}{G:Nat→Prop}{h:Hp}{v:Value}(r:Rd w G (hpV h) v): ∃src,v=hpA h src∧ ∀j,j<5→Rd w G (.sl ((lsH h j).map vu)) (src j):=by
 cases r with
 |agg _ vs hl _ hr=>
  refine⟨fun j=>vs.getD (5+j) undef,?_,?_⟩
  ·have e0:=rd_int_inv (hr 0 _ rfl)
   have e1:=rd_int_inv (hr 1 _ rfl)
   have e2:=rd_int_inv (hr 2 _ rfl)
   have e3:=rd_bool_inv (hr 3 _ rfl)
   have e4:=rd_int_inv (hr 4 _ rfl)
   have hl':vs.size=10:=hl
   unfold hpA
   rw[←e0,←e1,←e2,←e3,←e4]
   congr 1
   apply Array.ext
   ·simp[hl']
   ·intro i h1 h2
    have hi:i<10:=by omega
    match i,hi with
    |0,_|1,_|2,_|3,_|4,_|5,_|6,_|7,_|8,_|9,_=>simp[Array.getD,hl']
  ·intro j hj
   match j,hj with
   |0,_=>exact hr 5 _ rfl
   |1,_=>exact hr 6 _ rfl
   |2,_=>exact hr 7 _ rfl
   |3,_=>exact hr 8 _ rfl
   |4,_=>exact hr 9 _ rfl
theorem hp_rd{w:World}{G:Nat→Prop}{h:Hp}{x:Nat→Value}(hr: ∀j,j<5→Rd w G (.sl ((lsH h j).map vu)) (x j)):Rd w G (hpV h) (hpA h x):=by
 refine .agg _ _ rfl (by simp[V.one]) ?_
 intro i y hy
 match i,hy with
 |0,hy=>cases hy;exact .int _ _
 |1,hy=>cases hy;exact .int _ _
 |2,hy=>cases hy;exact .int _ _
 |3,hy=>cases hy;exact .bool _
 |4,hy=>cases hy;exact .int _ _
 |5,hy=>cases hy;exact hr 0 (by omega)
 |6,hy=>cases hy;exact hr 1 (by omega)
 |7,hy=>cases hy;exact hr 2 (by omega)
 |8,hy=>cases hy;exact hr 3 (by omega)
 |9,hy=>cases hy;exact hr 4 (by omega)
end Vm
end
section
namespace Vm
open Go Go.Proofs Go.RowKit
set_option maxHeartbeats 2000000
set_option maxRecDepth 100000
theorem ptrM_calls{f t:Ly}(hf:f.fits)(ht:t.fits){x:Int}(hx:U64 x)(w:World):Calls Try.prog 49 #[lyA f,lyA t,.int .u64 x] w fun e w'=>e= .returned (.tuple #[.int .u64 (ptrM f t x).1,.int .i64 (ptrM f t x).2])∧Below w.heap.size w w':=
 calls_flat (ptrM_vc hf ht hx) rfl rfl w
theorem mvPs_far{f t:Ly}{ws out:List Int}{a n i:Nat}(h:i<a∨a+n≤i):(mvPs f t ws out a n)[i]? =out[i]? :=by
 induction n with
 |zero=>rfl
 |succ n ih=>
  rw[mvPs,List.getElem?_set,if_neg (by omega)]
  exact ih (by omega)
def lyC(l:Ly):Array Value:= #[.int .u64 l.base,.int .i64 l.cap,.int .i64 l.to,.int .i64 l.low,.int .i64 l.high,.int .i64 l.old,.int .i64 l.far]
theorem moved_walk(w:World){f t:Ly}(hf:f.fits)(ht:t.fits){ws:List Int}(hu: ∀x∈ws,U64 x)(hlen:ws.length≤1000000){lo m cap b B bf bt bw:Nat}(hl:lo+m≤ws.length)
  (ho:w.ownsRow B 24 1 (.slice (some ⟨b,0,none⟩) ws.length cap) ws.length (nums .u64 ws)) {T1 T2 T3:TypeId} (h1:w.heap[bf]? =some (.cells (lyC f) T1 (0,0))) (h2:w.heap[bt]? =some (.cells (lyC t) T2 (0,0)))
  (h3:w.heap[bw]? =some (.cells #[.int .i64 0] T3 (0,0))) (n1:bf≠b) (n2:bt≠b) (n3:bw≠b) (hz: ∀j,j<m→ ∀x,ws[lo+j]? =some x→(ptrM f t x).2=0):
  Calls Try.prog 80 #[.slice (some ⟨b,lo,none⟩) m (cap-lo),.pointer (some ⟨bf,0,none⟩),.pointer (some ⟨bt,0,none⟩),.pointer (some ⟨bw,0,none⟩)] w fun e w'=>
   e= .returned (.tuple #[])∧w.grownBy w' (some b)∧w'.ownsRow B 24 1 (.slice (some ⟨b,0,none⟩) ws.length cap) ws.length (nums .u64 (mvPs f t ws ws lo m)):=by
 have hcap:ws.length≤cap:=by
  rcases ho.2 with ⟨h',_⟩ | ⟨g',cap',cur,h',_,_,hc,_⟩
  ·simp at h'
  ·simp only[Value.slice.injEq,Option.some.injEq]at h'
   omega
 have H1:=Lib.hid h1
 have H2:=Lib.hid h2
 have H3:=Lib.hid h3
 have HO:=Lib.hid ho
 have HU:=Lib.hid hu
 clear h1 h2 h3 ho hu
 go_enter Try.func80,Try.ntmps80
 go_wp2
 go_loopw [11] (fun i wr=> ∃j:Nat,i= .int .i64 j∧j≤m∧Hid (w.grownBy wr (some b)∧wr.ownsRow B 24 1 (.slice (some ⟨b,0,none⟩) ws.length cap) ws.length (nums .u64 (mvPs f t ws ws lo j))))
  (fun i _=>m- (intOf i).toNat)
 case atStart=>exact⟨0,rfl,by omega,Lib.hid ⟨grown_of (Below.refl _ _) _,HO.out⟩⟩
 case round=>
  obtain⟨j,rfl,hj,HI⟩:=hrel
  by_cases hlt:j<m
  ·have hlt':((j:Int) <m)=True:=eq_true (by omega)
   obtain⟨x,hx⟩: ∃x,ws[lo+j]? =some x:=⟨_,List.getElem?_eq_getElem (by omega)⟩
   have hux:=HU.out x (List.mem_of_getElem? hx)
   have c0:wr.cell? ⟨b,lo+j,none⟩=some (.int .u64 x):=by
    have:=HI.out.2.cellAt (lo+j) (by omega)
    rw[this]
    simp[nums,mvPs_far (f:=f) (t:=t) (ws:=ws) (out:=ws) (a:=lo) (n:=j) (i:=lo+j) (by omega),hx]
   have f0:wr.frozen? ⟨b,lo+j,none⟩=false:=HI.out.2.frozenAt (lo+j)
   have b1:=(HI.out.1.block bf (heap_lt H1.out) (by simp[n1])).trans H1.out
   have b2:=(HI.out.1.block bt (heap_lt H2.out) (by simp[n2])).trans H2.out
   have b3:=(HI.out.1.block bw (heap_lt H3.out) (by simp[n3])).trans H3.out
   have p0:wr.cell? ⟨bf,0,none⟩=some (.int .u64 f.base):=by rw[cell_of_row _ _ _ _ _ _ b1];rfl
   have p1:wr.cell? ⟨bf,1,none⟩=some (.int .i64 f.cap):=by rw[cell_of_row _ _ _ _ _ _ b1];rfl
   have p2:wr.cell? ⟨bf,2,none⟩=some (.int .i64 f.to):=by rw[cell_of_row _ _ _ _ _ _ b1];rfl
   have p3:wr.cell? ⟨bf,3,none⟩=some (.int .i64 f.low):=by rw[cell_of_row _ _ _ _ _ _ b1];rfl
   have p4:wr.cell? ⟨bf,4,none⟩=some (.int .i64 f.high):=by rw[cell_of_row _ _ _ _ _ _ b1];rfl
   have p5:wr.cell? ⟨bf,5,none⟩=some (.int .i64 f.old):=by rw[cell_of_row _ _ _ _ _ _ b1];rfl
   have p6:wr.cell? ⟨bf,6,none⟩=some (.int .i64 f.far):=by rw[cell_of_row _ _ _ _ _ _ b1];rfl
   have q0:wr.cell? ⟨bt,0,none⟩=some (.int .u64 t.base):=by rw[cell_of_row _ _ _ _ _ _ b2];rfl
   have q1:wr.cell? ⟨bt,1,none⟩=some (.int .i64 t.cap):=by rw[cell_of_row _ _ _ _ _ _ b2];rfl
   have q2:wr.cell? ⟨bt,2,none⟩=some (.int .i64 t.to):=by rw[cell_of_row _ _ _ _ _ _ b2];rfl
   have q3:wr.cell? ⟨bt,3,none⟩=some (.int .i64 t.low):=by rw[cell_of_row _ _ _ _ _ _ b2];rfl
   have q4:wr.cell? ⟨bt,4,none⟩=some (.int .i64 t.high):=by rw[cell_of_row _ _ _ _ _ _ b2];rfl
   have q5:wr.cell? ⟨bt,5,none⟩=some (.int .i64 t.old):=by rw[cell_of_row _ _ _ _ _ _ b2];rfl
   have q6:wr.cell? ⟨bt,6,none⟩=some (.int .i64 t.far):=by rw[cell_of_row _ _ _ _ _ _ b2];rfl
   have hzx:=hz j hlt x hx
   have hc:=ptrM_calls hf ht hux
   unfold lyA at hc
   rw[hzx]at hc
   have HC:=Lib.hid hc
   have hstep:nums .u64 (mvPs f t ws ws lo (j+1))=(nums .u64 (mvPs f t ws ws lo j)).set (lo+j) (.int .u64 (ptrM f t x).1):=by
    rw[mvPs,nums_set,hx];rfl
   have hbl:b<wr.heap.size:=(HI.out.2.lt b rfl).2
   generalize (ptrM f t x).1=y at*
   clear hc b1 b2
   go_wp2_with (first
    | (go_at_call 49;refine(HC.out _).mono ?_;rintro e w1 ⟨rfl,hb1⟩
       have f1:w1.frozen? ⟨b,lo+j,none⟩=false:=(hb1.frozen (p:=⟨b,lo+j,none⟩) hbl).trans f0
       have c1:w1.cell? ⟨b,lo+j,none⟩=some (.int .u64 x):=(hb1.cell (p:=⟨b,lo+j,none⟩) hbl).trans c0
       have HB1:=Lib.hid hb1
       clear hb1))
   go_roundw
   case rel=>
    refine⟨j+1,by go_num,by omega,Lib.hid ?_⟩
    have hg:=grown_trans HI.out.1 (grown_of HB1.out (some b))
    have ho:=HI.out.2.kept (grown_of HB1.out none) (.inr (by simp[Value.ownBlock]))
    have hs:=ho.stored (lo+j) (.int .u64 y)
    rw[←hstep]at hs
    exact⟨grown_trans hg hs.2,hs.1⟩
   case measure=>simp[intOf];omega
  ·have:j=m:=by omega
   subst this
   go_wp2
   exact bodyPost_end (results_none rfl _ _ _) rfl ⟨rfl,HI.out.1,HI.out.2⟩
end Vm
end
section
namespace Vm
open Go Go.Proofs Go.RowKit
set_option maxHeartbeats 1000000
set_option maxRecDepth 100000
section
variable {w:World} {G:Nat→Prop} {h:Hp} {x:Nat→Value}
theorem right20_calls(hh:h.ok)(hG: ∀b,G b→b<w.heap.size)(hr: ∀j,j<5→Rd w G (.sl ((lsH h j).map vu)) (x j)):
  Calls Try.prog 30 #[hpA h x] w fun e w'=>e= .returned (.bool (rightR h))∧Below w.heap.size w w':=by
 refine Calls.mono ((CR_vc hh).2 w G _ hG rfl ?_) ?_
 ·intro i y hy
  match i,hy with
  |0,hy=>cases hy;exact hp_rd hr
 ·rintro e w' ⟨v,rfl,hb,hv⟩
  exact⟨by rw[rd_bool_inv hv],hb⟩
theorem Rd.slf20{l:List V}{v:Value}(h:Rd w G (.sl l) v): ∃a c,v= .slice a l.length c:=by
 cases h with
 |nil a cap _=>exact⟨a,cap,rfl⟩
 |sl l b o cap k vs=>exact⟨_,cap,rfl⟩
def ObsAt(w:World)(l:List Ob)(v:Value)(Gb:Nat→Prop):Prop:=
 ∃a c,v= .slice a l.length c∧(0<l.length→ ∃g o,a=some ⟨g,o,none⟩∧Gb g∧g<w.heap.size∧ ∀k b,l[k]? =some b→w.cell? ⟨g,o+k*5,none⟩=some (.int .i64 b.at_)∧w.cell? ⟨g,o+k*5+1,none⟩=some (.int .i64 b.size)∧
  w.cell? ⟨g,o+k*5+2,none⟩=some (.int .i64 b.ptrs)∧w.cell? ⟨g,o+k*5+3,none⟩=some (.bool b.gone)∧w.cell? ⟨g,o+k*5+4,none⟩=some (.int .u64 b.target))
theorem obsAt_of{l:List Ob}{v:Value}(r:Rd w G (.sl (l.map obV)) v)(hG: ∀b,G b→b<w.heap.size):ObsAt w l v G:=by
 have hfit: ∀x∈l.map obV,x.fits 5:=fun x hx=>by
  obtain⟨n,_,rfl⟩:=List.mem_map.1 hx
  exact⟨rfl,fun c hc=>by simp at hc;rcases hc with rfl|rfl|rfl|rfl|rfl<;>rfl⟩
 obtain⟨a,c,rfl⟩:=Rd.slf20 r
 refine⟨a,c,by simp,fun hl=> ?_⟩
 generalize hL:l.map obV=L at r hfit
 cases r with
 |nil=>simp at hL;subst hL;simp at hl
 |sl _ g o cap k vs h1 h2 h3 h4 h5 h6=>
  refine⟨g,o,rfl,h3,hG _ h3,fun i b hb=> ?_⟩
  have hil:i<l.length:=(List.getElem?_eq_some_iff.1 hb).1
  have hk:k=5:=by
   have hm:obV b∈L:=by rw[←hL];exact List.mem_map_of_mem (List.mem_of_getElem? hb)
   have e1:=(h4 _ hm).1
   simpa using e1.symm
  subst hk
  have hlen:L.length=l.length:=by rw[←hL];simp
  have hf: ∀j,j<5→(flat L)[i*5+j]? =(obV b).cells[j]? :=fun j hj=>flat_at hfit (by rw[←hL,List.getElem?_map,hb];rfl) j hj
  have hc: ∀j,j<5→w.cell? ⟨g,o+i*5+j,none⟩=some (vs (i*5+j)):=fun j hj=>by
   rw[Nat.add_assoc]
   exact h5 _ (by omega)
  have r0:=h6 _ _ ((hf 0 (by omega)).trans rfl)
  have r1:=h6 _ _ ((hf 1 (by omega)).trans rfl)
  have r2:=h6 _ _ ((hf 2 (by omega)).trans rfl)
  have r3:=h6 _ _ ((hf 3 (by omega)).trans rfl)
  have r4:=h6 _ _ ((hf 4 (by omega)).trans rfl)
  refine⟨?_,?_,?_,?_,?_⟩
  ·rw[←rd_int_inv r0];exact hc 0 (by omega)
  ·rw[←rd_int_inv r1];exact hc 1 (by omega)
  ·rw[←rd_int_inv r2];exact hc 2 (by omega)
  ·rw[←rd_bool_inv r3];exact hc 3 (by omega)
  ·rw[←rd_int_inv r4];exact hc 4 (by omega)
theorem obs20_calls{p:Pts}(hh:h.ok)(hr:Rt h p)(k:Nat)(hk:k<4)(hG: ∀b,G b→b<w.heap.size)(hx: ∀j,j<5→Rd w G (.sl ((lsH h j).map vu)) (x j)):
  Calls Try.prog 34 #[hpA h x,.int .i64 ((k+1:Nat):Int)] w fun e w'=> ∃v,e= .returned (.tuple #[v,.int .i64 0])∧Below w.heap.size w w'∧ObsAt w' (p.at ((k+1:Nat):Int)) v (fun b=>G b∨w.heap.size≤b):=by
 have ho:objsR h ((k+1:Nat):Int)=(p.at ((k+1:Nat):Int),0):=by
  unfold objsR
  rw[if_pos ⟨hr.right,by omega,by omega⟩,hr.parts];rfl
 have:=CO_vc hh (k:=((k+1:Nat):Int))
 rw[ho]at this
 refine Calls.mono (this.2 w G _ hG rfl ?_) ?_
 ·intro i y hy
  match i,hy with
  |0,hy=>cases hy;exact hp_rd hx
  |1,hy=>cases hy;exact .int _ _
 ·rintro e w' ⟨v,rfl,hb,hv⟩
  cases hv with
  |tup _ vs hl hrr=>
   have r0:=hrr 0 _ rfl
   have r1:=rd_int_inv (hrr 1 _ rfl)
   have hl2:vs.size=2:=hl
   refine⟨vs.getD 0 undef,?_,hb,?_⟩
   ·congr 2
    apply Array.ext
    ·simp[hl2]
    ·intro i h1 h2
     have hi:i<2:=by omega
     match i,hi with
     |0,_=>simp[Array.getD,hl2]
     |1,_=>simpa[Array.getD,hl2]using r1
   ·have:=obsAt_of (r0.mono (G':=fun b=>(G b∨w.heap.size≤b)∧b<w'.heap.size) (fun b hb'=>by
     rcases hb' with ⟨_,h1⟩ | ⟨h1,h2⟩
     ·exact⟨.inl h1,Nat.lt_of_lt_of_le (hG b h1) hb.size⟩
     ·exact⟨.inr h1,h2⟩)) (fun b hb'=>hb'.2)
    obtain⟨a,c,e,f⟩:=this
    exact⟨a,c,e,fun h0=>by obtain⟨g,o,q1,q2,q3,q4⟩:=f h0;exact⟨g,o,q1,q2.1,q3,q4⟩⟩
end
theorem moved_none(w:World)(a:Option Addr)(c:Nat)(v1 v2 v3:Value):
  Calls Try.prog 80 #[.slice a 0 c,v1,v2,v3] w fun e w'=>e= .returned (.tuple #[])∧Below w.heap.size w w':=by
 go_enter Try.func80,Try.ntmps80
 go_wp2
 go_loopw [11] (fun i wr=>i= .int .i64 0∧wr=w) (fun _ _=>0)
 case atStart=>exact⟨rfl,rfl⟩
 case round=>
  obtain⟨rfl,rfl⟩:=hrel
  go_wp2
  exact bodyPost_end (results_none rfl _ _ _) rfl ⟨rfl,Below.refl _ _⟩
structure MvI (B:Nat) (w wr:World) (bh br b8 bf bt bw:Nat) (f t:Ly) (h:Hp) (src x:Nat→Value) (base words:Int) (L:Nat→List Int):Prop where
 below:Below B w wr
 le:B≤bh∧B≤br∧B≤b8∧B≤bf∧B≤bt∧B≤bw
 hb:wr.heap[bh]? =some (.cells #[.int .u64 h.base,.int .i64 h.cap,.int .i64 h.to,.bool h.cycle,.int .i64 h.scan,src 0,src 1,src 2,src 3,src 4] 31 (0,0))
 rb:wr.heap[br]? =some (.cells zeroA 31 (0,0))
 nb:wr.heap[b8]? =some (.cells #[.int .u64 base,.int .i64 words,.int .i64 h.to,.bool h.cycle,.int .i64 h.scan,x 0,x 1,x 2,x 3,x 4] 31 (0,0))
 fb:wr.heap[bf]? =some (.cells (lyC f) 62 (0,0))
 tb:wr.heap[bt]? =some (.cells (lyC t) 62 (0,0))
 wb:wr.heap[bw]? =some (.cells #[.int .i64 0] 37 (0,0))
 len: ∀j,j<5→(L j).length=(lsH h j).length
 own: ∀j,j<5→wr.ownsRow B 24 1 (x j) (L j).length (nums .u64 (L j))
 apart: ∀i j,i<j→j<5→ ∀c,(x i).ownBlock=some c→(x j).ownBlock≠some c
 far: ∀j,j<5→ ∀c,(x j).ownBlock=some c→c≠bh∧c≠br∧c≠b8∧c≠bf∧c≠bt∧c≠bw
section
variable {B:Nat} {w wr:World} {bh br b8 bf bt bw:Nat} {f t:Ly} {h:Hp} {src x:Nat→Value} {base words:Int} {L:Nat→List Int}
theorem MvI.keep(m:MvI B w wr bh br b8 bf bt bw f t h src x base words L){w':World}(hb:Below wr.heap.size wr w'):MvI B w w' bh br b8 bf bt bw f t h src x base words L:=by
 have k: ∀c O,wr.heap[c]? =some O→w'.heap[c]? =some O:=fun c O hc=>(hb.block c (heap_lt hc)).trans hc
 have hB:B≤wr.heap.size:=Nat.le_trans m.le.1 (Nat.le_of_lt (heap_lt m.hb))
 exact⟨m.below.trans (hb.mono hB),m.le,k _ _ m.hb,k _ _ m.rb,k _ _ m.nb,k _ _ m.fb,k _ _ m.tb,k _ _ m.wb,m.len,fun j hj=>owns_block (m.own j hj) fun c hc=>hb.block c ((m.own j hj).lt c hc).2,m.apart,m.far⟩
theorem MvI.moved(m:MvI B w wr bh br b8 bf bt bw f t h src x base words L){w':World}{k:Nat}(hk:k<5){ws:List Int}(hl:ws.length=(L k).length){row:Option Nat}(hrow:(x k).ownBlock=row)(hg:wr.grownBy w' row)(ho:w'.ownsRow B 24 1 (x k) (L k).length (nums .u64 ws)):
  MvI B w w' bh br b8 bf bt bw f t h src x base words (fun j=>if j=k then ws else L j):=by
 have hB:B≤wr.heap.size:=Nat.le_trans m.le.1 (Nat.le_of_lt (heap_lt m.hb))
 have kk: ∀c O,wr.heap[c]? =some O→(∀d,(x k).ownBlock=some d→d≠c)→w'.heap[c]? =some O:=fun c O hc hn=>(hg.block c (heap_lt hc) (by rw[←hrow];intro e;exact hn c e.symm rfl)).trans hc
 refine⟨m.below.grown hg hB (fun r hr=>((m.own k hk).lt r (by rw[hrow];exact hr)).1),m.le,kk _ _ m.hb fun d hd=>(m.far k hk d hd).1,kk _ _ m.rb fun d hd=>(m.far k hk d hd).2.1,kk _ _ m.nb fun d hd=>(m.far k hk d hd).2.2.1,kk _ _ m.fb fun d hd=>(m.far k hk d hd).2.2.2.1,kk _ _ m.tb fun d hd=>(m.far k hk d hd).2.2.2.2.1,kk _ _ m.wb fun d hd=>(m.far k hk d hd).2.2.2.2.2,?_,?_,m.apart,m.far⟩
 ·intro j hj
  by_cases e:j=k
  ·subst e;simp only[if_pos];rw[hl];exact m.len j hj
  ·rw[if_neg e];exact m.len j hj
 ·intro j hj
  by_cases e:j=k
  ·subst e;simp only[if_pos];rw[hl];exact ho
  ·rw[if_neg e]
   refine owns_block (m.own j hj) fun c hc=>hg.block c ((m.own j hj).lt c hc).2 ?_
   rw[←hrow]
   intro e2
   rcases Nat.lt_or_gt_of_ne e with h1|h1
   ·exact m.apart j k h1 hk c hc e2.symm
   ·exact m.apart k j h1 hj c e2.symm hc
theorem MvI.congr(m:MvI B w wr bh br b8 bf bt bw f t h src x base words L){L':Nat→List Int}(e: ∀j,j<5→L' j=L j):MvI B w wr bh br b8 bf bt bw f t h src x base words L':=
 ⟨m.below,m.le,m.hb,m.rb,m.nb,m.fb,m.tb,m.wb,fun j hj=>by rw[e j hj];exact m.len j hj,fun j hj=>by rw[e j hj];exact m.own j hj,m.apart,m.far⟩
theorem MvI.rd(m:MvI B w wr bh br b8 bf bt bw f t h src x base words L){G:Nat→Prop}(hG: ∀b,G b→b<B)(hs: ∀j,j<5→Rd w G (.sl ((lsH h j).map vu)) (src j)): ∀j,j<5→Rd wr G (.sl ((lsH h j).map vu)) (src j):=
 fun j hj=>(hs j hj).keep (fun b hb=>m.below.block b (hG b hb)) fun _ q=>q
end
end Vm
end
section
namespace Vm
open Go Go.Proofs Go.RowKit
set_option maxHeartbeats 1000000
set_option maxRecDepth 100000
def QN(K:Act→World→Prop)(Q:Exit→Act→World→Prop):Exit→Act→World→Prop
 | .normal,a,w=>K a w
 | .ret,a,w=>Q .ret a w
 | .outgrown,a,w=>Q .outgrown a w
 |e,a,w=>Q e a w
section
variable {P:Program} {ops:Array Oper} {Q:Exit→Act→World→Prop}
theorem wpOp_list{i:Nat}{o:Oper}{K:Act→World→Prop}{a:Act}{w:World}(hi:ops[i]? =some o)(h:wpList P ops (QN K Q) [o] a w):wpOp P ops Q i K a w:=by
 unfold wpOp
 rw[hi]
 simp only
 unfold wpList at h
 split at h
 ·rename_i hw
  rw[if_pos hw]
  rcases h with h| ⟨h1,h2⟩
  ·left
   unfold Oper.wp at*
   generalize (execOp a.eval o).run P w=r at*
   cases r with
   |ok n w'=>
    cases n<;>simp only[Oper.upon]at h⊢ <;>
     first
      |exact h
      |exact Calls.mono h (fun e w'' he=>by cases e<;>exact he)
      |exact Rows.mono h (fun _ _ he=>he)
   |halt x w'=>cases x<;>simp only[Oper.upon]at h⊢ <;>exact h
  ·exact .inr ⟨h1,h2⟩
 ·rename_i hw
  rw[if_neg hw]
  exact h
theorem region_inv{id:Nat}{a0:Act}{w0:World}(hm:P.follows .mixedOrders=true)(hord: ∀(i:Nat) (o:Oper),ops[i]? =some o→ ∀e∈edgesOf o,e<i)(I:(Nat→Bool)→Act→World→Prop)
  (h0:I (fun _=>false) a0 {w0 with drawn:=w0.drawn+1})
  (hst: ∀(L:Nat→Bool) (i:Nat) (o:Oper) (a:Act) (w:World),ops[i]? =some o→L i=false→(∀j∈edgesOf o,L j=true)→I L a w→wpList P ops (QN (I (add L i)) Q) [o] a w)
  (hQ: ∀(L:Nat→Bool) (a:Act) (w:World),(∀i,i<ops.size→L i=true)→I L a w→Q .normal a w):(Code.region id ops true).wp P Q a0 w0:=by
 have hgd: ∀(listed:Array Bool) (i:Nat),listed.size=ops.size→i<ops.size→listed.getD i true=listed.getD i false:=by
  intro listed i h1 h2
  simp[Array.getD_eq_getD_getElem?,h1,h2]
 have hempty: ∀(listed:Array Bool),listed.size=ops.size→Region.ready .any ops listed= []→ ∀i,i<ops.size→listed.getD i false=true:=by
  intro listed hsz hr i
  induction i using Nat.strongRecOn with
  |_ i ih=>
   intro hi
   cases hl:listed.getD i false with
   |true=>rfl
   |false=>
    have:i∈Region.ready .any ops listed:=mem_ready.2 ⟨by rw[hgd listed i hsz hi];exact hl,ops[i],Array.getElem?_eq_getElem hi,fun e he hb=>by
     have hlt:=hord i ops[i] (Array.getElem?_eq_getElem hi) e.on (mem_edges he hb)
     exact ih e.on hlt (by omega)⟩
    rw[hr]at this;simp at this
 refine wp_region_any hm ?_
 have main: ∀(fuel:Nat) (listed:Array Bool) (a:Act) (w:World),listed.size=ops.size→unl ops.size (fun i=>listed.getD i false)≤fuel→I (fun i=>listed.getD i false) a w→wpAny P .any ops Q fuel listed a w:=by
  intro fuel
  induction fuel with
  |zero=>
   intro listed a w hsz hu hI
   have hall:=unl_zero (Nat.le_zero.1 hu)
   refine⟨?_,hQ _ a w hall hI⟩
   cases hr:Region.ready .any ops listed with
   |nil=>rfl
   |cons i r=>
    have:i∈Region.ready .any ops listed:=by rw[hr];simp
    obtain⟨h1,o,ho,_⟩:=mem_ready.1 this
    have hi:i<ops.size:=(Array.getElem?_eq_some_iff.1 ho).1
    rw[hgd listed i hsz hi,hall i hi]at h1
    cases h1
  |succ fuel ih=>
   intro listed a w hsz hu hI
   refine⟨fun hr=>hQ _ a w (hempty listed hsz hr) hI,fun i hi=> ?_⟩
   obtain⟨h1,o,ho,hall⟩:=mem_ready.1 hi
   have hlt:i<ops.size:=(Array.getElem?_eq_some_iff.1 ho).1
   rw[hgd listed i hsz hlt]at h1
   have hadd:(fun j=>(listed.setIfInBounds i true).getD j false)=add (fun i=>listed.getD i false) i:=by
    funext j
    simp only[add]
    by_cases hji:j=i
    ·subst hji
     have:j<listed.size:=by omega
     simp[Array.getD_eq_getD_getElem?,this]
    ·have:(listed.setIfInBounds i true).getD j false=listed.getD j false:=getD_set_ne false (Ne.symm hji)
     rw[this];simp[hji]
   have hs:=wpOp_list ho (hst _ i o a w ho h1 (fun j hj=>by
    obtain⟨ed,h2,h3,rfl⟩:=edges_mem hj
    exact hall ed h2 h3) hI)
   refine wpOp_mono (fun a' w' hI'=>ih _ a' w' (by simpa using hsz) ?_ (by rw[hadd];exact hI')) hs
   rw[hadd]
   have:=unl_add (n:=ops.size) (L:=fun i=>listed.getD i false) hlt h1
   omega
 have hL0:(fun i=>(Array.replicate ops.size false).getD i false)=fun _=>false:=by
  funext i
  simp only[Array.getD_eq_getD_getElem?,Array.getElem?_replicate]
  split<;>rfl
 refine main _ _ a0 _ (by simp) ?_ (by rw[hL0];exact h0)
 exact Nat.le_trans (List.length_filter_le _ _) (by simp)
end
def putL(a:Act)(l:List (Nat×Value)):Act:= {a with tmps:=l.foldl (fun t p=>t.setIfInBounds p.1 p.2) a.tmps}
def okOrd(ops:Array Oper):Bool:=(List.range ops.size).all fun i=>match ops[i]? with|some o=>(edgesOf o).all fun e=>decide (e<i) |none=>true
theorem ord_of{ops:Array Oper}(h:okOrd ops=true): ∀(i:Nat) (o:Oper),ops[i]? =some o→ ∀e∈edgesOf o,e<i:=by
 intro i o ho e he
 unfold okOrd at h
 rw[List.all_eq_true]at h
 have:=h i (by simpa using(Array.getElem?_eq_some_iff.1 ho).1)
 rw[ho]at this
 simp only[List.all_eq_true,decide_eq_true_eq]at this
 exact this e he
def put6(a:Act)(s1 s2 s3 s4 s5 s6:Nat)(v1 v2 v3 v4 v5 v6:Value):Act:=putL a [(s1,v1),(s2,v2),(s3,v3),(s4,v4),(s5,v5),(s6,v6)]
theorem region_put6{P:Program}{ops:Array Oper}{Q:Exit→Act→World→Prop}{id:Nat}{a0:Act}{w0:World}(s1 s2 s3 s4 s5 s6:Nat)(C:(Nat→Bool)→Value→Value→Value→Value→Value→Value→World→Prop)
  (hm:P.follows .mixedOrders=true) (hord:okOrd ops=true) (h0: ∃v1 v2 v3 v4 v5 v6,a0=put6 a0 s1 s2 s3 s4 s5 s6 v1 v2 v3 v4 v5 v6∧C (fun _=>false) v1 v2 v3 v4 v5 v6 {w0 with drawn:=w0.drawn+1})
  (hst: ∀(L:Nat→Bool) (i:Nat) (o:Oper) (v1 v2 v3 v4 v5 v6:Value) (w:World),ops[i]? =some o→L i=false→(∀j∈edgesOf o,L j=true)→C L v1 v2 v3 v4 v5 v6 w→
   wpList P ops (QN (fun a w=> ∃v1 v2 v3 v4 v5 v6,a=put6 a0 s1 s2 s3 s4 s5 s6 v1 v2 v3 v4 v5 v6∧C (add L i) v1 v2 v3 v4 v5 v6 w) Q) [o] (put6 a0 s1 s2 s3 s4 s5 s6 v1 v2 v3 v4 v5 v6) w)
  (hQ: ∀(L:Nat→Bool) (v1 v2 v3 v4 v5 v6:Value) (w:World),(∀i,i<ops.size→L i=true)→C L v1 v2 v3 v4 v5 v6 w→Q .normal (put6 a0 s1 s2 s3 s4 s5 s6 v1 v2 v3 v4 v5 v6) w):(Code.region id ops true).wp P Q a0 w0:=by
 refine region_inv hm (ord_of hord) (fun L a w=> ∃v1 v2 v3 v4 v5 v6,a=put6 a0 s1 s2 s3 s4 s5 s6 v1 v2 v3 v4 v5 v6∧C L v1 v2 v3 v4 v5 v6 w) h0 ?_ ?_
 ·rintro L i o _ w ho hi hj ⟨v1,v2,v3,v4,v5,v6,rfl,hC⟩
  exact hst L i o v1 v2 v3 v4 v5 v6 w ho hi hj hC
 ·rintro L _ w hL ⟨v1,v2,v3,v4,v5,v6,rfl,hC⟩
  exact hQ L v1 v2 v3 v4 v5 v6 w hL hC
def Z7:Array Value:= #[.int .u64 0,.int .i64 0,.int .i64 0,.int .i64 0,.int .i64 0,.int .i64 0,.int .i64 0]
structure RegC (WQ:World) (hA nA:Value) (f t:Ly) (T:TypeId) (L:Nat→Bool) (v0 v1 v2 v3 v4 v5:Value) (w:World):Prop where
 b:Below WQ.heap.size WQ w
 s0:L 0=true→v0=hA
 s1:L 1=true→v1=lyA f
 s2:L 2=true→v2=nA
 s3:L 3=true→v3=lyA t
 s4:L 4=true→ ∃c,v4= .pointer (some ⟨c,0,none⟩)∧WQ.heap.size≤c∧w.heap[c]? =some (.cells (if L 6=true then lyC f else Z7) T (0,0))
 s5:L 5=true→ ∃c,v5= .pointer (some ⟨c,0,none⟩)∧WQ.heap.size≤c∧w.heap[c]? =some (.cells (if L 7=true then lyC t else Z7) T (0,0))
 ne:L 4=true→L 5=true→v4≠v5
 c6:L 6=true→L 4=true
 c7:L 7=true→L 5=true
theorem add_self(L:Nat→Bool)(i:Nat):add L i i=true:=by simp[add]
theorem add_ne{L:Nat→Bool}{i j:Nat}(h:j≠i):add L i j=L j:=by simp[add,h]
section
variable {WQ:World} {hA nA:Value} {f t:Ly} {T:TypeId} {L:Nat→Bool} {v0 v1 v2 v3 v4 v5:Value} {w:World}
theorem RegC.st0(C:RegC WQ hA nA f t T L v0 v1 v2 v3 v4 v5 w):RegC WQ hA nA f t T (add L 0) hA v1 v2 v3 v4 v5 w:=by
 obtain⟨b,s0,s1,s2,s3,s4,s5,ne,c6,c7⟩:=C
 constructor<;>(try simp only[add_self,add_ne (L:=L) (i:=0) (j:=1) (by decide),add_ne (L:=L) (i:=0) (j:=2) (by decide),add_ne (L:=L) (i:=0) (j:=3) (by decide),add_ne (L:=L) (i:=0) (j:=4) (by decide),add_ne (L:=L) (i:=0) (j:=5) (by decide),add_ne (L:=L) (i:=0) (j:=6) (by decide),add_ne (L:=L) (i:=0) (j:=7) (by decide)])<;>first|assumption|exact fun _=>by assumption|exact fun _=>trivial|exact fun _=>trivial|exact fun _=>rfl
theorem RegC.st2(C:RegC WQ hA nA f t T L v0 v1 v2 v3 v4 v5 w):RegC WQ hA nA f t T (add L 2) v0 v1 nA v3 v4 v5 w:=by
 obtain⟨b,s0,s1,s2,s3,s4,s5,ne,c6,c7⟩:=C
 constructor<;>(try simp only[add_self,add_ne (L:=L) (i:=2) (j:=1) (by decide),add_ne (L:=L) (i:=2) (j:=0) (by decide),add_ne (L:=L) (i:=2) (j:=3) (by decide),add_ne (L:=L) (i:=2) (j:=4) (by decide),add_ne (L:=L) (i:=2) (j:=5) (by decide),add_ne (L:=L) (i:=2) (j:=6) (by decide),add_ne (L:=L) (i:=2) (j:=7) (by decide)])<;>first|assumption|exact fun _=>by assumption|exact fun _=>trivial|exact fun _=>trivial|exact fun _=>rfl
theorem RegC.later(C:RegC WQ hA nA f t T L v0 v1 v2 v3 v4 v5 w){w':World}(hb:Below w.heap.size w w'):RegC WQ hA nA f t T L v0 v1 v2 v3 v4 v5 w':=
 ⟨C.b.trans (hb.mono C.b.size),C.s0,C.s1,C.s2,C.s3,fun h=>by obtain⟨c,h1,h2,h3⟩:=C.s4 h;exact⟨c,h1,h2,(hb.block c (heap_lt h3)).trans h3⟩,fun h=>by obtain⟨c,h1,h2,h3⟩:=C.s5 h;exact⟨c,h1,h2,(hb.block c (heap_lt h3)).trans h3⟩,C.ne,C.c6,C.c7⟩
theorem RegC.st1(C:RegC WQ hA nA f t T L v0 v1 v2 v3 v4 v5 w){w':World}(hb:Below w.heap.size w w'):RegC WQ hA nA f t T (add L 1) v0 (lyA f) v2 v3 v4 v5 w':=by
 obtain⟨b,s0,s1,s2,s3,s4,s5,ne,c6,c7⟩:=C.later hb
 constructor<;>(try simp only[add_self,add_ne (L:=L) (i:=1) (j:=0) (by decide),add_ne (L:=L) (i:=1) (j:=2) (by decide),add_ne (L:=L) (i:=1) (j:=3) (by decide),add_ne (L:=L) (i:=1) (j:=4) (by decide),add_ne (L:=L) (i:=1) (j:=5) (by decide),add_ne (L:=L) (i:=1) (j:=6) (by decide),add_ne (L:=L) (i:=1) (j:=7) (by decide)])<;>first|assumption|exact fun _=>by assumption|exact fun _=>trivial|exact fun _=>trivial|exact fun _=>rfl
theorem RegC.st3(C:RegC WQ hA nA f t T L v0 v1 v2 v3 v4 v5 w){w':World}(hb:Below w.heap.size w w'):RegC WQ hA nA f t T (add L 3) v0 v1 v2 (lyA t) v4 v5 w':=by
 obtain⟨b,s0,s1,s2,s3,s4,s5,ne,c6,c7⟩:=C.later hb
 constructor<;>(try simp only[add_self,add_ne (L:=L) (i:=3) (j:=0) (by decide),add_ne (L:=L) (i:=3) (j:=2) (by decide),add_ne (L:=L) (i:=3) (j:=1) (by decide),add_ne (L:=L) (i:=3) (j:=4) (by decide),add_ne (L:=L) (i:=3) (j:=5) (by decide),add_ne (L:=L) (i:=3) (j:=6) (by decide),add_ne (L:=L) (i:=3) (j:=7) (by decide)])<;>first|assumption|exact fun _=>by assumption|exact fun _=>trivial|exact fun _=>trivial|exact fun _=>rfl
theorem RegC.st4(C:RegC WQ hA nA f t T L v0 v1 v2 v3 v4 v5 w)(h6:L 6=false):RegC WQ hA nA f t T (add L 4) v0 v1 v2 v3 (.pointer (some ⟨w.heap.size,0,none⟩)) v5 (w.alloc (.cells Z7 T)):=by
 have hn:L 5=true→Value.pointer (some ⟨w.heap.size,0,none⟩)≠v5:=fun h e=>by
  obtain⟨c,h1,_,h3⟩:=C.s5 h
  rw[h1]at e
  have:=heap_lt h3
  simp only[Value.pointer.injEq,Option.some.injEq,Addr.mk.injEq,and_true]at e
  omega
 have hz:=C.b.size
 obtain⟨b,s0,s1,s2,s3,s4,s5,ne,c6,c7⟩:=C.later ((Below.refl _ w).alloc (Nat.le_refl _) (.cells Z7 T))
 constructor<;>(try simp only[add_self,add_ne (L:=L) (i:=4) (j:=0) (by decide),add_ne (L:=L) (i:=4) (j:=2) (by decide),add_ne (L:=L) (i:=4) (j:=1) (by decide),add_ne (L:=L) (i:=4) (j:=3) (by decide),add_ne (L:=L) (i:=4) (j:=5) (by decide),add_ne (L:=L) (i:=4) (j:=6) (by decide),add_ne (L:=L) (i:=4) (j:=7) (by decide)])<;>first|assumption|exact fun _=>by assumption|exact fun _=>trivial|exact fun _=>hn|exact fun _=>⟨_,rfl,hz,by rw[h6];exact heap_alloc_new w _⟩
theorem RegC.st5(C:RegC WQ hA nA f t T L v0 v1 v2 v3 v4 v5 w)(h7:L 7=false):RegC WQ hA nA f t T (add L 5) v0 v1 v2 v3 v4 (.pointer (some ⟨w.heap.size,0,none⟩)) (w.alloc (.cells Z7 T)):=by
 have hn:L 4=true→v4≠Value.pointer (some ⟨w.heap.size,0,none⟩):=fun h e=>by
  obtain⟨c,h1,_,h3⟩:=C.s4 h
  rw[h1]at e
  have:=heap_lt h3
  simp only[Value.pointer.injEq,Option.some.injEq,Addr.mk.injEq,and_true]at e
  omega
 have hz:=C.b.size
 obtain⟨b,s0,s1,s2,s3,s4,s5,ne,c6,c7⟩:=C.later ((Below.refl _ w).alloc (Nat.le_refl _) (.cells Z7 T))
 constructor<;>(try simp only[add_self,add_ne (L:=L) (i:=5) (j:=0) (by decide),add_ne (L:=L) (i:=5) (j:=2) (by decide),add_ne (L:=L) (i:=5) (j:=1) (by decide),add_ne (L:=L) (i:=5) (j:=3) (by decide),add_ne (L:=L) (i:=5) (j:=4) (by decide),add_ne (L:=L) (i:=5) (j:=6) (by decide),add_ne (L:=L) (i:=5) (j:=7) (by decide)])<;>first|assumption|exact fun _=>by assumption|exact fun _=>trivial|exact fun h _=>hn h|exact fun _=>⟨_,rfl,hz,by rw[h7];exact heap_alloc_new w _⟩
def put7(w:World)(b:Nat)(l:Ly):World:=((((((w.setCell ⟨b,0,none⟩ (.int .u64 l.base)).setCell ⟨b,1,none⟩ (.int .i64 l.cap)).setCell ⟨b,2,none⟩ (.int .i64 l.to)).setCell ⟨b,3,none⟩ (.int .i64 l.low)).setCell ⟨b,4,none⟩ (.int .i64 l.high)).setCell ⟨b,5,none⟩ (.int .i64 l.old)).setCell ⟨b,6,none⟩ (.int .i64 l.far)
theorem put7_blk{b:Nat}{l:Ly}(hb:w.heap[b]? =some (.cells Z7 T (0,0))):(put7 w b l).heap[b]? =some (.cells (lyC l) T (0,0)):=by
 unfold Z7 at hb
 simp[put7,lyC,World.setCell,Array.getElem?_modify,hb]
theorem put7_other{b c:Nat}{l:Ly}(hc:c≠b):(put7 w b l).heap[c]? =w.heap[c]? :=by
 have: ¬b=c:=fun e=>hc e.symm
 simp[put7,World.setCell,Array.getElem?_modify,this]
theorem put7_below{B b:Nat}{l:Ly}(h:Below B WQ w)(hb:B≤b):Below B WQ (put7 w b l):=
 ((((((h.setCell hb _).setCell hb _).setCell hb _).setCell hb _).setCell hb _).setCell hb _).setCell hb _
theorem RegC.st6(C:RegC WQ hA nA f t T L v0 v1 v2 v3 v4 v5 w)(h4:L 4=true)(h6:L 6=false){c:Nat}(hc:v4= .pointer (some ⟨c,0,none⟩)):RegC WQ hA nA f t T (add L 6) v0 v1 v2 v3 v4 v5 (put7 w c f):=by
 obtain⟨b,s0,s1,s2,s3,s4,s5,ne,c6,c7⟩:=C
 obtain⟨c',e1,e2,e3⟩:=s4 h4
 rw[hc]at e1
 obtain rfl:c=c':=by simpa using e1
 rw[h6]at e3
 have r4:L 4=true→ ∃d,v4= .pointer (some ⟨d,0,none⟩)∧WQ.heap.size≤d∧(put7 w c f).heap[d]? =some (.cells (lyC f) T (0,0)):=fun _=>⟨c,hc,e2,put7_blk e3⟩
 have r5:L 5=true→ ∃d,v5= .pointer (some ⟨d,0,none⟩)∧WQ.heap.size≤d∧(put7 w c f).heap[d]? =some (.cells (if L 7=true then lyC t else Z7) T (0,0)):=fun h=>by
  obtain⟨d,g1,g2,g3⟩:=s5 h
  refine⟨d,g1,g2,(put7_other ?_).trans g3⟩
  rintro rfl
  exact ne h4 h (hc.trans g1.symm)
 have hb:=put7_below (l:=f) b e2
 constructor<;>(try simp only[add_self,if_true,add_ne (L:=L) (i:=6) (j:=0) (by decide),add_ne (L:=L) (i:=6) (j:=2) (by decide),add_ne (L:=L) (i:=6) (j:=1) (by decide),add_ne (L:=L) (i:=6) (j:=3) (by decide),add_ne (L:=L) (i:=6) (j:=4) (by decide),add_ne (L:=L) (i:=6) (j:=5) (by decide),add_ne (L:=L) (i:=6) (j:=7) (by decide)])<;>first|assumption|exact fun _=>by assumption|exact fun _=>trivial
theorem RegC.st7(C:RegC WQ hA nA f t T L v0 v1 v2 v3 v4 v5 w)(h5:L 5=true)(h7:L 7=false){c:Nat}(hc:v5= .pointer (some ⟨c,0,none⟩)):RegC WQ hA nA f t T (add L 7) v0 v1 v2 v3 v4 v5 (put7 w c t):=by
 obtain⟨b,s0,s1,s2,s3,s4,s5,ne,c6,c7⟩:=C
 obtain⟨c',e1,e2,e3⟩:=s5 h5
 rw[hc]at e1
 obtain rfl:c=c':=by simpa using e1
 rw[h7]at e3
 have r5:L 5=true→ ∃d,v5= .pointer (some ⟨d,0,none⟩)∧WQ.heap.size≤d∧(put7 w c t).heap[d]? =some (.cells (lyC t) T (0,0)):=fun _=>⟨c,hc,e2,put7_blk e3⟩
 have r4:L 4=true→ ∃d,v4= .pointer (some ⟨d,0,none⟩)∧WQ.heap.size≤d∧(put7 w c t).heap[d]? =some (.cells (if L 6=true then lyC f else Z7) T (0,0)):=fun h=>by
  obtain⟨d,g1,g2,g3⟩:=s4 h
  refine⟨d,g1,g2,(put7_other ?_).trans g3⟩
  rintro rfl
  exact ne h h5 (g1.trans hc.symm)
 have hb:=put7_below (l:=t) b e2
 constructor<;>(try simp only[add_self,if_true,add_ne (L:=L) (i:=7) (j:=0) (by decide),add_ne (L:=L) (i:=7) (j:=2) (by decide),add_ne (L:=L) (i:=7) (j:=1) (by decide),add_ne (L:=L) (i:=7) (j:=3) (by decide),add_ne (L:=L) (i:=7) (j:=4) (by decide),add_ne (L:=L) (i:=7) (j:=5) (by decide),add_ne (L:=L) (i:=7) (j:=6) (by decide)])<;>first|assumption|exact fun _=>by assumption|exact fun _=>trivial
end
end Vm
end
section
namespace Vm
open Go Go.Proofs Go.RowKit
set_option maxHeartbeats 1000000
set_option maxRecDepth 100000
section
variable {B:Nat} {w wr:World} {bh br b8 bf bt bw:Nat} {f t:Ly} {h:Hp} {src x:Nat→Value} {base words:Int} {L:Nat→List Int}
theorem MvI.kept(m:MvI B w wr bh br b8 bf bt bw f t h src x base words L){w':World}(hb:Below wr.heap.size wr w'){k:Nat}{ws:List Int}(e:ws=L k):MvI B w w' bh br b8 bf bt bw f t h src x base words (fun j=>if j=k then ws else L j):=
 (m.keep hb).congr fun j _=>by
  by_cases hj:j=k
  ·rw[if_pos hj,e,hj]
  ·rw[if_neg hj]
theorem MvI.call_all(m:MvI B w wr bh br b8 bf bt bw f t h src x base words L)(hf:f.fits)(ht:t.fits){k:Nat}(hk:k<5)(hu: ∀v∈L k,U64 v)(hlen:(L k).length≤1000000)(hz: ∀v∈L k,(ptrM f t v).2=0):
  Calls Try.prog 80 #[x k,.pointer (some ⟨bf,0,none⟩),.pointer (some ⟨bt,0,none⟩),.pointer (some ⟨bw,0,none⟩)] wr fun e w'=>
   e= .returned (.tuple #[])∧MvI B w w' bh br b8 bf bt bw f t h src x base words (fun j=>if j=k then mvPs f t (L k) (L k) 0 (L k).length else L j):=by
 have ho:=m.own k hk
 have hfar:=m.far k hk
 rcases ho.2 with ⟨hv,h0⟩ | ⟨g,cap,cur,hv,_⟩
 ·rw[hv]
  refine(moved_none wr none 0 _ _ _).mono ?_
  rintro e w' ⟨rfl,hb⟩
  exact⟨rfl,m.kept hb (by rw[h0];rfl)⟩
 ·rw[hv]at ho hfar⊢
  obtain⟨f1,f2,f3,f4,f5,f6⟩:=hfar g rfl
  have:=moved_walk wr hf ht hu hlen (lo:=0) (m:=(L k).length) (by omega) ho m.fb m.tb m.wb (Ne.symm f4) (Ne.symm f5) (Ne.symm f6) (fun j hj v hv'=>hz v (List.mem_of_getElem? hv'))
  rw[Nat.sub_zero]at this
  refine this.mono ?_
  rintro e w' ⟨rfl,hg,ho'⟩
  exact⟨rfl,m.moved hk (by simp) (by rw[hv];rfl) hg (by rw[hv];exact ho')⟩
theorem MvI.call_sub(m:MvI B w wr bh br b8 bf bt bw f t h src x base words L)(hf:f.fits)(ht:t.fits){k:Nat}(hk:k<5)(hu: ∀v∈L k,U64 v)(hlen:(L k).length≤1000000){g cap n:Nat}(hn:n=(L k).length)(hv:x k= .slice (some ⟨g,0,none⟩) n cap){lo mm:Nat}(hl:lo+mm≤n)
  (hz: ∀j,j<mm→ ∀v,(L k)[lo+j]? =some v→(ptrM f t v).2=0) {a:Option Addr} (ha:mm≠0→a=some ⟨g,lo,none⟩):
  Calls Try.prog 80 #[.slice a mm (cap-lo),.pointer (some ⟨bf,0,none⟩),.pointer (some ⟨bt,0,none⟩),.pointer (some ⟨bw,0,none⟩)] wr fun e w'=>
   e= .returned (.tuple #[])∧MvI B w w' bh br b8 bf bt bw f t h src x base words (fun j=>if j=k then mvPs f t (L k) (L k) lo mm else L j)∧wr.grownBy w' (some g):=by
 have ho:=m.own k hk
 have hfar:=m.far k hk
 subst hn
 rw[hv]at ho hfar
 obtain⟨f1,f2,f3,f4,f5,f6⟩:=hfar g rfl
 by_cases h0:mm=0
 ·subst h0
  refine(moved_none wr a (cap-lo) _ _ _).mono ?_
  rintro e w' ⟨rfl,hb⟩
  exact⟨rfl,m.kept hb rfl,grown_of hb _⟩
 ·rw[ha h0]
  refine(moved_walk wr hf ht hu hlen (lo:=lo) (m:=mm) hl ho m.fb m.tb m.wb (Ne.symm f4) (Ne.symm f5) (Ne.symm f6) hz).mono ?_
  rintro e w' ⟨rfl,hg,ho'⟩
  exact⟨rfl,m.moved hk (by simp) (by rw[hv];rfl) hg (by rw[hv];exact ho'),hg⟩
end
def MovePost(w:World)(r:Hp×Int)(e:Ending)(w':World):Prop:=
 ∃x,e= .returned (.tuple #[hpA r.1 x,.int .i64 r.2])∧Below w.heap.size w w'∧ ∀j,j<5→Rd w' (fun c=>w.heap.size≤c∧c<w'.heap.size) (.sl ((lsH r.1 j).map vu)) (x j)
end Vm
end
section
namespace Vm
open Go Go.Proofs Go.RowKit
set_option maxHeartbeats 40000000
set_option maxRecDepth 100000
def LkM(f t:Ly)(h:Hp)(p:Pts)(k:Nat):Nat→List Int:=fun j=>if j=4 then mvPs f t h.roots h.roots 0 h.roots.length else if j<k then mvL f t (lsH h j) (p.at ((j+1:Nat):Int))else lsH h j
def LkI(f t:Ly)(h:Hp)(p:Pts)(k i:Nat):Nat→List Int:=fun j=>if j=k then((p.at ((k+1:Nat):Int)).take i).foldl (mvOb f t (lsH h k)) (lsH h k)else LkM f t h p k j
theorem LkI0{f t:Ly}{h:Hp}{p:Pts}{k:Nat}(hk:k<4)(j:Nat):LkI f t h p k 0 j=LkM f t h p k j:=by
 unfold LkI LkM
 by_cases e:j=k
 ·subst e
  rw[if_pos rfl,if_neg (by omega),if_neg (by omega)];rfl
 ·rw[if_neg e]
theorem LkI1{f t:Ly}{h:Hp}{p:Pts}{k:Nat}(hk:k<4)(j:Nat):LkI f t h p k (p.at ((k+1:Nat):Int)).length j=LkM f t h p (k+1) j:=by
 unfold LkI LkM
 by_cases e:j=k
 ·subst e
  rw[if_pos rfl,if_neg (by omega),if_pos (by omega),List.take_length];rfl
 ·rw[if_neg e]
  by_cases e4:j=4
  ·rw[if_pos e4,if_pos e4]
  ·rw[if_neg e4,if_neg e4]
   by_cases h1:j<k
   ·rw[if_pos h1,if_pos (by omega)]
   ·rw[if_neg h1,if_neg (by omega)]
theorem LkI_next{f t:Ly}{h:Hp}{p:Pts}{k i:Nat}{o:Ob}(ho:(p.at ((k+1:Nat):Int))[i]? =some o){ws:List Int}(hw:ws=mvOb f t (lsH h k) (LkI f t h p k i k) o)(j:Nat):LkI f t h p k (i+1) j=if j=k then ws else LkI f t h p k i j:=by
 by_cases e:j=k
 ·subst e
  rw[if_pos rfl,hw]
  unfold LkI
  rw[if_pos rfl,if_pos rfl,List.take_add_one,ho,Option.toList_some,List.foldl_append];rfl
 ·rw[if_neg e]
  unfold LkI
  rw[if_neg e,if_neg e]
theorem LkI_u{f t:Ly}{h:Hp}(hh:h.ok){p:Pts}{k i:Nat}(hk:k<4):(∀v∈LkI f t h p k i k,U64 v)∧(LkI f t h p k i k).length≤1000000:=by
 unfold LkI
 rw[if_pos rfl]
 have h1:(∀v∈lsH h k,U64 v)∧(lsH h k).length≤1000000:=by
  have:k=0∨k=1∨k=2∨k=3:=by omega
  rcases this with rfl|rfl|rfl|rfl
  ·exact partH_ok hh 1
  ·exact partH_ok hh 2
  ·exact partH_ok hh 3
  ·exact partH_ok hh 4
 exact⟨mvL_u h1.1,by rw[mvL_len];exact h1.2⟩
theorem Move_ok(w:World)(G:Nat→Prop)(hG: ∀b,G b→b<w.heap.size)(h:Hp)(hh:h.ok)(src:Nat→Value)(hs: ∀j,j<5→Rd w G (.sl ((lsH h j).map vu)) (src j))(base words:Int)(hb0: ¬base=0)(hw0: ¬words<0)(hw1: ¬4096<words)(hwc: ¬words<h.cap)(hbo: ¬9223372036854775808-2*words<base)
  {p:Pts} (r:Rt h p) {f t:Ly} (hf:f=layH h) (ht:t=layH {h with base:=base,cap:=words}) (htf:t.fits) (hzr: ∀v∈h.roots,(ptrM f t v).2=0) (hmr:mvPs f t h.roots h.roots 0 h.roots.length=h.roots.map fun w=>(ptrM f t w).1)
  (hob: ∀k,k<4→ ∀(i:Nat) (o:Ob),(p.at ((k+1:Nat):Int))[i]? =some o→ ∀out,out=((p.at ((k+1:Nat):Int)).take i).foldl (mvOb f t (lsH h k)) (lsH h k)→ ∃a s m:Nat,o.at_=a∧o.size=s∧o.ptrs=m∧a+(s+1)≤(lsH h k).length∧s≤255∧m≤s∧
   (o.gone=true→mvPs f t out out a 1=mvOb f t (lsH h k) out o∧ ∀x,out[a]? =some x→(ptrM f t x).2=0)∧(o.gone=false→mvPs f t out out (a+1) m=mvOb f t (lsH h k) out o∧ ∀j,j<m→ ∀x,out[a+1+j]? =some x→(ptrM f t x).2=0)):
  Calls Try.prog 46 #[hpA h src,.int .u64 base,.int .i64 words] w (MovePost w (movM h p base words,0)):=by
 have w1:=wrap_u words (by omega) (by omega)
 have w2:=wrap_u (2*words) (by omega) (by omega)
 have w3:=wrap_u (9223372036854775808-2*words) (by omega) (by omega)
 have hR: ∀W,Below w.heap.size w W→Calls Try.prog 30 #[hpA h src] W fun e w'=>e= .returned (.bool true)∧Below W.heap.size W w':=fun W hb=>by
  have:=right20_calls (w:=W) (G:=G) (x:=src) hh (fun b hb'=>Nat.lt_of_lt_of_le (hG b hb') hb.size) (fun j hj=>(hs j hj).keep (fun b hb'=>hb.block b (hG b hb')) fun _ q=>q)
  rw[r.right]at this
  exact this
 have hO: ∀W,Below w.heap.size w W→Calls Try.prog 56 #[hpA h src] W (HOwnPost W h):=fun W hb=>
  Own_walk W G (fun b hb'=>Nat.lt_of_lt_of_le (hG b hb') hb.size) h hh src (fun j hj=>(hs j hj).keep (fun b hb'=>hb.block b (hG b hb')) fun _ q=>q)
 have HR:=Lib.hid hR
 have HO:=Lib.hid hO
 have HS:=Lib.hid hs
 have HH:=Lib.hid hh
 have HRT:=Lib.hid r
 have HB:=Lib.hid hob
 have HF:=Lib.hid hf
 have HT:=Lib.hid ht
 have HZ:=Lib.hid hzr
 have HM:=Lib.hid hmr
 have e0:(base==0)=false:=by simpa using hb0
 have e1:(words<0)=False:=eq_false hw0
 have e2:(4096<words)=False:=eq_false hw1
 have e3:(words<h.cap)=False:=eq_false hwc
 have e4:(9223372036854775808-2*words<base)=False:=eq_false hbo
 clear hR hO hs hh r hob hf ht hzr hmr
 unfold hpA
 go_enter Try.func46,Try.ntmps46
 go_upto_region 9 with (first
  | (go_at_call 30;refine(HR.out _ ?_).mono ?_;rotate_left;rintro e wa ⟨rfl,hba⟩
     have bA:wa.heap[w.heap.size]? =some (.cells #[.int .u64 h.base,.int .i64 h.cap,.int .i64 h.to,.bool h.cycle,.int .i64 h.scan,src 0,src 1,src 2,src 3,src 4] 31 (0,0)):=(hba.block _ (by simp;omega)).trans ((Below.heap_alloc _ _ _ (by simp)).trans (heap_alloc_new w _))
     have bZ:wa.heap[w.heap.size+1]? =some (.cells zeroA 31 (0,0)):=(hba.block _ (by simp)).trans (zero_new w _)
     have ya: ∀j,wa.cell? ⟨w.heap.size,j,none⟩=(#[.int .u64 h.base,.int .i64 h.cap,.int .i64 h.to,.bool h.cycle,.int .i64 h.scan,src 0,src 1,src 2,src 3,src 4]:Array Value)[j]? :=fun j=>cell_of_row _ _ _ _ _ _ bA
     have HBA:=Lib.hid hba
     have HRA:=Lib.hid (And.intro bA bZ)
     clear hba bA bZ)
  | (go_at_call 56;refine(HO.out _ ?_).mono ?_;rotate_left;rintro e wo ⟨x,rfl,hbo,hown⟩
     have HBO:=Lib.hid hbo
     have HOW:=Lib.hid hown
     obtain⟨a0,q0,E0⟩:=own_form (hown.own 0 (by omega))
     obtain⟨a1,q1,E1⟩:=own_form (hown.own 1 (by omega))
     obtain⟨a2,q2,E2⟩:=own_form (hown.own 2 (by omega))
     obtain⟨a3,q3,E3⟩:=own_form (hown.own 3 (by omega))
     obtain⟨a4,q4,E4⟩:=own_form (hown.own 4 (by omega))
     unfold hpA
     rw[E0,E1,E2,E3,E4]
     have HE:=Lib.hid (And.intro E0 (And.intro E1 (And.intro E2 (And.intro E3 E4))))
     clear hbo hown E0 E1 E2 E3 E4))
 case refine_1=>exact(Below.trans (((Below.refl _ w).alloc (Nat.le_refl _) _).alloc (by simp) _) (HBA.out.mono (by simp;omega)))
 case refine_1=>exact((Below.refl _ w).alloc (Nat.le_refl _) _).alloc (by simp) _
 have hWa:Below w.heap.size w wa:=Below.trans (((Below.refl _ w).alloc (Nat.le_refl _) _).alloc (by simp) _) (HBA.out.mono (by simp;omega))
 have hsa:w.heap.size+2≤wa.heap.size:=by have:=HBA.out.size;simp at this;omega
 have hso:wa.heap.size≤wo.heap.size:=HBO.out.size
 have hWo:Below w.heap.size w wo:=hWa.trans (HBO.out.mono (by omega))
 have bH:wo.heap[w.heap.size]? =some (.cells #[.int .u64 h.base,.int .i64 h.cap,.int .i64 h.to,.bool h.cycle,.int .i64 h.scan,src 0,src 1,src 2,src 3,src 4] 31 (0,0)):=(HBO.out.block _ (by omega)).trans HRA.out.1
 have bR:wo.heap[w.heap.size+1]? =some (.cells zeroA 31 (0,0)):=(HBO.out.block _ (by omega)).trans HRA.out.2
 obtain⟨WQ,hWQ⟩: ∃W,W=wo.alloc (.cells #[Value.int IntKind.u64 base,Value.int IntKind.i64 words,Value.int IntKind.i64 h.to,Value.bool h.cycle,Value.int IntKind.i64 h.scan,Value.slice a0 (lsH h 0).length q0,Value.slice a1 (lsH h 1).length q1,Value.slice a2 (lsH h 2).length q2,Value.slice a3 (lsH h 3).length q3,Value.slice a4 (lsH h 4).length q4] 31):=⟨_,rfl⟩
 rw[←hWQ]
 have hq:Below wo.heap.size wo WQ:=by rw[hWQ];exact(Below.refl _ _).alloc (Nat.le_refl _) _
 have hqs:WQ.heap.size=wo.heap.size+1:=by rw[hWQ];simp
 have bN:WQ.heap[wo.heap.size]? =some (.cells #[Value.int IntKind.u64 base,Value.int IntKind.i64 words,Value.int IntKind.i64 h.to,Value.bool h.cycle,Value.int IntKind.i64 h.scan,x 0,x 1,x 2,x 3,x 4] 31 (0,0)):=by
  rw[hWQ,HE.out.1,HE.out.2.1,HE.out.2.2.1,HE.out.2.2.2.1,HE.out.2.2.2.2]
  exact heap_alloc_new wo _
 have hWq:Below w.heap.size w WQ:=hWo.trans (hq.mono (by omega))
 have bH2:=(hq.block _ (by omega)).trans bH
 have bR2:=(hq.block _ (by omega)).trans bR
 have hLH: ∀W,Below WQ.heap.size WQ W→Calls Try.prog 54 #[hpA h src] W fun e w'=>e= .returned (lyA f)∧Below W.heap.size W w':=fun W hb=>by
  have:=Layout_calls (w:=W) (G:=G) (h:=h) (x:=src) (fun b hb'=>Nat.lt_of_lt_of_le (hG b hb') (Nat.le_trans hWq.size hb.size)) (fun j hj=>(HS.out j hj).keep (fun b hb'=>(hb.block b (Nat.lt_of_lt_of_le (hG b hb') hWq.size)).trans (hWq.block b (hG b hb'))) fun _ q=>q)
  rw[←HF.out]at this
  exact this
 have hLN: ∀W,Below WQ.heap.size WQ W→Calls Try.prog 54 #[.agg #[Value.int IntKind.u64 base,Value.int IntKind.i64 words,Value.int IntKind.i64 h.to,Value.bool h.cycle,Value.int IntKind.i64 h.scan,x 0,x 1,x 2,x 3,x 4]] W fun e w'=>e= .returned (lyA t)∧Below W.heap.size W w':=fun W hb=>by
  have:=Layout_calls (w:=W) (G:=fun b=>b<W.heap.size) (h:= {h with base:=base,cap:=words}) (x:=x) (fun b hb'=>hb') (fun j hj=>(own_rd (HOW.out.own j hj) (G:=fun b=>b<wo.heap.size) (fun c _ h=>h)).keep (fun b hb'=>(hb.block b (by omega)).trans (hq.block b hb')) fun b q=>by have:=hb.size;omega)
  rw[←HT.out]at this
  exact this
 rw[HE.out.1,HE.out.2.1,HE.out.2.2.1,HE.out.2.2.2.1,HE.out.2.2.2.2]at hLN
 have yb: ∀j,WQ.cell? ⟨w.heap.size,j,none⟩=(#[.int .u64 h.base,.int .i64 h.cap,.int .i64 h.to,.bool h.cycle,.int .i64 h.scan,src 0,src 1,src 2,src 3,src 4]:Array Value)[j]? :=fun j=>cell_of_row _ _ _ _ _ _ bH2
 have yn: ∀j,WQ.cell? ⟨wo.heap.size,j,none⟩=(#[Value.int IntKind.u64 base,Value.int IntKind.i64 words,Value.int IntKind.i64 h.to,Value.bool h.cycle,Value.int IntKind.i64 h.scan,Value.slice a0 (lsH h 0).length q0,Value.slice a1 (lsH h 1).length q1,Value.slice a2 (lsH h 2).length q2,Value.slice a3 (lsH h 3).length q3,Value.slice a4 (lsH h 4).length q4]:Array Value)[j]? :=fun j=>by
  rw[cell_of_row _ _ _ _ _ _ bN,HE.out.1,HE.out.2.1,HE.out.2.2.1,HE.out.2.2.2.1,HE.out.2.2.2.2]
 have HLH:=Lib.hid hLH
 have HLN:=Lib.hid hLN
 have HX:=Lib.hid (And.intro hWQ (And.intro bN (And.intro bH2 (And.intro bR2 (And.intro hWo (And.intro hWq hq))))))
 clear hLH hLN hWa hWo bH bR bN hWq bH2 bR2 hWQ hq
 refine region_put6 54 55 56 57 9 10 (RegC WQ (hpA h src) (.agg #[Value.int IntKind.u64 base,Value.int IntKind.i64 words,Value.int IntKind.i64 h.to,Value.bool h.cycle,Value.int IntKind.i64 h.scan,Value.slice a0 (lsH h 0).length q0,Value.slice a1 (lsH h 1).length q1,Value.slice a2 (lsH h 2).length q2,Value.slice a3 (lsH h 3).length q3,Value.slice a4 (lsH h 4).length q4]) f t 62) follows (by kernel_rfl) ⟨undef,undef,undef,undef,undef,undef,by rfl,?_⟩ ?_ ?_
 ·exact⟨(Below.refl _ _).drew,fun h=>(by cases h),fun h=>(by cases h),fun h=>(by cases h),fun h=>(by cases h),fun h=>(by cases h),fun h=>(by cases h),fun h=>(by cases h),fun h=>(by cases h),fun h=>(by cases h)⟩
 ·intro L i o v1 v2 v3 v4 v5 v6 W ho hi hj C
  have HC:=Lib.hid C
  have hz:WQ.heap.size≤W.heap.size:=C.b.size
  have zb: ∀j,W.cell? ⟨w.heap.size,j,none⟩=(#[.int .u64 h.base,.int .i64 h.cap,.int .i64 h.to,.bool h.cycle,.int .i64 h.scan,src 0,src 1,src 2,src 3,src 4]:Array Value)[j]? :=fun j=>(C.b.cell (p:=⟨w.heap.size,j,none⟩) (by show w.heap.size<WQ.heap.size;omega)).trans (yb j)
  have zn: ∀j,W.cell? ⟨wo.heap.size,j,none⟩=(#[Value.int IntKind.u64 base,Value.int IntKind.i64 words,Value.int IntKind.i64 h.to,Value.bool h.cycle,Value.int IntKind.i64 h.scan,Value.slice a0 (lsH h 0).length q0,Value.slice a1 (lsH h 1).length q1,Value.slice a2 (lsH h 2).length q2,Value.slice a3 (lsH h 3).length q3,Value.slice a4 (lsH h 4).length q4]:Array Value)[j]? :=fun j=>(C.b.cell (p:=⟨wo.heap.size,j,none⟩) (by show wo.heap.size<WQ.heap.size;omega)).trans (yn j)
  clear C
  have h8:i<8:=(Array.getElem?_eq_some_iff.1 ho).1
  simp only[put6,putL,List.foldl_cons,List.foldl_nil,List.setIfInBounds_toArray,List.set_cons_succ,List.set_cons_zero]
  have:i=0∨i=1∨i=2∨i=3∨i=4∨i=5∨i=6∨i=7:=by omega
  rcases this with rfl|rfl|rfl|rfl|rfl|rfl|rfl|rfl
  ·cases ho
   go_wp2
   simp only[QN]
   exact⟨_,v2,v3,v4,v5,v6,rfl,HC.out.st0⟩
  ·cases ho
   have e1:=HC.out.s0 (hj 0 (by decide))
   subst e1
   unfold hpA
   go_wp2_with (go_at_call 54;refine(HLH.out _ HC.out.b).mono ?_;rintro e wl ⟨rfl,hbl⟩;have HBL:=Lib.hid hbl;unfold lyA;clear hbl)
   simp only[QN]
   exact⟨_,_,v3,v4,v5,v6,rfl,HC.out.st1 HBL.out⟩
  ·cases ho
   go_wp2
   simp only[QN]
   exact⟨v1,v2,_,v4,v5,v6,rfl,HC.out.st2⟩
  ·cases ho
   have e1:=HC.out.s2 (hj 2 (by decide))
   subst e1
   unfold hpA
   go_wp2_with (go_at_call 54;refine(HLN.out _ HC.out.b).mono ?_;rintro e wl ⟨rfl,hbl⟩;have HBL:=Lib.hid hbl;unfold lyA;clear hbl)
   simp only[QN]
   exact⟨v1,v2,_,_,v5,v6,rfl,HC.out.st3 HBL.out⟩
  ·have h6:L 6=false:=by
    cases h:L 6 with
    |false=>rfl
    |true=>have:=HC.out.c6 h;rw[hi]at this;cases this
   cases ho
   go_wp2
   simp only[QN]
   exact⟨v1,v2,v3,v4,_,v6,rfl,HC.out.st4 h6⟩
  ·have h6:L 7=false:=by
    cases h:L 7 with
    |false=>rfl
    |true=>have:=HC.out.c7 h;rw[hi]at this;cases this
   cases ho
   go_wp2
   simp only[QN]
   exact⟨v1,v2,v3,v4,v5,_,rfl,HC.out.st5 h6⟩
  ·cases ho
   have e1:=HC.out.s1 (hj 1 (by decide))
   have h4:=hj 4 (by decide)
   obtain⟨c,e4,hc1,hc2⟩:=HC.out.s4 h4
   rw[hi]at hc2
   subst e1 e4
   have hc2:W.heap[c]? =some (.cells Z7 62 (0,0)):=hc2
   have y4: ∀j,W.cell? ⟨c,j,none⟩=Z7[j]? :=fun j=>cell_of_row _ _ _ _ _ _ hc2
   unfold Z7 at y4
   have y5: ∀j,W.frozen? ⟨c,j,none⟩=false:=fun j=>frz_of hc2
   clear hc2
   unfold lyA
   go_wp2
   simp only[QN]
   exact⟨v1,_,v3,v4,_,v6,rfl,HC.out.st6 h4 hi rfl⟩
  ·cases ho
   have e1:=HC.out.s3 (hj 3 (by decide))
   have h4:=hj 5 (by decide)
   obtain⟨c,e4,hc1,hc2⟩:=HC.out.s5 h4
   rw[hi]at hc2
   subst e1 e4
   have hc2:W.heap[c]? =some (.cells Z7 62 (0,0)):=hc2
   have y4: ∀j,W.cell? ⟨c,j,none⟩=Z7[j]? :=fun j=>cell_of_row _ _ _ _ _ _ hc2
   unfold Z7 at y4
   have y5: ∀j,W.frozen? ⟨c,j,none⟩=false:=fun j=>frz_of hc2
   clear hc2
   unfold lyA
   go_wp2
   simp only[QN]
   exact⟨v1,v2,v3,_,v5,_,rfl,HC.out.st7 h4 hi rfl⟩
 ·intro L v1 v2 v3 v4 v5 v6 W hL C
  simp only[put6,putL,List.foldl_cons,List.foldl_nil,List.setIfInBounds_toArray,List.set_cons_succ,List.set_cons_zero]
  have h4:=C.s4 (hL 4 (by decide))
  have h5:=C.s5 (hL 5 (by decide))
  have h45:=C.ne (hL 4 (by decide)) (hL 5 (by decide))
  rw[if_pos (hL 6 (by decide))]at h4
  rw[if_pos (hL 7 (by decide))]at h5
  obtain⟨b9,rfl,hb9,hc9⟩:=h4
  obtain⟨b10,rfl,hb10,hc10⟩:=h5
  have hne:b9≠b10:=fun e=>h45 (by rw[e])
  have hWQ:=C.b
  clear C hL h45
  go_upto_region 12 with fail
  have hm0:MvI w.heap.size w (W.alloc (.cells #[.int .i64 0] 37)) w.heap.size (w.heap.size+1) wo.heap.size b9 b10 W.heap.size f t h src x base words (lsH h):=by
   obtain⟨-,g2,g3,g4,g5,g6,g7⟩:=HX.out
   have hs1:=g6.size
   have hs2:=hWQ.size
   have hW:=g6.trans (hWQ.mono hs1)
   have ha:=(Below.refl W.heap.size W).alloc (Nat.le_refl _) (.cells #[.int .i64 0] 37)
   have kk: ∀c O,WQ.heap[c]? =some O→(W.alloc (.cells #[.int .i64 0] 37)).heap[c]? =some O:=fun c O hc=>(ha.block c (Nat.lt_of_lt_of_le (heap_lt hc) hs2)).trans ((hWQ.block c (heap_lt hc)).trans hc)
   refine⟨hW.alloc (by omega) _,⟨Nat.le_refl _,by omega,by omega,by omega,by omega,by omega⟩,kk _ _ g3,kk _ _ g4,kk _ _ g2,(ha.block _ (heap_lt hc9)).trans hc9,(ha.block _ (heap_lt hc10)).trans hc10,heap_alloc_new W _,fun j hj=>rfl,fun j hj=> ?_,HOW.out.apart,fun j hj c hc=> ?_⟩
   ·have ho:=HOW.out.own j hj
    exact owns_block (own_lower ho (by omega)) fun c hc=>by
     have:=(ho.lt c hc).2
     rw[ha.block c (by omega),hWQ.block c (by omega),g7.block c this]
   ·have:=(HOW.out.own j hj).lt c hc
    omega
  have HM0:=Lib.hid hm0
  have hcur:(W.alloc (.cells #[.int .i64 0] 37)).cell? ⟨wo.heap.size,9,none⟩=some (.slice a4 (lsH h 4).length q4):=by
   rw[cell_of_row _ _ _ _ _ _ hm0.nb,←HE.out.2.2.2.2];rfl
  obtain⟨W1,hW1⟩: ∃W1,W1=W.alloc (.cells #[.int .i64 0] 37):=⟨_,rfl⟩
  rw[←hW1]at HM0 hcur⊢
  clear hm0 hW1 HX hWQ hc9 hc10 HLH HLN
  have hff:f.fits:=by rw[HF.out];exact HH.out.lay
  have hc4:=HM0.out.call_all hff htf (k:=4) (by omega) HH.out.rootsW (by have:=HH.out.roots;exact this) HZ.out
  rw[HE.out.2.2.2.2]at hc4
  have HC4:=Lib.hid hc4
  clear hc4
  go_upto_region 13 with (go_at_call 80;refine HC4.out.mono ?_;rintro e w6 ⟨rfl,hm6⟩)
  have HM6:=Lib.hid hm6
  have nb6:=hm6.nb
  rw[HE.out.1,HE.out.2.1,HE.out.2.2.1,HE.out.2.2.2.1,HE.out.2.2.2.2]at nb6
  have y6: ∀j,w6.cell? ⟨wo.heap.size,j,none⟩=(#[Value.int IntKind.u64 base,Value.int IntKind.i64 words,Value.int IntKind.i64 h.to,Value.bool h.cycle,Value.int IntKind.i64 h.scan,Value.slice a0 (lsH h 0).length q0,Value.slice a1 (lsH h 1).length q1,Value.slice a2 (lsH h 2).length q2,Value.slice a3 (lsH h 3).length q3,Value.slice a4 (lsH h 4).length q4]:Array Value)[j]? :=fun j=>cell_of_row _ _ _ _ _ _ nb6
  clear hm6 nb6
  clear HM0 HC4 hcur
  go_wp2_with fail
  have hPk: ∀k:Nat,k<4→ ∀P,P=(#[Value.int IntKind.i64 1,Value.slice a0 (lsH h 0).length q0,Value.int IntKind.i64 2,Value.slice a1 (lsH h 1).length q1,Value.int IntKind.i64 3,Value.slice a2 (lsH h 2).length q2,Value.int IntKind.i64 4,Value.slice a3 (lsH h 3).length q3]:Array Value)→
    ∀W,(Instr.index 130 (.agg P) (.int .i64 (k:Int))).run Try.prog W= .ok (.agg #[.int .i64 ((k+1:Nat):Int),x k]) W:=by
   intro k hk P e W
   rw[e]
   have hT:Try.prog.underlying 130=some (.array 4 129):=by kernel_rfl
   have:k=0∨k=1∨k=2∨k=3:=by omega
   rcases this with rfl|rfl|rfl|rfl
   ·rw[HE.out.1];simp[Instr.index,asIntOf,run_underlying hT,part]
   ·rw[HE.out.2.1];simp[Instr.index,asIntOf,run_underlying hT,part]
   ·rw[HE.out.2.2.1];simp[Instr.index,asIntOf,run_underlying hT,part]
   ·rw[HE.out.2.2.2.1];simp[Instr.index,asIntOf,run_underlying hT,part]
  obtain⟨P,hP⟩: ∃P,P=(#[Value.int IntKind.i64 1,Value.slice a0 (lsH h 0).length q0,Value.int IntKind.i64 2,Value.slice a1 (lsH h 1).length q1,Value.int IntKind.i64 3,Value.slice a2 (lsH h 2).length q2,Value.int IntKind.i64 4,Value.slice a3 (lsH h 3).length q3]:Array Value):=⟨_,rfl⟩
  rw[←hP]
  have HP:=Lib.hid fun k hk=>hPk k hk P hP
  clear hPk hP y6
  go_loopw [77] (fun kv wr=> ∃k:Nat,kv= .int .i64 k∧k≤4∧Hid (MvI w.heap.size w wr w.heap.size (w.heap.size+1) wo.heap.size b9 b10 W.heap.size f t h src x base words (LkM f t h p k))) (fun kv _=>4- (intOf kv).toNat)
  case atStart=>
   refine⟨0,rfl,by omega,Lib.hid ((HM6.out.keep ((Below.refl _ w6).alloc (Nat.le_refl _) _)).congr fun j hj=> ?_)⟩
   unfold LkM
   by_cases h4:j=4
   ·rw[if_pos h4,if_pos h4];rfl
   ·rw[if_neg h4,if_neg h4,if_neg (by omega)]
  case round=>
   obtain⟨k,rfl,hk,HI⟩:=hrel
   by_cases hlt:k<4
   ·have hlt':((k:Int) <4)=True:=eq_true (by omega)
    have hix:=HP.out k hlt wr
    obtain⟨ak,qk,hxk⟩:=own_form (HI.out.own k (by omega))
    rw[HI.out.len k (by omega)]at hxk
    rw[hxk]at hix
    obtain⟨kk,hkk⟩: ∃n:Nat,k+1=n:=⟨_,rfl⟩
    rw[hkk]at hix
    go_upto_region 17 with fail
    have HI8:=Lib.hid ((HI.out.keep ((Below.refl _ wr).alloc (Nat.le_refl _) (.cells #[.int .i64 (kk:Int),.slice ak (lsH h k).length qk] 129))).congr fun j _=>LkI0 hlt j)
    have b15:=heap_alloc_new wr (.cells #[.int .i64 (kk:Int),.slice ak (lsH h k).length qk] 129)
    have hs15: ∀c,(x k).ownBlock=some c→c<wr.heap.size:=fun c hc=>((HI.out.own k (by omega)).lt c hc).2
    have hz8:(wr.alloc (.cells #[.int .i64 (kk:Int),.slice ak (lsH h k).length qk] 129)).heap.size=wr.heap.size+1:=by simp
    obtain⟨W8,hW8⟩: ∃W8,W8=wr.alloc (.cells #[.int .i64 (kk:Int),.slice ak (lsH h k).length qk] 129):=⟨_,rfl⟩
    rw[←hW8]at HI8 b15 hz8⊢
    clear hW8 hix
    have hcO:Calls Try.prog 34 #[hpA h src,.int .i64 (kk:Int)] W8 fun e w'=> ∃v,e= .returned (.tuple #[v,.int .i64 0])∧Below W8.heap.size W8 w'∧ObsAt w' (p.at (kk:Int)) v (fun b=>G b∨W8.heap.size≤b):=by
     have:=obs20_calls (w:=W8) (G:=G) (x:=src) HH.out HRT.out k hlt (fun b hb'=>Nat.lt_of_lt_of_le (hG b hb') HI8.out.below.size) (HI8.out.rd hG HS.out)
     rw[hkk]at this
     exact this
    have HCO:=Lib.hid hcO
    have yh8: ∀j,W8.cell? ⟨w.heap.size,j,none⟩=(#[.int .u64 h.base,.int .i64 h.cap,.int .i64 h.to,.bool h.cycle,.int .i64 h.scan,src 0,src 1,src 2,src 3,src 4]:Array Value)[j]? :=fun j=>cell_of_row _ _ _ _ _ _ HI8.out.hb
    have yp8: ∀j,W8.cell? ⟨wr.heap.size,j,none⟩=(#[.int .i64 (kk:Int),.slice ak (lsH h k).length qk]:Array Value)[j]? :=fun j=>cell_of_row _ _ _ _ _ _ b15
    have B15:=Lib.hid b15
    clear hcO b15
    go_upto_region 18 with (go_at_call 34;refine HCO.out.mono ?_;rintro e w9 ⟨vo,rfl,hb9',hobs⟩)
    obtain⟨ao,co,rfl,hobs⟩:=hobs
    have HB9:=Lib.hid hb9'
    have HI9:=Lib.hid (HI8.out.keep hb9')
    have B159:=Lib.hid ((hb9'.block _ (heap_lt B15.out)).trans B15.out)
    have HOB:=Lib.hid hobs
    clear hb9' hobs HCO yh8 yp8
    go_wp2_with fail
    generalize wr=w3 at*
    go_loopw [93] (fun iv wi=> ∃i:Nat,iv= .int .i64 i∧i≤(p.at (kk:Int)).length∧Hid (w9.grownBy wi (x k).ownBlock∧MvI w.heap.size w wi w.heap.size (w.heap.size+1) wo.heap.size b9 b10 W.heap.size f t h src x base words (LkI f t h p k i))) (fun iv _=>(p.at (kk:Int)).length- (intOf iv).toNat)
    case atStart=>exact⟨0,rfl,by omega,Lib.hid ⟨grown_of (Below.refl _ _) _,HI9.out⟩⟩
    case round=>
     obtain⟨i,rfl,hi,HK⟩:=hrel
     by_cases hil:i< (p.at (kk:Int)).length
     ·have hil':((i:Int) < ((p.at (kk:Int)).length:Int))=True:=eq_true (by omega)
      obtain⟨o,hx⟩: ∃o,(p.at (kk:Int))[i]? =some o:=⟨_,List.getElem?_eq_getElem hil⟩
      obtain⟨a,s,m,ea,es,em,hal,hs,hm,hgo,hng⟩:=HB.out k hlt i o (by rw[hkk];exact hx) _ rfl
      obtain⟨g,og,rfl,hGg,hgs,hcells⟩:=HOB.out (by omega)
      have hown: ∀c,(x k).ownBlock=some c→w.heap.size≤c∧c<w3.heap.size:=fun c hc=>(HI.out.own k (by omega)).lt c hc
      have hgi:wr.heap[g]? =w9.heap[g]? :=HK.out.1.block g hgs (fun e=>by
       have h1:=hown g e.symm
       rcases hGg with h2|h2
       ·have:=hG g h2;omega
       ·omega)
      have h15:wr.heap[w3.heap.size]? =some (.cells #[.int .i64 (kk:Int),.slice ak (lsH h k).length qk] 129 (0,0)):=(HK.out.1.block _ (heap_lt B159.out) (fun e=>by have h1:=hown _ e.symm;omega)).trans B159.out
      have y15: ∀j,wr.cell? ⟨w3.heap.size,j,none⟩=(#[.int .i64 (kk:Int),.slice ak (lsH h k).length qk]:Array Value)[j]? :=fun j=>cell_of_row _ _ _ _ _ _ h15
      obtain⟨c0,c1,c2,c3,c4⟩:=hcells i o hx
      have d0:wr.cell? ⟨g,og+i*5,none⟩=some (.int .i64 a):=by rw[World.cell?_of_block hgi,c0,ea]
      have d1:wr.cell? ⟨g,og+i*5+1,none⟩=some (.int .i64 s):=by rw[World.cell?_of_block hgi,c1,es]
      have d2:wr.cell? ⟨g,og+i*5+2,none⟩=some (.int .i64 m):=by rw[World.cell?_of_block hgi,c2,em]
      have d3:wr.cell? ⟨g,og+i*5+3,none⟩=some (.bool o.gone):=by rw[World.cell?_of_block hgi,c3]
      have d4:wr.cell? ⟨g,og+i*5+4,none⟩=some (.int .u64 o.target):=by rw[World.cell?_of_block hgi,c4]
      have hlenk:(lsH h k).length≤1000000:=lsH_len HH.out k
      have hg1:g<wr.heap.size:=Nat.lt_of_lt_of_le hgs HK.out.1.size
      have hg2:w3.heap.size<wr.heap.size:=heap_lt h15
      clear c0 c1 c2 c3 c4 hcells hgi h15
      go_upto_region 23 with fail
      have HK4:=Lib.hid (HK.out.2.keep ((Below.refl _ wr).alloc (Nat.le_refl _) (.cells #[.int .i64 (a:Int),.int .i64 (s:Int),.int .i64 (m:Int),.bool o.gone,.int .u64 o.target] 57)))
      have HG4:=Lib.hid (grown_trans HK.out.1 (grown_of ((Below.refl _ wr).alloc (Nat.le_refl _) (.cells #[.int .i64 (a:Int),.int .i64 (s:Int),.int .i64 (m:Int),.bool o.gone,.int .u64 o.target] 57)) _))
      have b19:=heap_alloc_new wr (.cells #[.int .i64 (a:Int),.int .i64 (s:Int),.int .i64 (m:Int),.bool o.gone,.int .u64 o.target] 57)
      have y15': ∀j,(wr.alloc (.cells #[.int .i64 (a:Int),.int .i64 (s:Int),.int .i64 (m:Int),.bool o.gone,.int .u64 o.target] 57)).cell? ⟨w3.heap.size,j,none⟩=(#[.int .i64 (kk:Int),.slice ak (lsH h k).length qk]:Array Value)[j]? :=fun j=>(World.cell?_alloc_lt _ _ _ hg2).trans (y15 j)
      clear d0 d1 d2 d3 d4 y15
      obtain⟨W4,hW4⟩: ∃u,u=wr.alloc (.cells #[.int .i64 (a:Int),.int .i64 (s:Int),.int .i64 (m:Int),.bool o.gone,.int .u64 o.target] 57):=⟨_,rfl⟩
      rw[←hW4]at HK4 HG4 b19 y15'⊢
      have y19: ∀j,W4.cell? ⟨wr.heap.size,j,none⟩=(#[.int .i64 (a:Int),.int .i64 (s:Int),.int .i64 (m:Int),.bool o.gone,.int .u64 o.target]:Array Value)[j]? :=fun j=>cell_of_row _ _ _ _ _ _ b19
      clear hW4 b19
      obtain⟨gk,rfl,hcap⟩: ∃gk,ak=some ⟨gk,0,none⟩∧(lsH h k).length≤qk:=by
       have ho:=HK.out.2.own k (by omega)
       have hlk:=HK.out.2.len k (by omega)
       rcases ho.2 with ⟨hv,h0⟩ | ⟨gg,cap,cur,hv,_,_,hc,_⟩
       ·omega
       ·rw[hxk]at hv
        simp only[Value.slice.injEq]at hv
        obtain⟨r1,r2,r3⟩:=hv
        exact⟨gg,r1,by omega⟩
      obtain⟨n1,hn1⟩: ∃n:Nat,a+1=n:=⟨_,rfl⟩
      obtain⟨n2,hn2⟩: ∃n:Nat,n1+m=n:=⟨_,rfl⟩
      have v1:IntKind.i64.wrap ((a:Int)+1)=(n1:Int):=by rw[wrap_i _ (by omega) (by omega)];omega
      have v2:IntKind.i64.wrap ((n1:Int)+m)=(n2:Int):=by rw[wrap_i _ (by omega) (by omega)];omega
      have hpl:(p.at (kk:Int)).length≤1000000:=by
       have po:=parts_ok HH.out HRT.out.parts
       have:=po.len (kk:Int)
       have:=(partH_ok HH.out (kk:Int)).2
       omega
      have v3:=wrap_i ((i:Int)+1) (by omega) (by omega)
      have hU:=LkI_u (f:=f) (t:=t) HH.out (p:=p) (i:=i) hlt
      have hLl:(lsH h k).length=(LkI f t h p k i k).length:=(HK.out.2.len k (by omega)).symm
      have hLe:LkI f t h p k i k=((p.at ((k+1:Nat):Int)).take i).foldl (mvOb f t (lsH h k)) (lsH h k):=by unfold LkI;rw[if_pos rfl]
      rw[←hLe]at hgo hng
      have HLl:=Lib.hid hLl
      clear hLl hLe
      cases hg:o.gone with
      |true=>
       obtain⟨hmv,hz⟩:=hgo hg
       rw[hg]at y19
       have hmv':mvPs f t (LkI f t h p k i k) (LkI f t h p k i k) a (n1-a)=mvOb f t (lsH h k) (LkI f t h p k i k) o:=by rw[show n1-a=1 by omega];exact hmv
       have hc:=HK4.out.call_sub hff htf (k:=k) (by omega) hU.1 hU.2 HLl.out hxk (lo:=a) (mm:=n1-a) (by omega) (fun j hj v hv=>hz v (by have e:j=0:=(by omega);subst e;exact hv)) (fun _=>rfl)
       rw[hmv']at hc
       have HC:=Lib.hid hc
       have q1: ¬qk=a:=by omega
       have q2:a≤qk:=by omega
       have q3:n1≤qk:=by omega
       have q4:a≤n1:=by omega
       clear hc hmv hmv'
       go_wp2_with (go_at_call 80;refine HC.out.mono ?_;rintro e w5 ⟨rfl,hm5,hg5⟩;have HM5:=Lib.hid (And.intro hm5 hg5);clear hm5 hg5)
       go_roundw
       case rel=>exact⟨i+1,by go_num,by omega,Lib.hid ⟨grown_trans HG4.out (by rw[hxk];exact HM5.out.2),HM5.out.1.congr fun j _=>LkI_next (by rw[hkk];exact hx) rfl j⟩⟩
       case measure=>simp[intOf];omega
      |false=>
       obtain⟨hmv,hz⟩:=hng hg
       rw[hg]at y19
       have hmv':mvPs f t (LkI f t h p k i k) (LkI f t h p k i k) n1 (n2-n1)=mvOb f t (lsH h k) (LkI f t h p k i k) o:=by rw[show n2-n1=m by omega,←hn1];exact hmv
       by_cases q1:qk=n1
       ·have hc:=HK4.out.call_sub hff htf (k:=k) (by omega) hU.1 hU.2 HLl.out hxk (lo:=n1) (mm:=n2-n1) (by omega) (fun j hj v hv=>hz j (by omega) v (by rw[hn1];exact hv)) (a:=some ⟨gk,0,none⟩) (fun h0=>by omega)
        rw[hmv']at hc
        have HC:=Lib.hid hc
        have q2:n1≤qk:=by omega
        have q3:n2≤qk:=by omega
        have q4:n1≤n2:=by omega
        have q5:(qk=n1)=True:=eq_true q1
        clear hc hmv hmv' q1
        go_wp2_with (go_at_call 80;refine HC.out.mono ?_;rintro e w5 ⟨rfl,hm5,hg5⟩;have HM5:=Lib.hid (And.intro hm5 hg5);clear hm5 hg5)
        go_roundw
        case rel=>exact⟨i+1,by go_num,by omega,Lib.hid ⟨grown_trans HG4.out (by rw[hxk];exact HM5.out.2),HM5.out.1.congr fun j _=>LkI_next (by rw[hkk];exact hx) rfl j⟩⟩
        case measure=>simp[intOf];omega
       ·have hc:=HK4.out.call_sub hff htf (k:=k) (by omega) hU.1 hU.2 HLl.out hxk (lo:=n1) (mm:=n2-n1) (by omega) (fun j hj v hv=>hz j (by omega) v (by rw[hn1];exact hv)) (a:=some ⟨gk,n1,none⟩) (fun h0=>rfl)
        rw[hmv']at hc
        have HC:=Lib.hid hc
        have q2:n1≤qk:=by omega
        have q3:n2≤qk:=by omega
        have q4:n1≤n2:=by omega
        clear hc hmv hmv'
        go_wp2_with (go_at_call 80;refine HC.out.mono ?_;rintro e w5 ⟨rfl,hm5,hg5⟩;have HM5:=Lib.hid (And.intro hm5 hg5);clear hm5 hg5)
        go_roundw
        case rel=>exact⟨i+1,by go_num,by omega,Lib.hid ⟨grown_trans HG4.out (by rw[hxk];exact HM5.out.2),HM5.out.1.congr fun j _=>LkI_next (by rw[hkk];exact hx) rfl j⟩⟩
        case measure=>simp[intOf];omega
     ·have hie:i=(p.at (kk:Int)).length:=by omega
      have hil':((i:Int) < ((p.at (kk:Int)).length:Int))=False:=eq_false (by omega)
      clear hil
      go_wp2
      go_roundw
      case rel=>exact⟨k+1,by go_num,by omega,Lib.hid (HK.out.2.congr fun j _=>by rw[hie,←hkk];exact(LkI1 hlt j).symm)⟩
      case measure=>simp[intOf];omega
   ·have hk4:k=4:=by omega
    subst hk4
    have nb:=HI.out.nb
    rw[HE.out.1,HE.out.2.1,HE.out.2.2.1,HE.out.2.2.2.1,HE.out.2.2.2.2]at nb
    have yn: ∀j,wr.cell? ⟨wo.heap.size,j,none⟩=(#[Value.int IntKind.u64 base,Value.int IntKind.i64 words,Value.int IntKind.i64 h.to,Value.bool h.cycle,Value.int IntKind.i64 h.scan,Value.slice a0 (lsH h 0).length q0,Value.slice a1 (lsH h 1).length q1,Value.slice a2 (lsH h 2).length q2,Value.slice a3 (lsH h 3).length q3,Value.slice a4 (lsH h 4).length q4]:Array Value)[j]? :=fun j=>cell_of_row _ _ _ _ _ _ nb
    have yw:wr.cell? ⟨W.heap.size,0,none⟩=some (.int .i64 0):=by rw[cell_of_row _ _ _ _ _ _ HI.out.wb];rfl
    have yz: ∀j,wr.cell? ⟨w.heap.size+1,j,none⟩=zeroA[j]? :=fun j=>cell_of_row _ _ _ _ _ _ HI.out.rb
    unfold zeroA at yz
    have fz: ∀j,wr.frozen? ⟨w.heap.size+1,j,none⟩=false:=fun j=>frz_of HI.out.rb
    clear nb
    go_wp2_with fail
    have y:=put10_cells HI.out.rb (.int .u64 base) (.int .i64 words) (.int .i64 h.to) (.bool h.cycle) (.int .i64 h.scan) (.slice a0 (lsH h 0).length q0) (.slice a1 (lsH h 1).length q1) (.slice a2 (lsH h 2).length q2) (.slice a3 (lsH h 3).length q3) (.slice a4 (lsH h 4).length q4)
    refine bodyPost_ret (v:= .tuple #[.agg #[Value.int IntKind.u64 base,Value.int IntKind.i64 words,Value.int IntKind.i64 h.to,Value.bool h.cycle,Value.int IntKind.i64 h.scan,Value.slice a0 (lsH h 0).length q0,Value.slice a1 (lsH h 1).length q1,Value.slice a2 (lsH h 2).length q2,Value.slice a3 (lsH h 3).length q3,Value.slice a4 (lsH h 4).length q4],.int .i64 0]) ?_ rfl ?_
    ·simp[results,Try.results46,go_sem,y]
    ·refine⟨x,?_,put10_below HI.out.below (by omega) _ _ _ _ _ _ _ _ _ _,fun j hj=> ?_⟩
     ·unfold hpA
      rw[HE.out.1,HE.out.2.1,HE.out.2.2.1,HE.out.2.2.2.1,HE.out.2.2.2.2]
      rfl
     ·have ho:=HI.out.own j hj
      have hls:lsH (movM h p base words) j=LkM f t h p 4 j:=by
       have:j=0∨j=1∨j=2∨j=3∨j=4:=by omega
       rcases this with rfl|rfl|rfl|rfl|rfl
       ·rw[HF.out,HT.out];rfl
       ·rw[HF.out,HT.out];rfl
       ·rw[HF.out,HT.out];rfl
       ·rw[HF.out,HT.out];rfl
       ·show _=mvPs f t h.roots h.roots 0 h.roots.length
        rw[HM.out,HF.out,HT.out];rfl
      rw[hls]
      exact own_rd (owns_block ho fun c hc=>put10_other (HI.out.far j hj c hc).2.1 _ _ _ _ _ _ _ _ _ _) fun c h1 h2=>⟨h1,h2⟩
end Vm
end
section
namespace Vm
open Go Go.Proofs Go.RowKit
set_option maxHeartbeats 4000000
set_option maxRecDepth 100000
theorem Move_e1(w:World)(G:Nat→Prop)(hG: ∀b,G b→b<w.heap.size)(h:Hp)(hh:h.ok)(src:Nat→Value)(hs: ∀j,j<5→Rd w G (.sl ((lsH h j).map vu)) (src j))(base words:Int)(hb0:base=0):
  Calls Try.prog 46 #[hpA h src,.int .u64 base,.int .i64 words] w (MovePost w (Hp.zero,1)):=by
 have e0:(base==0)=true:=by simpa using hb0
 clear hs
 unfold hpA
 go_enter Try.func46,Try.ntmps46
 go_wp2
 have hz:=fun j=>cell_of_row _ _ j _ _ _ (zero_new w (.cells #[.int .u64 h.base,.int .i64 h.cap,.int .i64 h.to,.bool h.cycle,.int .i64 h.scan,src 0,src 1,src 2,src 3,src 4] 31))
 unfold zeroA at hz
 refine bodyPost_ret (v:= .tuple #[.agg zeroA,.int .i64 1]) ?_ rfl ?_
 ·simp[results,Try.results46,go_sem,hz,zeroA]
 ·exact⟨fun _=> .slice none 0 0,rfl,((Below.refl _ w).alloc (Nat.le_refl _) _).alloc (by simp) _,zero_rd _ _⟩
theorem Move_e2(w:World)(G:Nat→Prop)(hG: ∀b,G b→b<w.heap.size)(h:Hp)(hh:h.ok)(src:Nat→Value)(hs: ∀j,j<5→Rd w G (.sl ((lsH h j).map vu)) (src j))(base words:Int)(hb0: ¬base=0)(hw0:words<0):
  Calls Try.prog 46 #[hpA h src,.int .u64 base,.int .i64 words] w (MovePost w (Hp.zero,1)):=by
 have e0:(base==0)=false:=by simpa using hb0
 have e1:(words<0)=True:=eq_true hw0
 clear hs
 unfold hpA
 go_enter Try.func46,Try.ntmps46
 go_wp2
 have hz:=fun j=>cell_of_row _ _ j _ _ _ (zero_new w (.cells #[.int .u64 h.base,.int .i64 h.cap,.int .i64 h.to,.bool h.cycle,.int .i64 h.scan,src 0,src 1,src 2,src 3,src 4] 31))
 unfold zeroA at hz
 refine bodyPost_ret (v:= .tuple #[.agg zeroA,.int .i64 1]) ?_ rfl ?_
 ·simp[results,Try.results46,go_sem,hz,zeroA]
 ·exact⟨fun _=> .slice none 0 0,rfl,((Below.refl _ w).alloc (Nat.le_refl _) _).alloc (by simp) _,zero_rd _ _⟩
theorem Move_e3(w:World)(G:Nat→Prop)(hG: ∀b,G b→b<w.heap.size)(h:Hp)(hh:h.ok)(src:Nat→Value)(hs: ∀j,j<5→Rd w G (.sl ((lsH h j).map vu)) (src j))(base words:Int)(hb0: ¬base=0)(hw0: ¬words<0)(hw1:4096<words):
  Calls Try.prog 46 #[hpA h src,.int .u64 base,.int .i64 words] w (MovePost w (Hp.zero,1)):=by
 have e0:(base==0)=false:=by simpa using hb0
 have e1:(words<0)=False:=eq_false hw0
 have e2:(4096<words)=True:=eq_true hw1
 clear hs
 unfold hpA
 go_enter Try.func46,Try.ntmps46
 go_wp2
 have hz:=fun j=>cell_of_row _ _ j _ _ _ (zero_new w (.cells #[.int .u64 h.base,.int .i64 h.cap,.int .i64 h.to,.bool h.cycle,.int .i64 h.scan,src 0,src 1,src 2,src 3,src 4] 31))
 unfold zeroA at hz
 refine bodyPost_ret (v:= .tuple #[.agg zeroA,.int .i64 1]) ?_ rfl ?_
 ·simp[results,Try.results46,go_sem,hz,zeroA]
 ·exact⟨fun _=> .slice none 0 0,rfl,((Below.refl _ w).alloc (Nat.le_refl _) _).alloc (by simp) _,zero_rd _ _⟩
theorem Move_e4(w:World)(G:Nat→Prop)(hG: ∀b,G b→b<w.heap.size)(h:Hp)(hh:h.ok)(src:Nat→Value)(hs: ∀j,j<5→Rd w G (.sl ((lsH h j).map vu)) (src j))(base words:Int)(hb0: ¬base=0)(hw0: ¬words<0)(hw1: ¬4096<words)(hr:rightR h=false):
  Calls Try.prog 46 #[hpA h src,.int .u64 base,.int .i64 words] w (MovePost w (Hp.zero,1)):=by
 have hR: ∀W,Below w.heap.size w W→Calls Try.prog 30 #[hpA h src] W fun e w'=>e= .returned (.bool (rightR h))∧Below W.heap.size W w':=fun W hb=>
  right20_calls (w:=W) (G:=G) (x:=src) hh (fun b hb'=>Nat.lt_of_lt_of_le (hG b hb') hb.size) (fun j hj=>(hs j hj).keep (fun b hb'=>hb.block b (hG b hb')) fun _ q=>q)
 rw[hr]at hR
 have HR:=Lib.hid hR
 clear hR
 have e0:(base==0)=false:=by simpa using hb0
 have e1:(words<0)=False:=eq_false hw0
 have e2:(4096<words)=False:=eq_false hw1
 clear hs hr
 unfold hpA
 go_enter Try.func46,Try.ntmps46
 go_wp2_with (first
  | (go_at_call 30;refine(HR.out _ ?_).mono ?_;rotate_left;rintro e wa ⟨rfl,hba⟩
     have bA:wa.heap[w.heap.size]? =some (.cells #[.int .u64 h.base,.int .i64 h.cap,.int .i64 h.to,.bool h.cycle,.int .i64 h.scan,src 0,src 1,src 2,src 3,src 4] 31 (0,0)):=(hba.block _ (by simp;omega)).trans ((Below.heap_alloc _ _ _ (by simp)).trans (heap_alloc_new w _))
     have bZ:wa.heap[w.heap.size+1]? =some (.cells zeroA 31 (0,0)):=(hba.block _ (by simp)).trans (zero_new w _)
     have ya: ∀j,wa.cell? ⟨w.heap.size,j,none⟩=(#[.int .u64 h.base,.int .i64 h.cap,.int .i64 h.to,.bool h.cycle,.int .i64 h.scan,src 0,src 1,src 2,src 3,src 4]:Array Value)[j]? :=fun j=>cell_of_row _ _ _ _ _ _ bA
     have yz: ∀j,wa.cell? ⟨w.heap.size+1,j,none⟩=zeroA[j]? :=fun j=>cell_of_row _ _ _ _ _ _ bZ
     unfold zeroA at yz
     have fz: ∀j,wa.frozen? ⟨w.heap.size+1,j,none⟩=false:=fun j=>frz_of bZ
     have HBA:=Lib.hid hba
     have HBZ:=Lib.hid bZ
     clear hba bA bZ))
 case refine_1=>exact((Below.refl _ w).alloc (Nat.le_refl _) _).alloc (by simp) _
 have hz:=put10_cells HBZ.out (.int .u64 0) (.int .i64 0) (.int .i64 0) (.bool false) (.int .i64 0) (.slice none 0 0) (.slice none 0 0) (.slice none 0 0) (.slice none 0 0) (.slice none 0 0)
 refine bodyPost_ret (v:= .tuple #[.agg zeroA,.int .i64 1]) ?_ rfl ?_
 ·simp[results,Try.results46,go_sem,hz,zeroA]
 ·exact⟨fun _=> .slice none 0 0,rfl,put10_below (Below.trans (((Below.refl _ w).alloc (Nat.le_refl _) _).alloc (by simp) _) (HBA.out.mono (by simp;omega))) (by omega) _ _ _ _ _ _ _ _ _ _,zero_rd _ _⟩
theorem Move_e5(w:World)(G:Nat→Prop)(hG: ∀b,G b→b<w.heap.size)(h:Hp)(hh:h.ok)(src:Nat→Value)(hs: ∀j,j<5→Rd w G (.sl ((lsH h j).map vu)) (src j))(base words:Int)(hb0: ¬base=0)(hw0: ¬words<0)(hw1: ¬4096<words)(hr:rightR h=true)(hc:words<h.cap):
  Calls Try.prog 46 #[hpA h src,.int .u64 base,.int .i64 words] w (MovePost w (Hp.zero,8)):=by
 have hR: ∀W,Below w.heap.size w W→Calls Try.prog 30 #[hpA h src] W fun e w'=>e= .returned (.bool (rightR h))∧Below W.heap.size W w':=fun W hb=>
  right20_calls (w:=W) (G:=G) (x:=src) hh (fun b hb'=>Nat.lt_of_lt_of_le (hG b hb') hb.size) (fun j hj=>(hs j hj).keep (fun b hb'=>hb.block b (hG b hb')) fun _ q=>q)
 rw[hr]at hR
 have HR:=Lib.hid hR
 clear hR
 have e0:(base==0)=false:=by simpa using hb0
 have e1:(words<0)=False:=eq_false hw0
 have e2:(4096<words)=False:=eq_false hw1
 have e3:(words<h.cap)=True:=eq_true hc
 clear hs hr
 unfold hpA
 go_enter Try.func46,Try.ntmps46
 go_wp2_with (first
  | (go_at_call 30;refine(HR.out _ ?_).mono ?_;rotate_left;rintro e wa ⟨rfl,hba⟩
     have bA:wa.heap[w.heap.size]? =some (.cells #[.int .u64 h.base,.int .i64 h.cap,.int .i64 h.to,.bool h.cycle,.int .i64 h.scan,src 0,src 1,src 2,src 3,src 4] 31 (0,0)):=(hba.block _ (by simp;omega)).trans ((Below.heap_alloc _ _ _ (by simp)).trans (heap_alloc_new w _))
     have bZ:wa.heap[w.heap.size+1]? =some (.cells zeroA 31 (0,0)):=(hba.block _ (by simp)).trans (zero_new w _)
     have ya: ∀j,wa.cell? ⟨w.heap.size,j,none⟩=(#[.int .u64 h.base,.int .i64 h.cap,.int .i64 h.to,.bool h.cycle,.int .i64 h.scan,src 0,src 1,src 2,src 3,src 4]:Array Value)[j]? :=fun j=>cell_of_row _ _ _ _ _ _ bA
     have yz: ∀j,wa.cell? ⟨w.heap.size+1,j,none⟩=zeroA[j]? :=fun j=>cell_of_row _ _ _ _ _ _ bZ
     unfold zeroA at yz
     have fz: ∀j,wa.frozen? ⟨w.heap.size+1,j,none⟩=false:=fun j=>frz_of bZ
     have HBA:=Lib.hid hba
     have HBZ:=Lib.hid bZ
     clear hba bA bZ))
 case refine_1=>exact((Below.refl _ w).alloc (Nat.le_refl _) _).alloc (by simp) _
 have hz:=put10_cells HBZ.out (.int .u64 0) (.int .i64 0) (.int .i64 0) (.bool false) (.int .i64 0) (.slice none 0 0) (.slice none 0 0) (.slice none 0 0) (.slice none 0 0) (.slice none 0 0)
 refine bodyPost_ret (v:= .tuple #[.agg zeroA,.int .i64 8]) ?_ rfl ?_
 ·simp[results,Try.results46,go_sem,hz,zeroA]
 ·exact⟨fun _=> .slice none 0 0,rfl,put10_below (Below.trans (((Below.refl _ w).alloc (Nat.le_refl _) _).alloc (by simp) _) (HBA.out.mono (by simp;omega))) (by omega) _ _ _ _ _ _ _ _ _ _,zero_rd _ _⟩
theorem Move_e6(w:World)(G:Nat→Prop)(hG: ∀b,G b→b<w.heap.size)(h:Hp)(hh:h.ok)(src:Nat→Value)(hs: ∀j,j<5→Rd w G (.sl ((lsH h j).map vu)) (src j))(base words:Int)(hb0: ¬base=0)(hw0: ¬words<0)(hw1: ¬4096<words)(hr:rightR h=true)(hc: ¬words<h.cap)(ho:9223372036854775808-2*words<base):
  Calls Try.prog 46 #[hpA h src,.int .u64 base,.int .i64 words] w (MovePost w (Hp.zero,9)):=by
 have hR: ∀W,Below w.heap.size w W→Calls Try.prog 30 #[hpA h src] W fun e w'=>e= .returned (.bool (rightR h))∧Below W.heap.size W w':=fun W hb=>
  right20_calls (w:=W) (G:=G) (x:=src) hh (fun b hb'=>Nat.lt_of_lt_of_le (hG b hb') hb.size) (fun j hj=>(hs j hj).keep (fun b hb'=>hb.block b (hG b hb')) fun _ q=>q)
 rw[hr]at hR
 have HR:=Lib.hid hR
 clear hR
 have e0:(base==0)=false:=by simpa using hb0
 have e1:(words<0)=False:=eq_false hw0
 have e2:(4096<words)=False:=eq_false hw1
 have e3:(words<h.cap)=False:=eq_false hc
 have e4:(9223372036854775808-2*words<base)=True:=eq_true ho
 have w1:=wrap_u words (by omega) (by omega)
 have w2:=wrap_u (2*words) (by omega) (by omega)
 have w3:=wrap_u (9223372036854775808-2*words) (by omega) (by omega)
 clear hs hr
 unfold hpA
 go_enter Try.func46,Try.ntmps46
 go_wp2_with (first
  | (go_at_call 30;refine(HR.out _ ?_).mono ?_;rotate_left;rintro e wa ⟨rfl,hba⟩
     have bA:wa.heap[w.heap.size]? =some (.cells #[.int .u64 h.base,.int .i64 h.cap,.int .i64 h.to,.bool h.cycle,.int .i64 h.scan,src 0,src 1,src 2,src 3,src 4] 31 (0,0)):=(hba.block _ (by simp;omega)).trans ((Below.heap_alloc _ _ _ (by simp)).trans (heap_alloc_new w _))
     have bZ:wa.heap[w.heap.size+1]? =some (.cells zeroA 31 (0,0)):=(hba.block _ (by simp)).trans (zero_new w _)
     have ya: ∀j,wa.cell? ⟨w.heap.size,j,none⟩=(#[.int .u64 h.base,.int .i64 h.cap,.int .i64 h.to,.bool h.cycle,.int .i64 h.scan,src 0,src 1,src 2,src 3,src 4]:Array Value)[j]? :=fun j=>cell_of_row _ _ _ _ _ _ bA
     have yz: ∀j,wa.cell? ⟨w.heap.size+1,j,none⟩=zeroA[j]? :=fun j=>cell_of_row _ _ _ _ _ _ bZ
     unfold zeroA at yz
     have fz: ∀j,wa.frozen? ⟨w.heap.size+1,j,none⟩=false:=fun j=>frz_of bZ
     have HBA:=Lib.hid hba
     have HBZ:=Lib.hid bZ
     clear hba bA bZ))
 case refine_1=>exact((Below.refl _ w).alloc (Nat.le_refl _) _).alloc (by simp) _
 have hz:=put10_cells HBZ.out (.int .u64 0) (.int .i64 0) (.int .i64 0) (.bool false) (.int .i64 0) (.slice none 0 0) (.slice none 0 0) (.slice none 0 0) (.slice none 0 0) (.slice none 0 0)
 refine bodyPost_ret (v:= .tuple #[.agg zeroA,.int .i64 9]) ?_ rfl ?_
 ·simp[results,Try.results46,go_sem,hz,zeroA]
 ·exact⟨fun _=> .slice none 0 0,rfl,put10_below (Below.trans (((Below.refl _ w).alloc (Nat.le_refl _) _).alloc (by simp) _) (HBA.out.mono (by simp;omega))) (by omega) _ _ _ _ _ _ _ _ _ _,zero_rd _ _⟩
end Vm
end
section
namespace Vm
open Go Go.Proofs Go.RowKit
set_option maxHeartbeats 1000000
set_option maxRecDepth 100000
theorem lay_fits{h:Hp}(hh:h.ok){base words:Int}(hb:U64 base)(hw:Fit words):(layH {h with base:=base,cap:=words}).fits:=by
 obtain⟨_,_,q3,q4,q5,q6,q7⟩:=hh.lay
 exact⟨hb,hw,q3,q4,q5,q6,q7⟩
theorem Move_walk(w:World)(G:Nat→Prop)(hG: ∀b,G b→b<w.heap.size)(h:Hp)(hh:h.ok)(src:Nat→Value)(hs: ∀j,j<5→Rd w G (.sl ((lsH h j).map vu)) (src j))(base words:Int)(hb:U64 base)(hw:Fit words):
  Calls Try.prog 46 #[hpA h src,.int .u64 base,.int .i64 words] w (MovePost w (moveR h base words)):=by
 by_cases h1:base=0
 ·rw[show moveR h base words=(Hp.zero,1)by unfold moveR;rw[if_pos (.inr (.inl h1))]]
  exact Move_e1 w G hG h hh src hs base words h1
 by_cases h2:words<0
 ·rw[show moveR h base words=(Hp.zero,1)by unfold moveR;rw[if_pos (.inr (.inr (.inl h2)))]]
  exact Move_e2 w G hG h hh src hs base words h1 h2
 by_cases h3:4096<words
 ·rw[show moveR h base words=(Hp.zero,1)by unfold moveR;rw[if_pos (.inr (.inr (.inr h3)))]]
  exact Move_e3 w G hG h hh src hs base words h1 h2 h3
 cases hr:rightR h with
 |false=>
  rw[show moveR h base words=(Hp.zero,1)by unfold moveR;rw[if_pos (.inl hr)]]
  exact Move_e4 w G hG h hh src hs base words h1 h2 h3 hr
 |true=>
  have hn: ¬(rightR h=false∨base=0∨words<0∨4096<words):=by
   rintro(e|e|e|e)
   ·rw[hr]at e;cases e
   ·exact h1 e
   ·exact h2 e
   ·exact h3 e
  by_cases h4:words<h.cap
  ·rw[show moveR h base words=(Hp.zero,8)by unfold moveR;rw[if_neg hn,if_pos h4]]
   exact Move_e5 w G hG h hh src hs base words h1 h2 h3 hr h4
  by_cases h5:9223372036854775808-2*words<base
  ·rw[show moveR h base words=(Hp.zero,9)by unfold moveR;rw[if_neg hn,if_neg h4,if_pos h5]]
   exact Move_e6 w G hG h hh src hs base words h1 h2 h3 hr h4 h5
  obtain⟨p,r⟩:=right_iff.1 hr
  rw[show moveR h base words=(movM h p base words,0)by unfold moveR;rw[if_neg hn,if_neg h4,if_neg h5,r.parts,Option.getD_some]]
  have m:MvOk h base words:=⟨h1,by omega,by omega,by omega,by omega⟩
  have hr2:=m.right hb.1 r.lay
  exact Move_ok w G hG h hh src hs base words h1 h2 h3 h4 h5 r rfl rfl (lay_fits hh hb hw) (fun v hv=>gos_err0 r.toTld hr2 (by omega) (by omega) (r.roots v hv)) mvPs_all (move_hob r.toBody hr2 rfl rfl)
theorem Move_vc{h:Hp}(hh:h.ok){base words:Int}(hb:U64 base)(hw:Fit words):VC Try.prog 46 false [hpV h,vu base,vi words] (.tup [hpV (moveR h base words).1,vi (moveR h base words).2]):=by
 refine⟨by kernel_rfl,fun w G vs hG hsz hvs=> ?_⟩
 have r0:=hvs 0 _ rfl
 have r1:=hvs 1 _ rfl
 have r2:=hvs 2 _ rfl
 have he:vs= #[vs.getD 0 undef,vs.getD 1 undef,vs.getD 2 undef]:=by
  have hs3:vs.size=3:=hsz
  apply Array.ext
  ·simp[hs3]
  ·intro i h1 h2
   have hi:i<3:=by omega
   match i,hi with
   |0,_=>simp[Array.getD,hs3]
   |1,_=>simp[Array.getD,hs3]
   |2,_=>simp[Array.getD,hs3]
 obtain⟨src,e0,hs⟩:=hp_src r0
 rw[he,e0,rd_int_inv r1,rd_int_inv r2]
 refine(Move_walk w G hG h hh src hs base words hb hw).mono ?_
 rintro e w' ⟨x,rfl,hb',hr⟩
 refine⟨_,rfl,hb',?_⟩
 refine .tup _ _ rfl ?_
 intro i y hy
 match i,hy with
 |0,hy=>cases hy;exact hp_rd fun j hj=>(hr j hj).mono fun b hb=> .inr hb
 |1,hy=>cases hy;exact .int _ _
end Vm
end
section
namespace Go.Proofs.Ytfplljcicihneaa
open Vm Go.ChangeShapes Go.WideShapes Go.ChangeAt Go.RowKit
set_option maxRecDepth 100000
theorem moveWords_law(xs:List V)(hl:xs.length=Try.f14.params.toList.length)(ht: ∀(i:Nat) (t:TypeId) (x:V),Try.f14.params.toList[i]? =some t→xs[i]? =some x→tyV Try.prog 8 t x):
  VC Try.prog 14 false xs (.bool true):=by
 rw[Try.params14]at hl ht
 match xs,hl with
 | [x0,x1,x2],_=>
   obtain⟨x,rfl,hx⟩:=ty_rw (ht 0 _ x0 rfl rfl)
   obtain⟨b,rfl,hb⟩:=ty_vu (ht 1 _ x1 rfl rfl)
   obtain⟨m,rfl,hm⟩:=ty_vi (ht 2 _ x2 rfl rfl)
   exact law20Words (fun h b w hh hb hw=>Move_vc hh hb hw) hx hb hm
theorem moveWords_lifted(os:Os)(started:os.Started)(H:Type)(enc:TypeId×Value→H):
  ReturnsInHanded {} Try.checked os 14 .any (Rows.moveWordsSpec.pre6 enc Try.prog Try.f14 Rows.moveWordsRow.domain false) (Rows.moveWordsSpec.post enc Try.prog Try.f14 false true false false):=by
 refine returnsInHanded_of_change (C:=Try.checked) own started (by kernel_rfl) Try.func14
  (ChangeSpec.witness6 (enc:=enc) (C:=Try.checked) false ⟨#[], #[.agg #[.slice none 0 0,.slice none 0 0,.slice none 0 0,.int .u64 0,.int .i64 0,.int .i64 0,.int .i64 0],.int .u64 0,.int .i64 0],[]⟩ 8 (by kernel_rfl) (by kernel_rfl) (by kernel_rfl) (by kernel_rfl)) ?_
 intro W base args ds gs before hval hW _ _
 exact law_contract (tb:=4) 8 laidOut (by kernel_rfl) (by kernel_rfl) rfl (by kernel_rfl) Try.underlying4 (fun H ds hd=>by
  rw[Try.params14]at hd
  match ds,hd with
  | [_,_,_],_=>rfl) moveWords_law H enc W base args ds gs before hval hW
theorem moveWords_holds:Rows.MoveWordsSaid:=
 OpenClaim.holds_of_wide 14 Try.f14 rfl rfl rfl rfl rfl rfl rfl ⟨rfl,rfl,rfl,rfl,rfl⟩ rfl rfl rfl rfl rfl (by kernel_rfl) Try.func14 (by kernel_rfl)
  (of_decide_eq_true (by kernel_rfl)) (by unfold Func.isWrapper;first| (rw[if_pos (by decide+kernel)];kernel_rfl) | (rw[if_neg (by decide+kernel)];exact⟨rfl,rfl⟩))
  (fun os started H enc _=>moveWords_lifted os started H enc)
#print axioms moveWords_holds
end Go.Proofs.Ytfplljcicihneaa
end
