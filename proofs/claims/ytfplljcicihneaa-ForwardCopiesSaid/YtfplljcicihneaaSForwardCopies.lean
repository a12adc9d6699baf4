/-
  The law ForwardCopies holds of the given program, for every input.
-/
import Derived.Deep.RegionHeld3
import Derived.Test.YtfplljcicihneaaRows
import Derived.Test.YtfplljcicihneaaSForwardCopies5
set_option linter.unusedSimpArgs false
set_option linter.unusedVariables false
section
namespace Vm
open Go Go.Proofs
set_option maxRecDepth 100000
set_option maxHeartbeats 1000000
theorem sizL_part(h:Hp){k:Int}(hk:1≤k∧k≤4):sizL (layH h) k=(partH h k).length:=by
 have h1:k=1∨k=2∨k=3∨k=4:=by omega
 rcases h1 with rfl|rfl|rfl|rfl<;>rfl
theorem unpk_pack{s p:Int}(h:shapeOk s p=true):unpk (packW s p).1=(s,p,0):=by
 have h2:=shapeOk_iff.1 h
 unfold packW
 rw[if_pos h]
 unfold unpk
 have e1:2*(s+65536*p) / 2%65536=s:=by omega
 have e2:2*(s+65536*p) / 131072=p:=by omega
 simp only[e1,e2,h]
 rw[if_pos ⟨by omega,trivial⟩]
theorem isPtr_ref(h:Hp)(p:Pl):isPtr (refB h p)=true:=by
 unfold refB isPtr
 split
 ·rfl
 unfold ptrTo
 split
 ·rfl
 ·rename_i h1
  unfold adr
  simp only
  rw[if_neg (by omega),if_neg (by omega)]
  simp
theorem isPtr_slot(b:Bt)(p:Pl)(to tw:Int):isPtr (slotB b p to tw)=true:=by
 unfold slotB
 split
 ·rfl
 split
 ·exact isPtr_ref _ _
 split<;>exact isPtr_ref _ _
theorem slotsOk_of{gone:Bool}{ptrs:Int}: ∀ {l:List Int} {i:Nat},(∀(j:Nat) (w:Int),l[j]? =some w→(gone=true→w=0)∧(((i+j:Nat):Int) <ptrs→isPtr w=true))→slotsOk l gone ptrs i=true
 | [],_,_=>rfl
 |w::l,i,h=>by
  obtain⟨h1,h2⟩:=h 0 w rfl
  have ih:slotsOk l gone ptrs (i+1)=true:=slotsOk_of fun j y hy=>by
   have:=h (j+1) y hy
   rw[show i+1+j=i+(j+1)by omega]
   exact this
  rw[slotsOk,ih]
  cases gone
  ·by_cases hp:(i:Int) <ptrs
   ·simp[h2 (by simpa using hp)]
   ·simp[hp]
  ·rw[h1 rfl]
   simp[isPtr]
theorem stands_laid{b:Bt}{p:Pl}{n:Nd}{tw:Int}{F r:List Int}{old:Bool}(hat:p.at_=(F.length:Nat))(hn:sizN n≤9):Stands (F++laidN b p n tw++r) old ⟨p.at_,(n.ptrs.length:Int)+n.data.length,n.ptrs.length,false,0⟩:=by
 have hsh:shapeOk ((n.ptrs.length:Int)+n.data.length) n.ptrs.length=true:=by
  unfold sizN at hn
  exact shapeOk_iff.2 (by omega)
 have hw:(F++laidN b p n tw++r)[F.length]? =some (hdrN n):=by
  rw[List.append_assoc,List.getElem?_append_right (Nat.le_refl _),Nat.sub_self]
  rfl
 have hu:=unpk_pack hsh
 refine⟨by show 0≤p.at_;omega,hsh,?_,?_,hdrN n,by rw[hat];simpa using hw,?_⟩
 ·have:=laidN_len b p n tw
  unfold sizN at this
  simp only[List.length_append,this,hat]
  omega
 ·simp only[hat,Int.toNat_natCast]
  have e:((F++laidN b p n tw++r).drop (F.length+1)).take ((n.ptrs.length:Int)+n.data.length).toNat=slotsB b p p.at_.toNat n.ptrs tw++n.data:=by
   have e1:((n.ptrs.length:Int)+n.data.length).toNat=(slotsB b p p.at_.toNat n.ptrs tw++n.data).length:=by simp[slotsB];omega
   rw[e1,List.append_assoc,List.drop_append,List.drop_of_length_le (by omega),Nat.add_sub_cancel_left,List.nil_append]
   have e2:(laidN b p n tw++r).drop 1=(slotsB b p p.at_.toNat n.ptrs tw++n.data)++r:=rfl
   rw[e2,List.take_left]
  rw[e]
  refine slotsOk_of fun j w hw=>⟨by simp,fun hlt=> ?_⟩
  have hlt':j<n.ptrs.length:=by simpa using hlt
  rw[List.getElem?_append_left (by simp[slotsB];exact hlt')]at hw
  simp only[slotsB,List.getElem?_map,Option.map_eq_some_iff]at hw
  obtain⟨q,_,rfl⟩:=hw
  exact isPtr_slot _ _ _ _
 ·simp only[Bool.false_eq_true,if_false]
  exact⟨fun _=>adr_unpk (by unfold hdrN;rw[hu]),hu,trivial⟩
theorem stands_gone{b:Bt}{p o:Pl}{n:Nd}{F r:List Int}(hat:o.at_=(F.length:Nat))(hn:sizN n≤9)(ha:(adr (refB b.h p)).2=0):Stands (F++goneN b p n++r) true ⟨o.at_,(n.ptrs.length:Int)+n.data.length,n.ptrs.length,true,(adr (refB b.h p)).1⟩:=by
 have hsh:shapeOk ((n.ptrs.length:Int)+n.data.length) n.ptrs.length=true:=by
  unfold sizN at hn
  exact shapeOk_iff.2 (by omega)
 have hw:(F++goneN b p n++r)[F.length]? =some (refB b.h p):=by
  rw[List.append_assoc,List.getElem?_append_right (Nat.le_refl _),Nat.sub_self]
  rfl
 refine⟨by show 0≤o.at_;omega,hsh,?_,?_,_,by rw[hat];simpa using hw,?_⟩
 ·have:=goneN_len b p n
  unfold sizN at this
  simp only[List.length_append,this,hat]
  omega
 ·simp only[hat,Int.toNat_natCast]
  have e:((F++goneN b p n++r).drop (F.length+1)).take ((n.ptrs.length:Int)+n.data.length).toNat=List.replicate (sizN n-1) 0:=by
   have e1:((n.ptrs.length:Int)+n.data.length).toNat=(List.replicate (sizN n-1) (0:Int)).length:=by simp[sizN];omega
   rw[e1,List.append_assoc,List.drop_append,List.drop_of_length_le (by omega),Nat.add_sub_cancel_left,List.nil_append]
   have e2:(goneN b p n++r).drop 1=List.replicate (sizN n-1) 0++r:=rfl
   rw[e2,List.take_left]
  rw[e]
  refine slotsOk_of fun j w hw=> ?_
  have:=(List.mem_replicate.1 (List.mem_of_getElem? hw)).2
  subst this
  exact⟨fun _=>rfl,fun _=>rfl⟩
 ·simp only[if_true]
  exact⟨trivial,ha,trivial⟩
def obAt(b:Bt)(k:Int)(i:Nat):List Ob:=
 if(hereAt b i).part=k then [⟨(hereAt b i).at_,((ndAt b i).ptrs.length:Int)+(ndAt b i).data.length,(ndAt b i).ptrs.length,false,0⟩]
 else if(oldAt b i).part=k then(if(hereAt b i).part=0 then [⟨(oldAt b i).at_,((ndAt b i).ptrs.length:Int)+(ndAt b i).data.length,(ndAt b i).ptrs.length,false,0⟩]
  else [⟨(oldAt b i).at_,((ndAt b i).ptrs.length:Int)+(ndAt b i).data.length,(ndAt b i).ptrs.length,true,(adr (refB b.h (hereAt b i))).1⟩])
 else []
def obs(b:Bt)(k:Int):List Ob:=(List.range b.g.nodes.length).flatMap (obAt b k)
section
variable {b:Bt} {x:Rw}
theorem Placed.nine(hpl:Placed b x)(h9: ∀n∈b.g.nodes,sizN n≤9){i:Nat}(hi:i<b.g.nodes.length):sizN (ndAt b i)≤9:=by
 unfold ndAt
 rw[List.getElem?_eq_getElem hi]
 exact h9 _ (List.getElem_mem hi)
theorem Placed.len(hpl:Placed b x){k:Int}(hk:1≤k∧k≤4):sizL (layH b.h) k=((cat b x k b.g.nodes.length).length:Nat):=by
 rw[sizL_part b.h hk,hpl.zero k hk]
 simp
theorem Placed.here_in(hpl:Placed b x){i:Nat}(hi:i<b.g.nodes.length)(hp:(hereAt b i).part≠0):((hereAt b i).part=1∨(hereAt b i).part=2)∧(hereAt b i).at_=((cat b x (hereAt b i).part i).length:Nat)∧(hereAt b i).at_+sizN (ndAt b i)≤sizL (layH b.h) (hereAt b i).part:=by
 rcases hpl.here i hi with ⟨h,_⟩ | ⟨h1,h2⟩
 ·rw[h]at hp;exact absurd rfl hp
 ·refine⟨h1,h2,?_⟩
  have:=room_k b x (hereAt b i).part hi
  rw[hpl.len (by omega),h2]
  have e:blk b x (hereAt b i).part i=laidN b (hereAt b i) (ndAt b i) (IntKind.i64.wrap (x.slack+i)):=by unfold blk;rw[if_pos rfl]
  rw[e,laidN_len]at this
  omega
theorem Placed.old_in(hpl:Placed b x){i:Nat}(hi:i<b.g.nodes.length)(hp:(oldAt b i).part≠0):((oldAt b i).part=3∨(oldAt b i).part=4)∧(oldAt b i).at_=((cat b x (oldAt b i).part i).length:Nat)∧(hereAt b i).part≠2∧(oldAt b i).at_+sizN (ndAt b i)≤sizL (layH b.h) (oldAt b i).part:=by
 rcases hpl.old i hi with h| ⟨h1,h2,h3⟩
 ·rw[h]at hp;exact absurd rfl hp
 ·refine⟨h1,h2,h3,?_⟩
  have:=room_k b x (oldAt b i).part hi
  rw[hpl.len (by omega),h2]
  have hh:(hereAt b i).part=0∨(hereAt b i).part=1:=by
   by_cases h0:(hereAt b i).part=0
   ·exact .inl h0
   ·have:=(hpl.here_in hi h0).1;omega
  have e:(blk b x (oldAt b i).part i).length=sizN (ndAt b i):=by
   unfold blk
   rw[if_neg (by omega),if_pos rfl]
   split
   ·exact laidN_len _ _ _ _
   ·exact goneN_len _ _ _
  rw[e]at this
  omega
theorem Placed.ref_here(hpl:Placed b x)(hr:rightL (layH b.h)=true){i:Nat}(hi:i<b.g.nodes.length)(hp:(hereAt b i).part≠0):refB b.h (hereAt b i)=refR (layH b.h) (hereAt b i).part (hereAt b i).at_:=by
 obtain⟨h1,h2,h3⟩:=hpl.here_in hi hp
 have hs:1≤sizN (ndAt b i):=by unfold sizN;omega
 unfold refB
 rw[if_neg hp,addr_in hr (by omega) ⟨by omega,by omega⟩]
 have:=fstL_range hr (hereAt b i).part
 unfold ptrTo refR
 rw[if_neg (by omega)]
theorem Placed.ref_old(hpl:Placed b x)(hr:rightL (layH b.h)=true){i:Nat}(hi:i<b.g.nodes.length)(hp:(oldAt b i).part≠0):refB b.h (oldAt b i)=refR (layH b.h) (oldAt b i).part (oldAt b i).at_:=by
 obtain⟨h1,h2,_,h3⟩:=hpl.old_in hi hp
 have hs:1≤sizN (ndAt b i):=by unfold sizN;omega
 unfold refB
 rw[if_neg hp,addr_in hr (by omega) ⟨by omega,by omega⟩]
 have:=fstL_range hr (oldAt b i).part
 unfold ptrTo refR
 rw[if_neg (by omega)]
theorem obs_tiles(hpl:Placed b x)(hr:rightL (layH b.h)=true)(h9: ∀n∈b.g.nodes,sizN n≤9){k:Int}(hk:1≤k∧k≤4): ∀(m i:Nat),i+m=b.g.nodes.length→Tiles (cat b x k b.g.nodes.length) (decide (2<k)) (cat b x k i).length ((List.range' i m).flatMap (obAt b k))
 |0,i,hi=>by
  have:i=b.g.nodes.length:=by omega
  subst this
  exact Nat.le_refl _
 |m+1,i,hi=>by
  have ih:=obs_tiles hpl hr h9 hk m (i+1) (by omega)
  have hlt:i<b.g.nodes.length:=by omega
  have h9i:=hpl.nine h9 hlt
  obtain⟨r,hrr⟩:=cat_mono b x k (show i+1≤b.g.nodes.length by omega)
  rw[List.range'_succ,List.flatMap_cons]
  have hs:=cat_succ b x k i
  by_cases h1:(hereAt b i).part=k
  ·have hb:blk b x k i=laidN b (hereAt b i) (ndAt b i) (IntKind.i64.wrap (x.slack+i)):=by unfold blk;rw[if_pos h1]
   have ho:obAt b k i= [⟨(hereAt b i).at_,((ndAt b i).ptrs.length:Int)+(ndAt b i).data.length,(ndAt b i).ptrs.length,false,0⟩]:=by unfold obAt;rw[if_pos h1]
   obtain⟨_,q2,_⟩:=hpl.here_in hlt (by omega)
   rw[h1]at q2
   rw[ho]
   refine⟨q2,?_,?_⟩
   ·rw[hrr,hs,hb]
    exact stands_laid q2 h9i
   ·rw[hs,hb,List.length_append,laidN_len]at ih
    have:(((ndAt b i).ptrs.length:Int)+(ndAt b i).data.length).toNat=sizN (ndAt b i) -1:=by unfold sizN;omega
    simp only[this]
    rw[show(cat b x k i).length+1+(sizN (ndAt b i) -1)=(cat b x k i).length+sizN (ndAt b i)by unfold sizN;omega]
    exact ih
  by_cases h2:(oldAt b i).part=k
  ·obtain⟨q1,q2,q3,q4⟩:=hpl.old_in hlt (by omega)
   have hk3:2<k:=by omega
   rw[h2]at q2
   have hlen:(cat b x k (i+1)).length=(cat b x k i).length+1+(((ndAt b i).ptrs.length:Int)+(ndAt b i).data.length).toNat:=by
    have e:(blk b x k i).length=sizN (ndAt b i):=by
     unfold blk
     rw[if_neg h1,if_pos h2]
     split
     ·exact laidN_len _ _ _ _
     ·exact goneN_len _ _ _
    rw[hs,List.length_append,e]
    unfold sizN
    omega
   rw[hlen]at ih
   by_cases h3:(hereAt b i).part=0
   ·have hb:blk b x k i=laidN b (oldAt b i) (ndAt b i) 0:=by unfold blk;rw[if_neg h1,if_pos h2,if_pos h3]
    have ho:obAt b k i= [⟨(oldAt b i).at_,((ndAt b i).ptrs.length:Int)+(ndAt b i).data.length,(ndAt b i).ptrs.length,false,0⟩]:=by unfold obAt;rw[if_neg h1,if_pos h2,if_pos h3]
    rw[ho]
    refine⟨q2,?_,ih⟩
    rw[hrr,hs,hb]
    exact stands_laid q2 h9i
   ·have hb:blk b x k i=goneN b (hereAt b i) (ndAt b i):=by unfold blk;rw[if_neg h1,if_pos h2,if_neg h3]
    have ho:obAt b k i= [⟨(oldAt b i).at_,((ndAt b i).ptrs.length:Int)+(ndAt b i).data.length,(ndAt b i).ptrs.length,true,(adr (refB b.h (hereAt b i))).1⟩]:=by unfold obAt;rw[if_neg h1,if_pos h2,if_neg h3]
    rw[ho]
    refine⟨q2,?_,ih⟩
    rw[hrr,hs,hb,decide_eq_true hk3]
    refine stands_gone q2 h9i ?_
    obtain⟨u1,u2,_⟩:=hpl.here_in hlt h3
    rw[hpl.ref_here hr hlt h3,adr_ref hr (by omega)]
  ·have hb:blk b x k i= []:=by unfold blk;rw[if_neg h1,if_neg h2]
   have ho:obAt b k i= []:=by unfold obAt;rw[if_neg h1,if_neg h2]
   rw[ho,List.nil_append]
   rw[hs,hb,List.append_nil]at ih
   exact ih
theorem obs_tile(hpl:Placed b x)(hr:rightL (layH b.h)=true)(h9: ∀n∈b.g.nodes,sizN n≤9){k:Int}(hk:1≤k∧k≤4):Tiles (partH (fillH x b) k) (decide (2<k)) 0 (obs b k):=by
 rw[fill_parts hpl hk]
 have:=obs_tiles hpl hr h9 hk b.g.nodes.length 0 (by omega)
 unfold obs
 rw[List.range_eq_range']
 exact this
theorem mem_obs{k:Int}{o:Ob}:o∈obs b k↔ ∃i,i<b.g.nodes.length∧o∈obAt b k i:=by
 unfold obs
 simp[List.mem_flatMap]
end
end Vm
end
section
namespace Vm
open Go Go.Proofs
set_option maxRecDepth 100000
set_option maxHeartbeats 1000000
structure Made (b:Bt) (x:Rw):Prop where
 pl:Placed b x
 lay:rightL (layH b.h)=true
 nine: ∀n∈b.g.nodes,sizN n≤9
 cyc:b.h.cycle=true→ ∀i,i<b.g.nodes.length→(hereAt b i).part=1→(oldAt b i).part≠0
 scan:0≤b.h.scan∧b.h.scan≤b.h.low.length∧(if b.h.cycle then b.h.scan<b.h.low.length else b.h.scan=b.h.low.length∧b.h.old= []∧b.h.far= [])
 room:(b.h.low.length:Int)+b.h.high.length+((wtL (obs b 3)+wtL (obs b 4):Nat):Int)≤b.h.cap
 fit:Fit b.h.scan
def ptsB(b:Bt):Pts:=⟨obs b 1,obs b 2,obs b 3,obs b 4⟩
theorem ptsB_at(b:Bt){k:Int}(hk:1≤k∧k≤4):(ptsB b).at k=obs b k:=by
 have h1:k=1∨k=2∨k=3∨k=4:=by omega
 rcases h1 with rfl|rfl|rfl|rfl<;>rfl
section
variable {b:Bt} {x:Rw}
theorem Made.fill(m:Made b x):(fillH x b).ok∧layH (fillH x b)=layH b.h∧(fillH x b).scan=b.h.scan∧(fillH x b).cycle=b.h.cycle:=fillH_ok m.pl.ok m.fit
theorem Made.tiles(m:Made b x){k:Int}(hk:1≤k∧k≤4):Tiles (partH (fillH x b) k) (decide (2<k)) 0 (obs b k):=obs_tile m.pl m.lay m.nine hk
theorem Made.start(m:Made b x){k a:Int}(hk:1≤k∧k≤4)(ha:0≤a∧a<sizL (layH b.h) k):startR (fillH x b) k a=fstL (layH b.h) k+a:=by
 unfold startR
 rw[m.fill.2.1,addr_in m.lay hk ha]
theorem sizN_pos(n:Nd):1≤sizN n:=by unfold sizN;omega
theorem Made.ob_here(m:Made b x){i:Nat}(hi:i<b.g.nodes.length)(hp:(hereAt b i).part≠0): ∃o∈obs b (hereAt b i).part,o.at_=(hereAt b i).at_∧o.size=((ndAt b i).ptrs.length:Int)+(ndAt b i).data.length∧o.ptrs=(ndAt b i).ptrs.length∧o.gone=false:=
 ⟨_,mem_obs.2 ⟨i,hi,by unfold obAt;rw[if_pos rfl];exact .head _⟩,rfl,rfl,rfl,rfl⟩
theorem Made.ob_old(m:Made b x){i:Nat}(hi:i<b.g.nodes.length)(hp:(oldAt b i).part≠0): ∃o∈obs b (oldAt b i).part,o.at_=(oldAt b i).at_:=by
 obtain⟨h1,h2,h3,h4⟩:=m.pl.old_in hi hp
 have hne: ¬(hereAt b i).part=(oldAt b i).part:=by
  by_cases h0:(hereAt b i).part=0
  ·omega
  ·have:=(m.pl.here_in hi h0).1;omega
 by_cases h0:(hereAt b i).part=0
 ·exact⟨_,mem_obs.2 ⟨i,hi,by unfold obAt;rw[if_neg hne,if_pos rfl,if_pos h0];exact .head _⟩,rfl⟩
 ·exact⟨_,mem_obs.2 ⟨i,hi,by unfold obAt;rw[if_neg hne,if_pos rfl,if_neg h0];exact .head _⟩,rfl⟩
theorem Made.to_here(m:Made b x){i:Nat}(hi:i<b.g.nodes.length):goesR (fillH x b) (ptsB b) (refB b.h (hereAt b i)) 1 2=true:=by
 by_cases h0:(hereAt b i).part=0
 ·have:refB b.h (hereAt b i)=0:=by unfold refB;rw[if_pos h0]
  rw[this]
  simp[goesR]
 ·obtain⟨h1,h2,h3⟩:=m.pl.here_in hi h0
  have hs:=sizN_pos (ndAt b i)
  obtain⟨o,ho,ha,_⟩:=m.ob_here hi h0
  rw[m.pl.ref_here m.lay hi h0]
  unfold goesR
  rw[adr_ref m.lay (by omega)]
  have:(atR (fillH x b) (hereAt b i).part (obs b (hereAt b i).part) (fstL (layH b.h) (hereAt b i).part+(hereAt b i).at_)).isSome=true:=by
   refine atR_isSome.2 ⟨o,ho,?_⟩
   rw[ha,m.start (by omega) ⟨by omega,by omega⟩]
  rcases h1 with h|h
  ·rw[h]at this
   rw[h]
   simp only[ptsB_at b (show 1≤(1:Int)∧(1:Int)≤4 by omega),this]
   simp
  ·rw[h]at this
   rw[h]
   simp only[ptsB_at b (show 1≤(2:Int)∧(2:Int)≤4 by omega),this]
   simp
theorem Made.to_old(m:Made b x){i:Nat}(hi:i<b.g.nodes.length):goesR (fillH x b) (ptsB b) (refB b.h (oldAt b i)) 3 4=true:=by
 by_cases h0:(oldAt b i).part=0
 ·have:refB b.h (oldAt b i)=0:=by unfold refB;rw[if_pos h0]
  rw[this]
  simp[goesR]
 ·obtain⟨h1,h2,_,h3⟩:=m.pl.old_in hi h0
  have hs:=sizN_pos (ndAt b i)
  obtain⟨o,ho,ha⟩:=m.ob_old hi h0
  rw[m.pl.ref_old m.lay hi h0]
  unfold goesR
  rw[adr_ref m.lay (by omega)]
  have:(atR (fillH x b) (oldAt b i).part (obs b (oldAt b i).part) (fstL (layH b.h) (oldAt b i).part+(oldAt b i).at_)).isSome=true:=by
   refine atR_isSome.2 ⟨o,ho,?_⟩
   rw[ha,m.start (by omega) ⟨by omega,by omega⟩]
  rcases h1 with h|h
  ·rw[h]at this
   rw[h]
   simp only[ptsB_at b (show 1≤(3:Int)∧(3:Int)≤4 by omega),this]
   simp
  ·rw[h]at this
   rw[h]
   simp only[ptsB_at b (show 1≤(4:Int)∧(4:Int)≤4 by omega),this]
   simp
theorem Made.same_at(m:Made b x){k:Int}(hk:1≤k∧k≤4){o q:Ob}(ho:o∈obs b k)(hq:q∈obs b k)(h:q.at_=o.at_):q=o:=by
 have ht:=m.tiles hk
 rcases ht.apart q hq o ho with h1|h1|h1
 ·exact h1
 ·have:=shapeOk_iff.1 (ht.stands q hq).1.shape;omega
 ·have:=shapeOk_iff.1 (ht.stands o ho).1.shape;omega
theorem Made.ob_in(m:Made b x){k:Int}(hk:1≤k∧k≤4){o:Ob}(ho:o∈obs b k):0≤o.at_∧o.at_<sizL (layH b.h) k:=by
 have hs:=((m.tiles hk).stands o ho).1
 have h1:=shapeOk_iff.1 hs.shape
 have h2:=hs.fits
 have h3:=hs.nat
 have:sizL (layH b.h) k=(partH (fillH x b) k).length:=by rw[←m.fill.2.1,sizL_part _ hk]
 omega
theorem Made.find(m:Made b x){k:Int}(hk:1≤k∧k≤4){o:Ob}(ho:o∈obs b k):atR (fillH x b) k (obs b k) (fstL (layH b.h) k+o.at_)=some o:=by
 rw[←m.start hk (m.ob_in hk ho)]
 refine atR_of ho fun q hq e=>m.same_at hk ho hq ?_
 rw[m.start hk (m.ob_in hk ho),m.start hk (m.ob_in hk hq)]at e
 omega
theorem mem_obAt_gone{k:Int}{i:Nat}{o:Ob}(h:o∈obAt b k i)(hg:o.gone=true): ¬(hereAt b i).part=k∧(oldAt b i).part=k∧ ¬(hereAt b i).part=0∧o=⟨(oldAt b i).at_,((ndAt b i).ptrs.length:Int)+(ndAt b i).data.length,(ndAt b i).ptrs.length,true,(adr (refB b.h (hereAt b i))).1⟩:=by
 unfold obAt at h
 split at h
 ·simp at h;subst h;simp at hg
 rename_i h1
 split at h
 ·rename_i h2
  split at h
  ·simp at h;subst h;simp at hg
  ·rename_i h3
   simp at h
   exact⟨h1,h2,h3,h⟩
 ·simp at h
theorem Made.gone(m:Made b x){k:Int}(hk:3≤k∧k≤4):GoneOk (fillH x b) (obs b 1) (obs b k):=by
 intro o ho hg
 obtain⟨i,hi,hoi⟩:=mem_obs.1 ho
 obtain⟨h1,h2,h3,rfl⟩:=mem_obAt_gone hoi hg
 obtain⟨u1,u2,u3⟩:=m.pl.here_in hi h3
 have hn2:=(m.pl.old_in hi (by omega)).2.2.1
 have hp1:(hereAt b i).part=1:=by omega
 obtain⟨q,hq,q1,q2,q3,_⟩:=m.ob_here hi h3
 rw[hp1]at hq
 refine⟨q,?_,q2,q3⟩
 simp only
 rw[m.pl.ref_here m.lay hi h3,adr_ref m.lay (by omega),hp1,←q1]
 exact m.find (by omega) hq
theorem Made.parts(m:Made b x):partsR (fillH x b)=some (ptsB b):=
 parts_of (m.tiles (k:=1) (by omega)) (m.tiles (k:=2) (by omega)) (m.tiles (k:=3) (by omega)) (m.tiles (k:=4) (by omega)) (m.gone (by omega)) (m.gone (by omega))
theorem tgL_append(l r:List Ob)(a:Int):tgL (l++r) a=tgL l a+tgL r a:=by simp[tgL]
theorem tg_at(b:Bt)(k:Int)(j:Nat)(a:Int):tgL (obAt b k j) a=if ¬(hereAt b j).part=k∧(oldAt b j).part=k∧ ¬(hereAt b j).part=0∧(adr (refB b.h (hereAt b j))).1=a then 1 else 0:=by
 unfold obAt
 by_cases h1:(hereAt b j).part=k
 ·rw[if_pos h1,if_neg (fun h=>h.1 h1)]
  simp[tgL]
 rw[if_neg h1]
 by_cases h2:(oldAt b j).part=k
 ·rw[if_pos h2]
  by_cases h3:(hereAt b j).part=0
  ·rw[if_pos h3,if_neg (fun h=>h.2.2.1 h3)]
   simp[tgL]
  ·rw[if_neg h3]
   by_cases h4:(adr (refB b.h (hereAt b j))).1=a
   ·rw[if_pos ⟨h1,h2,h3,h4⟩]
    simp[tgL,h4]
   ·rw[if_neg (fun h=>h4 h.2.2.2)]
    simp[tgL,h4]
 ·rw[if_neg h2,if_neg (fun h=>h2 h.2.1)]
  simp[tgL]
theorem Made.once(m:Made b x)(hc:b.h.cycle=true){i:Nat}(hi:i<b.g.nodes.length)(hp:(hereAt b i).part=1):targR (ptsB b) (fstL (layH b.h) 1+(hereAt b i).at_)=1:=by
 have key: ∀j,j≤b.g.nodes.length→tgL ((List.range j).flatMap (obAt b 3)) (fstL (layH b.h) 1+(hereAt b i).at_)+tgL ((List.range j).flatMap (obAt b 4)) (fstL (layH b.h) 1+(hereAt b i).at_)=if i<j then 1 else 0:=by
  intro j
  induction j with
  |zero=>intro _;simp[tgL]
  |succ j ih=>
   intro hj
   have ih:=ih (by omega)
   have hjl:j<b.g.nodes.length:=by omega
   rw[List.range_succ,List.flatMap_append,List.flatMap_append,tgL_append,tgL_append]
   simp only[List.flatMap_cons,List.flatMap_nil,List.append_nil]
   have hone:tgL (obAt b 3 j) (fstL (layH b.h) 1+(hereAt b i).at_)+tgL (obAt b 4 j) (fstL (layH b.h) 1+(hereAt b i).at_)=if j=i then 1 else 0:=by
    rw[tg_at,tg_at]
    by_cases h0:(hereAt b j).part=0
    ·have: ¬j=i:=fun e=>by subst e;omega
     rw[if_neg this,if_neg (fun h=>h.2.2.1 h0),if_neg (fun h=>h.2.2.1 h0)]
    obtain⟨u1,u2,u3⟩:=m.pl.here_in hjl h0
    by_cases hj1:(hereAt b j).part=1
    ·have ho:=m.cyc hc j hjl hj1
     obtain⟨v1,_⟩:=m.pl.old_in hjl ho
     have htg:(adr (refB b.h (hereAt b j))).1=fstL (layH b.h) 1+(hereAt b j).at_:=by rw[m.pl.ref_here m.lay hjl h0,adr_ref m.lay (by omega),hj1]
     have heq:(fstL (layH b.h) 1+(hereAt b j).at_=fstL (layH b.h) 1+(hereAt b i).at_)↔j=i:=by
      constructor
      ·intro e
       obtain⟨w1,w2,w3⟩:=m.pl.here_in hi (by omega)
       rw[hj1]at u2
       rw[hp]at w2
       have hs1:=sizN_pos (ndAt b i)
       have hs2:=sizN_pos (ndAt b j)
       have bi:(blk b x 1 i).length=sizN (ndAt b i):=by unfold blk;rw[if_pos hp];exact laidN_len _ _ _ _
       have bj:(blk b x 1 j).length=sizN (ndAt b j):=by unfold blk;rw[if_pos hj1];exact laidN_len _ _ _ _
       by_cases hlt:j<i
       ·obtain⟨r,hr⟩:=cat_mono b x 1 (show j+1≤i by omega)
        rw[cat_succ]at hr
        have:=congrArg List.length hr
        simp[bj]at this
        omega
       ·by_cases hgt:i<j
        ·obtain⟨r,hr⟩:=cat_mono b x 1 (show i+1≤j by omega)
         rw[cat_succ]at hr
         have:=congrArg List.length hr
         simp[bi]at this
         omega
        ·omega
      ·rintro rfl;rfl
     rw[htg]
     rcases v1 with v|v
     ·rw[if_neg (show ¬(¬(hereAt b j).part=4∧(oldAt b j).part=4∧_)from fun h=>by have:=h.2.1;omega)]
      by_cases hji:j=i
      ·rw[if_pos hji,if_pos ⟨by omega,v,h0,heq.2 hji⟩]
      ·rw[if_neg hji,if_neg (fun h=>hji (heq.1 h.2.2.2))]
     ·rw[if_neg (show ¬(¬(hereAt b j).part=3∧(oldAt b j).part=3∧_)from fun h=>by have:=h.2.1;omega)]
      by_cases hji:j=i
      ·rw[if_pos hji,if_pos ⟨by omega,v,h0,heq.2 hji⟩]
      ·rw[if_neg hji,if_neg (fun h=>hji (heq.1 h.2.2.2))]
    ·have hp2:(hereAt b j).part=2:=by omega
     have hold:(oldAt b j).part=0:=by
      by_cases h:(oldAt b j).part=0
      ·exact h
      ·exact absurd hp2 (m.pl.old_in hjl h).2.2.1
     have: ¬j=i:=fun e=>by subst e;omega
     rw[if_neg this,if_neg (fun h=>by have:=h.2.1;omega),if_neg (fun h=>by have:=h.2.1;omega)]
   by_cases hji:j=i
   ·subst hji
    rw[if_pos rfl]at hone
    rw[if_neg (Nat.lt_irrefl _)]at ih
    rw[if_pos (Nat.lt_succ_self _)]
    omega
   ·rw[if_neg hji]at hone
    by_cases hij:i<j
    ·rw[if_pos hij]at ih
     rw[if_pos (show i<j+1 by omega)]
     omega
    ·rw[if_neg hij]at ih
     rw[if_neg (show ¬i<j+1 by omega)]
     omega
 have:=key b.g.nodes.length (Nat.le_refl _)
 rw[if_pos hi]at this
 exact this
end
end Vm
end
section
namespace Vm
open Go Go.Proofs
set_option maxRecDepth 100000
set_option maxHeartbeats 1000000
section
variable {b:Bt} {x:Rw}
theorem Made.word(m:Made b x){k:Int}(hk:1≤k∧k≤4){i t:Nat}(hi:i<b.g.nodes.length)(ht:t< (blk b x k i).length):(partH (fillH x b) k)[(cat b x k i).length+t]? =(blk b x k i)[t]? :=by
 rw[fill_parts m.pl hk]
 obtain⟨r,hr⟩:=cat_mono b x k (show i+1≤b.g.nodes.length by omega)
 rw[hr,cat_succ,List.append_assoc,List.getElem?_append_right (by omega),Nat.add_sub_cancel_left,List.getElem?_append_left ht]
theorem laidN_slot{p:Pl}{n:Nd}{tw:Int}{j:Nat}(hj:j<n.ptrs.length): ∃q∈n.ptrs,(laidN b p n tw)[1+j]? =some (slotB b ⟨p.part,((p.at_.toNat+1+j:Nat):Int)⟩ q (IntKind.i64.wrap (tw+j))):=by
 refine⟨n.ptrs[j],List.getElem_mem hj,?_⟩
 unfold laidN
 rw[Nat.add_comm 1 j,List.getElem?_cons_succ,List.getElem?_append_left (by simp[slotsB];exact hj)]
 simp[slotsB,hj]
theorem goes_zero(h:Hp)(p:Pts)(k j:Int):goesR h p 0 k j=true:=by simp[goesR]
theorem Made.ptr_ok(m:Made b x)(hp: ∀n∈b.g.nodes,∀q∈n.ptrs,-1≤q∧q< (b.g.nodes.length:Int)){i:Nat}(hi:i<b.g.nodes.length){k:Int}{p:Pl}(hk:p.part=k){a:Nat}{to tw:Int}(hto:to∈(ndAt b i).ptrs)(hw:((partH (fillH x b) k)[a]?).getD 0=slotB b ⟨p.part,(a:Int)⟩ to tw):ptrOk (fillH x b) (ptsB b) k a=true:=by
 have hb:=hp (ndAt b i) (by unfold ndAt;rw[List.getElem?_eq_getElem hi];exact List.getElem_mem hi) to hto
 unfold ptrOk
 simp only[hw]
 unfold slotB
 rw[hk]
 by_cases h0:to<0
 ·rw[if_pos h0]
  simp[goes_zero]
 obtain⟨t,rfl⟩:=Int.eq_ofNat_of_zero_le (show 0≤to by omega)
 have ht:t<b.g.nodes.length:=by omega
 rw[if_neg h0]
 have g1:=m.to_here (i:=t) ht
 have g2:=m.to_old (i:=t) ht
 unfold hereAt at g1
 unfold oldAt at g2
 simp only[Int.toNat_natCast]
 by_cases h2:2<k
 ·rw[if_pos h2,if_pos h2]
  exact g2
 rw[if_neg h2,if_neg h2]
 rw[m.fill.2.2.1]
 by_cases h3:k=1∧b.h.scan≤(a:Int)
 ·rw[if_pos h3]
  split
  ·rw[g2];simp
  ·rw[g1];simp
 ·rw[if_neg h3,if_neg (fun h=>h3 ⟨h.1,h.2.1⟩)]
  exact g1
theorem Made.ptrs(m:Made b x)(hp: ∀n∈b.g.nodes,∀q∈n.ptrs,-1≤q∧q< (b.g.nodes.length:Int)){k:Int}(hk:1≤k∧k≤4):ptrsR (fillH x b) (ptsB b) k=true:=by
 unfold ptrsR
 rw[ptsB_at b hk,List.all_eq_true]
 intro o ho
 obtain⟨i,hi,hoi⟩:=mem_obs.1 ho
 unfold obPtrs
 rw[List.all_eq_true]
 intro j hj
 rw[List.mem_range]at hj
 unfold obAt at hoi
 split at hoi
 ·rename_i h1
  simp at hoi
  subst hoi
  simp only[Int.toNat_natCast]at hj
  obtain⟨_,q2,_⟩:=m.pl.here_in hi (by omega)
  rw[h1]at q2
  have hb:blk b x k i=laidN b (hereAt b i) (ndAt b i) (IntKind.i64.wrap (x.slack+i)):=by unfold blk;rw[if_pos h1]
  obtain⟨q,hq,hs⟩:=laidN_slot (b:=b) (p:=hereAt b i) (tw:=IntKind.i64.wrap (x.slack+i)) hj
  have hw:=m.word hk hi (t:=1+j) (by rw[hb,laidN_len];unfold sizN;omega)
  rw[hb,hs]at hw
  simp only
  refine m.ptr_ok hp hi h1 (tw:=IntKind.i64.wrap (IntKind.i64.wrap (x.slack+i)+j)) hq ?_
  rw[q2]at hw⊢
  simp only[Int.toNat_natCast]at hw⊢
  rw[←Nat.add_assoc]at hw
  rw[hw]
  rfl
 rename_i h1
 split at hoi
 ·rename_i h2
  obtain⟨_,q2,_⟩:=m.pl.old_in hi (by omega)
  rw[h2]at q2
  split at hoi
  ·rename_i h3
   simp at hoi
   subst hoi
   simp only[Int.toNat_natCast]at hj
   have hb:blk b x k i=laidN b (oldAt b i) (ndAt b i) 0:=by unfold blk;rw[if_neg h1,if_pos h2,if_pos h3]
   obtain⟨q,hq,hs⟩:=laidN_slot (b:=b) (p:=oldAt b i) (tw:=0) hj
   have hw:=m.word hk hi (t:=1+j) (by rw[hb,laidN_len];unfold sizN;omega)
   rw[hb,hs]at hw
   simp only
   refine m.ptr_ok hp hi h2 (tw:=IntKind.i64.wrap (0+j)) hq ?_
   rw[q2]at hw⊢
   simp only[Int.toNat_natCast]at hw⊢
   rw[←Nat.add_assoc]at hw
   rw[hw]
   rfl
  ·rename_i h3
   simp at hoi
   subst hoi
   simp only[Int.toNat_natCast]at hj
   have hb:blk b x k i=goneN b (hereAt b i) (ndAt b i):=by unfold blk;rw[if_neg h1,if_pos h2,if_neg h3]
   have hw:=m.word hk hi (t:=1+j) (by rw[hb,goneN_len];unfold sizN;omega)
   have hz:(goneN b (hereAt b i) (ndAt b i))[1+j]? =some 0:=by
    unfold goneN
    rw[Nat.add_comm 1 j,List.getElem?_cons_succ,List.getElem?_replicate,if_pos (by unfold sizN;omega)]
   rw[hb,hz]at hw
   unfold ptrOk
   simp only
   rw[q2,Int.toNat_natCast,show(cat b x k i).length+1+j=(cat b x k i).length+(1+j)by omega,hw]
   simp[goes_zero]
 ·simp at hoi
theorem Made.right(m:Made b x)(hp: ∀n∈b.g.nodes,∀q∈n.ptrs,-1≤q∧q< (b.g.nodes.length:Int)):rightR (fillH x b)=true:=by
 have hl:=m.fill.2.1
 have hlow:(fillH x b).low.length=b.h.low.length:=by have:=congrArg Ly.low hl;simp only[layH]at this;omega
 have hhigh:(fillH x b).high.length=b.h.high.length:=by have:=congrArg Ly.high hl;simp only[layH]at this;omega
 have hold:(fillH x b).old.length=b.h.old.length:=by have:=congrArg Ly.old hl;simp only[layH]at this;omega
 have hfar:(fillH x b).far.length=b.h.far.length:=by have:=congrArg Ly.far hl;simp only[layH]at this;omega
 have hcap:(fillH x b).cap=b.h.cap:=congrArg Ly.cap hl
 refine right_of ?_ m.parts ?_
 ·unfold numR
  have hs:=m.scan
  have hrl:=m.pl.ok.rl
  have hro:(fillH x b).roots.length≤5:=by simp only[fillH,List.length_map];exact hrl
  rw[hl,m.lay,m.fill.2.2.1,m.fill.2.2.2,hlow,hold,hfar]
  obtain⟨s1,s2,s3⟩:=hs
  cases hc:b.h.cycle
  ·rw[hc]at s3
   simp only[Bool.false_eq_true,if_false]at s3
   simp[s1,s2,s3]
   omega
  ·rw[hc]at s3
   simp only[if_true]at s3
   simp[s1,s2,s3]
   omega
 ·unfold rightP
  simp only[Bool.and_eq_true,decide_eq_true_eq]
  refine⟨⟨⟨⟨⟨⟨?_,?_⟩,m.ptrs hp (by omega)⟩,m.ptrs hp (by omega)⟩,m.ptrs hp (by omega)⟩,m.ptrs hp (by omega)⟩,?_⟩
  ·rw[m.fill.2.2.2]
   cases hc:b.h.cycle
   ·rfl
   ·simp only[Bool.not_true,Bool.false_or,List.all_eq_true]
    intro o ho
    obtain⟨i,hi,hoi⟩:=mem_obs.1 ho
    have h1:(hereAt b i).part=1∧o.at_=(hereAt b i).at_:=by
     unfold obAt at hoi
     split at hoi
     ·rename_i h1;simp at hoi;subst hoi;exact⟨h1,rfl⟩
     split at hoi
     ·rename_i h2
      have:=(m.pl.old_in hi (by omega)).1
      omega
     ·simp at hoi
    have hin:=m.ob_in (k:=1) (by omega) ho
    unfold tgOk
    rw[m.start (by omega) hin,h1.2,decide_eq_true_eq]
    exact m.once hc hi h1.1
  ·rw[List.all_eq_true]
   intro w hw
   simp only[fillH,List.mem_map]at hw
   obtain⟨r,hr,rfl⟩:=hw
   have hrl:=m.pl.ok.rts r hr
   by_cases h0:0≤r
   ·rw[if_pos h0]
    have hlk:=like_N (x:=x) m.pl.ok b.g.nodes.length (Nat.le_refl _)
    rw[refB_like hlk]
    obtain⟨t,rfl⟩:=Int.eq_ofNat_of_zero_le h0
    exact m.to_here (i:=t) (by omega)
   ·rw[if_neg h0]
    exact goes_zero _ _ _ _
  ·rw[hlow,hhigh,hcap]
   exact m.room
end
end Vm
end
section
namespace Vm
open Go Go.Proofs
set_option maxRecDepth 100000
set_option maxHeartbeats 1000000
theorem wtL_append(l r:List Ob):wtL (l++r)=wtL l+wtL r:=by simp[wtL]
section
variable {x:Rw} {c:Bool}
theorem wt_one{b:Bt}(hpl:Placed b x){i:Nat}(hi:i<b.g.nodes.length):wtL (obAt b 3 i)+wtL (obAt b 4 i)=if(hereAt b i).part=0 then sizN (ndAt b i)else 0:=by
 have hz:((1:Nat)+(((ndAt b i).ptrs.length:Int)+(ndAt b i).data.length).toNat)=sizN (ndAt b i):=by unfold sizN;omega
 rcases hpl.here i hi with ⟨h1,k,hk,hok⟩ | ⟨h1,_⟩
 ·have h0:(hereAt b i).part=0:=by rw[h1]
  rw[if_pos h0]
  rcases hk with rfl|rfl<;>simp[obAt,h0,hok,wtL,wtO,hz]
 ·have e0: ¬(hereAt b i).part=0:=by omega
  have e3: ¬(hereAt b i).part=3:=by omega
  have e4: ¬(hereAt b i).part=4:=by omega
  have: ∀k:Int,¬(hereAt b i).part=k→wtL (obAt b k i)=0:=fun k hk=>by
   unfold obAt
   rw[if_neg hk,if_neg e0]
   split<;>simp[wtL,wtO]
  rw[if_neg e0,this 3 e3,this 4 e4]
theorem wt_upto(hx:x.ok): ∀j,j≤(mkG x.nodes x.roots).nodes.length→wtL ((List.range j).flatMap (obAt (standB x c) 3))+wtL ((List.range j).flatMap (obAt (standB x c) 4))=(stN x c (mkG x.nodes x.roots) j).wt
 |0,_=>rfl
 |j+1,hj=>by
  have ih:=wt_upto hx j (by omega)
  have h1:=wt_one (stand_placed (c:=c) hx) (i:=j) (by rw[standB_g];omega)
  rw[here_is (by omega)]at h1
  have hn:ndAt (standB x c) j=((mkG x.nodes x.roots).nodes[j]?).getD default:=rfl
  rw[hn]at h1
  rw[List.range_succ,List.flatMap_append,List.flatMap_append,wtL_append,wtL_append,stN]
  simp only[List.flatMap_cons,List.flatMap_nil,List.append_nil]
  generalize ((mkG x.nodes x.roots).nodes[j]?).getD default=n at*
  unfold hereF at h1
  simp only[stStep]
  rcases clsK_range x j c with h0|h0| ⟨h0,rfl⟩
  ·simp[h0]at h1⊢;omega
  ·simp[h0]at h1⊢;omega
  ·simp[h0]at h1⊢;omega
theorem mkG_ptrB(x:Rw)(c:Bool): ∀n∈(standB x c).g.nodes,∀q∈n.ptrs,-1≤q∧q< ((standB x c).g.nodes.length:Int):=by
 rw[standB_g]
 exact mkG_ptr x.nodes x.roots
theorem nofar(hc:c=false): ∀j,(stN x c (mkG x.nodes x.roots) j).n3=0∧(stN x c (mkG x.nodes x.roots) j).n4=0
 |0=>⟨rfl,rfl⟩
 |j+1=>by
  have:=nofar hc j
  subst hc
  simpa[stN,stStep]using this
theorem made(hx:x.ok)(hc:c=true→(standB x true).h.low.length≠0):Made (standB x c) x:=by
 obtain⟨k1,k2,k3⟩:=stand_ok hx c
 refine⟨stand_placed hx,k3,?_,?_,?_,?_,k2⟩
 ·rw[standB_g];exact sz9 x
 ·intro hcy i hi h1
  have hct:c=true:=hcy
  subst hct
  rw[standB_g]at hi
  rw[here_is hi]at h1
  rw[old_is hi]
  unfold hereF at h1
  unfold oldF
  rcases clsK_range x i true with h0|h0| ⟨h0,_⟩
  ·simp[h0]at h1
  ·simp[h0]
   cases clsF x i<;>simp
  ·simp[h0]at h1
 ·have hlow:(standB x c).h.low.length=(stN x c (mkG x.nodes x.roots) (mkG x.nodes x.roots).nodes.length).n1:=by simp[standB]
  cases c
  ·obtain⟨e3,e4⟩:=nofar (x:=x) (c:=false) rfl (mkG x.nodes x.roots).nodes.length
   rw[hlow]
   have hs:(standB x false).h.scan=((stN x false (mkG x.nodes x.roots) (mkG x.nodes x.roots).nodes.length).n1:Int):=by simp[standB]
   have hcy:(standB x false).h.cycle=false:=rfl
   rw[hs,hcy]
   simp only[Bool.false_eq_true,if_false]
   refine⟨by omega,by omega,trivial,?_,?_⟩<;>simp[standB,e3,e4]
  ·have h0:=hc rfl
   rw[hlow]at h0
   rw[hlow]
   have hs:(standB x true).h.scan=pick x.scan (stN x true (mkG x.nodes x.roots) (mkG x.nodes x.roots).nodes.length).n1:=by
    simp only[standB]
    rw[if_pos ⟨trivial,by omega⟩]
   have hcy:(standB x true).h.cycle=true:=rfl
   have hp:=pick_lt (c:=x.scan) (n:=((stN x true (mkG x.nodes x.roots) (mkG x.nodes x.roots).nodes.length).n1:Int)) (by omega)
   rw[hs,hcy]
   simp only[if_true]
   omega
 ·have hw:=wt_upto (c:=c) hx (mkG x.nodes x.roots).nodes.length (Nat.le_refl _)
  have hl:(standB x c).h.low.length=(stN x c (mkG x.nodes x.roots) (mkG x.nodes x.roots).nodes.length).n1:=by simp[standB]
  have hh:(standB x c).h.high.length=(stN x c (mkG x.nodes x.roots) (mkG x.nodes x.roots).nodes.length).n2:=by simp[standB]
  have hcap:(standB x c).h.cap=max (((stN x c (mkG x.nodes x.roots) (mkG x.nodes x.roots).nodes.length).n1:Int)+(stN x c (mkG x.nodes x.roots) (mkG x.nodes x.roots).nodes.length).n2+(stN x c (mkG x.nodes x.roots) (mkG x.nodes x.roots).nodes.length).wt) (((stN x c (mkG x.nodes x.roots) (mkG x.nodes x.roots).nodes.length).n3:Int)+(stN x c (mkG x.nodes x.roots) (mkG x.nodes x.roots).nodes.length).n4)+pick x.slack 12:=rfl
  have hp:=pick_lt (c:=x.slack) (n:=12) (by omega)
  unfold obs
  rw[standB_g,hw,hl,hh,hcap]
  omega
theorem heapX_made(hx:x.ok): ∃c,heapX x=fillH x (standB x c)∧Made (standB x c) x:=by
 unfold heapX
 by_cases h:(standB x true).h.low.length=0
 ·rw[if_pos h]
  exact⟨false,rfl,made hx (by simp)⟩
 ·rw[if_neg h]
  exact⟨true,rfl,made hx fun _=>h⟩
theorem heapX_right(hx:x.ok):rightR (heapX x)=true:=by
 obtain⟨c,h,m⟩:=heapX_made hx
 rw[h]
 exact m.right (mkG_ptrB x c)
end
end Vm
end
section
namespace Vm
open Go Go.Proofs
set_option maxRecDepth 100000
set_option maxHeartbeats 1000000
theorem law13Copies(hF:FwdOk){x:Rw}(hx:x.ok){part at_:Int}(hp:Fit part)(ha:Fit at_):VC Try.prog 11 false [rwV x,vi part,vi at_] (.bool true):=by
 refine vc_of_wp Try.func11 follows (by kernel_rfl) c11 rfl ?_
 simp[p11]
 refine callW_of (awake13_vc hF) (by simp) ?_
 simp
 have kh:=Heap_vc hx
 unfold rwV at kh
 refine callW_of kh (by simp) ?_
 obtain⟨hh,hl,hro⟩:=heapX_ok hx
 obtain⟨p,r⟩:=right_iff.1 (heapX_right hx)
 generalize heapX x=h at*
 simp
 refine callW_of (pick13_vc hp (n:=2) (by omega)) (by simp) ?_
 have hk:=pick_lt (c:=part) (n:=2) (by omega)
 generalize pick part 2=k0 at*
 have wk:=wrap_i (3+k0) (by omega) (by omega)
 simp[wk]
 generalize hke:3+k0=k at*
 have hk4:3≤k∧k≤4:=by omega
 have hk1:1≤k∧k≤4:=by omega
 have ob:=CO_vc hh (k:=k)
 have hol:=objsR_len hh k
 rw[r.objs hk1]at ob hol
 simp only[hpV]at ob hol
 refine callW_of ob (by simp) ?_
 simp
 by_cases hn:p.at k= []
 ·simp[hn]
 have hpos:0< (p.at k).length:=List.length_pos_iff.2 hn
 simp[hn]
 refine callW_of (pick13_vc ha (n:=(p.at k).length) (by omega)) (by simp) ?_
 have hq:=pick_lt (c:=at_) (n:=(p.at k).length) (by omega)
 obtain⟨i,hi⟩:=Int.eq_ofNat_of_zero_le hq.1
 have hil:i< (p.at k).length:=by omega
 have ho:(p.at k)[i]? =some (p.at k)[i]:=List.getElem?_eq_getElem hil
 have hom:=List.getElem_mem hil
 generalize (p.at k)[i]=o at*
 simp[hi,ho,hil,at_of ho]
 refine callW_of (refLayout_vc (h:=h)) (by simp[hpV]) ?_
 have ad:=refAddrL_vc hh.lay (part:=k) (at_:=o.at_)
 obtain⟨a,n,m,ea,en,em,hal,hn5,_⟩:=r.toTld.ob hk1 hom
 have hsz:0≤o.at_∧o.at_<sizL (layH h) k:=by rw[sizL_layH hk1];omega
 rw[addr_in hl hk1 hsz]at ad
 simp
 refine callW_of ad (by simp) ?_
 have hfr:=fstL_range hl k
 rw[sizL_layH hk1]at hfr hsz
 have v1:=wrap_u (2*(fstL (layH h) k+o.at_)) (by omega) (by omega)
 have v2:=wrap_u (2*(fstL (layH h) k+o.at_)+1) (by omega) (by omega)
 have hru:U64 (refR (layH h) k o.at_):=⟨by unfold refR;omega,by unfold refR;omega⟩
 have fw:=hF h (refR (layH h) k o.at_) hh hru
 have fo:=fwd_ok hh hru
 have hre:2*(fstL (layH h) k+o.at_)+1=refR (layH h) k o.at_:=rfl
 have pt:=Part_vc (h:=h) (n:=k)
 have hpl:=right_len hl k
 have w1:=wrap_i (1+(n:Int)) (by omega) (by omega)
 obtain⟨e,he⟩: ∃e:Nat,a+(n+1)=e:=⟨_,rfl⟩
 have w2:IntKind.i64.wrap ((a:Int)+(1+n))=(e:Int):=by rw[wrap_i _ (by omega) (by omega)];omega
 cases hg:o.gone
 ·obtain⟨fe,hm⟩:=r.fwd_wait hk4 hom hg ea en
  rw[fe]at fw fo
  obtain⟨m1,m2,m3,m4,m5,m6,m7,m8,m9,m10⟩:=movH_parts h hk4 a (n+1)
  have mlay:=movH_lay hk4 (g:=h) (a:=a) (n:=n+1) hal
  have mr:=movH_right hl hk4 (a:=a) (n:=n+1) hal hm
  have nl:=nums_vc (a:=(movH h k a (n+1)).low) (b:=(movH h k a (n+1)).low) fo.1.low
  have nk:=nums_vc (a:=partH (movH h k a (n+1)) k) (b:=partH (movH h k a (n+1)) k) (partH_ok fo.1 k).2
  have n7:=nums_vc (a:=partH (movH h k a (n+1)) (7-k)) (b:=partH (movH h k a (n+1)) (7-k)) (partH_ok fo.1 (7-k)).2
  have pk:=Part_vc (h:=movH h k a (n+1)) (n:=k)
  have p7:=Part_vc (h:=movH h k a (n+1)) (n:=7-k)
  have q7:=Part_vc (h:=h) (n:=7-k)
  have ly:=refLayout_vc (h:=movH h k a (n+1))
  have a2:=refAddrL_vc fo.1.lay (part:=1) (at_:=(h.low.length:Int))
  rw[addr_in mr (by omega) (by rw[mlay];simp only[sizL,if_true];omega)]at a2
  have hfst:fstL (layH (movH h k a (n+1))) 1=fstL (layH h) 1:=by rw[mlay];rfl
  rw[hfst]at a2
  have hf1:=fstL_range mr 1
  rw[hfst,mlay]at hf1
  simp only[sizL,if_true]at hf1
  have v3:=wrap_u (2*(fstL (layH h) 1+h.low.length)) (by omega) (by omega)
  have v4:=wrap_u (2*(fstL (layH h) 1+h.low.length)+1) (by omega) (by omega)
  have hre1:2*(fstL (layH h) 1+h.low.length)+1=refR (layH h) 1 h.low.length:=rfl
  simp only[fwO]at fw
  rw[m1]at nl
  rw[m3]at nk pk
  rw[m4]at n7 p7
  generalize hgm:movH h k a (n+1)=g at*
  simp only[hpV]at fw pt ly pk p7 q7
  rw[hre]at v2
  rw[hre1]at v4
  simp[v1,hre,v2]
  refine callW_of fw (by simp) ?_
  simp
  refine callW_of pt (by simp) ?_
  simp[ea,en,w1,w2,hg,v3,v4,show ¬(1:Int)+n<1 by omega,show ¬(partH h k).length<e by omega,show ¬((partH h k).length:Int) < (e:Int)by omega]
  refine callW_of ly (by simp) ?_
  simp
  refine callW_of a2 (by simp) ?_
  have hll:=right_len hl 1
  simp only[partH1]at hll
  rw[he]at m1
  simp[lim,w2,show h.low.length≤4294967296 by omega,show a≤e by omega,show e≤(partH h k).length by omega,sizeOk_map,show(partH h k).length≤4294967296 by omega]
  refine⟨?_,?_⟩
  ·exact⟨by omega,by rw[←List.map_take,←List.map_drop];exact sizeOk_map fun _=>rfl⟩
  refine wpS_loopP (fun j:Nat=> [(25,.v (.sl ((zr (partH h k) a j).map vu))),(26,.v (vi ((a+j:Nat):Int)))]) (fun j=>j≤n+1) (fun t=>match get t 26 with| .v (.int _ v)=>e+1-v.toNat|_=>0) 0 (by simp[zr]) (by omega) ?_
  intro j hj
  obtain⟨z,hz⟩: ∃z:Nat,a+j=z:=⟨_,rfl⟩
  simp only[hz]
  have wz:=wrap_i ((z:Int)+1) (by omega) (by omega)
  by_cases hjn:j<n+1
  ·have hzl:z< (partH h k).length:=by omega
   have hz2:z< (zr (partH h k) a j).length:=by rw[zr_len];exact hzl
   have hzv:(zr (partH h k) a j)[z]? =some (zr (partH h k) a j)[z]:=List.getElem?_eq_getElem hz2
   generalize (zr (partH h k) a j)[z]=v at*
   simp[ea,w2,show z<e by omega,hzl,hz2,hzv,at_of hzv,wz,V.put]
   exact⟨j+1,by omega,⟨by simp[zr,hz,List.map_set],by omega⟩,by omega⟩
  ·have:j=n+1:=by omega
   subst this
   have:z=e:=by omega
   subst this
   have hal2:a< (zr (partH h k) a (n+1)).length:=by rw[zr_len];omega
   have hzv:(zr (partH h k) a (n+1))[a]? =some (zr (partH h k) a (n+1))[a]:=List.getElem?_eq_getElem hal2
   generalize (zr (partH h k) a (n+1))[a]=v at*
   have w7:=wrap_i (7-k) (by omega) (by omega)
   rw[he]at nl
   rw[←hre1]at v4 nk pk⊢
   simp only[List.map_append,List.map_drop,List.map_take,List.map_set,m1]at nl nk pk p7⊢
   simp[w2,hzv,v3,v4,w7]
   refine callW_of nl (by simp[flV,V.flatc]) ?_
   simp
   refine callW_of pk (by simp) ?_
   simp
   refine callW_of nk (by simp[flV,V.flatc]) ?_
   simp[w7]
   refine callW_of p7 (by simp) ?_
   simp[w7]
   refine callW_of q7 (by simp) ?_
   simp
   refine callW_of n7 (by simp) ?_
   simp[m6,m7]
 ·rw[r.fwd_gone hk4 hom hg]at fw fo
  have ss:=sameH_vc (a:=h) (b:=h) hh
  obtain⟨q,hq,t1,_⟩:=r.gone k hk4 o hom hg
  obtain⟨b,n',m',eb,_,_,hbl,_⟩:=r.toTld.ob (k:=1) (by omega) hq
  have hf1:=fstL_range hl 1
  rw[sizL_layH (by omega)]at hf1
  have v3:=wrap_u (2*o.target) (by omega) (by omega)
  have v4:=wrap_u (2*o.target+1) (by omega) (by omega)
  simp only[fwO,hpV]at fw pt ss
  rw[hre]at v2
  simp[v1,hre,v2]
  refine callW_of fw (by simp) ?_
  simp
  refine callW_of pt (by simp) ?_
  simp[ea,en,w1,w2,hg,v3,v4,show ¬(1:Int)+n<1 by omega,show ¬(partH h k).length<e by omega,show ¬((partH h k).length:Int) < (e:Int)by omega]
  exact callW_of ss (by simp) (by simp)
end Vm
end
section
namespace Vm
open Go Go.Proofs Go.RowKit
set_option maxHeartbeats 4000000
set_option maxRecDepth 100000
structure Now (B:Nat) (w:World) (b:Nat) (h:Hp) (x:Nat→Value):Prop where
 blk:w.heap[b]? =some (.cells #[.int .u64 h.base,.int .i64 h.cap,.int .i64 h.to,.bool h.cycle,.int .i64 h.scan,x 0,x 1,x 2,x 3,x 4] 100 (0,0))
 own:HOwn B w h x
 far: ∀j,j<5→ ∀c,(x j).ownBlock=some c→c≠b
 new:B≤b
def toOf(h:Hp)(part:Int)(a n:Nat):Int:=(ptrTo (addrL (layH (movedH h part a n)) 1 h.low.length).1).1
def CarryPost(B:Nat)(w:World)(b:Nat)(h:Hp)(p a n:Nat)(e:Ending)(w':World):Prop:=
 ∃x',e= .returned (.int .u64 (toOf h (p+1) a n))∧Below B w w'∧Now B w' b (withH (movedH h (p+1) a n) (p+1) ((zr (lsH h p) a n).set a (toOf h (p+1) a n))) x'
theorem wp_clear_run{P:Program}(w:World){o:Oper}{a:Act}{K:Act→World→Prop}{Q:Exit→Act→World→Prop}(s:Operand)(t:TypeId)
  (ho:o.op= .call {callee:= .builtin .clear,args:= #[s],argTypes:= #[t]}) (vs:Value) (hs:a.eval s=vs)
  (w':World) (hr:(Builtin.clear_ #[t] o.type #[vs]).run P w= .ok (.tuple #[]) w') (h:K (a.put o.dst (.tuple #[])) w'):o.wp P a w K Q:=by
 unfold Oper.wp execOp
 simp only[ho,resolve,invoke,builtin,Sem.run_bind,Sem.run_pure,Result.andThen_ok,List.map_toArray,List.map_cons,List.map_nil,hs,hr]
 exact h
theorem wpList_clear_run{P:Program}(w:World){ops:Array Oper}{rest:List Oper}{o:Oper}{a:Act}{Q:Exit→Act→World→Prop}(hgd:o.guard=none)(s:Operand)(t:TypeId)
  (ho:o.op= .call {callee:= .builtin .clear,args:= #[s],argTypes:= #[t]}) (vs:Value) (hs:a.eval s=vs)
  (w':World) (hr:(Builtin.clear_ #[t] o.type #[vs]).run P w= .ok (.tuple #[]) w') (h:wpList P ops Q rest (a.put o.dst (.tuple #[])) w'):wpList P ops Q (o::rest) a w:=
 wpList_plain hgd fun _ hK=>wp_clear_run w s t ho vs hs w' hr (hK _ _ h)
theorem setCells_heap{b c:Nat}(hc:c≠b): ∀(vs:List Value) (o:Nat) (w:World),(w.setCells b o vs).heap[c]? =w.heap[c]?
 | [],_,_=>rfl
 |v::r,o,w=>by
  show((w.setCell ⟨b,o,none⟩ v).setCells b (o+1) r).heap[c]? =_
  rw[setCells_heap hc r]
  exact Below.heap_setCell _ _ _ _ hc
theorem setCells_size(b:Nat): ∀(vs:List Value) (o:Nat) (w:World),(w.setCells b o vs).heap.size=w.heap.size
 | [],_,_=>rfl
 |v::r,o,w=>by
  show((w.setCell ⟨b,o,none⟩ v).setCells b (o+1) r).heap.size=_
  rw[setCells_size b r]
  simp[World.setCell]
theorem setCells_below{B b:Nat}(hb:B≤b): ∀(vs:List Value) (o:Nat) (w0 w:World),Below B w0 w→Below B w0 (w.setCells b o vs)
 | [],_,_,_,h=>h
 |v::r,o,w0,w,h=>setCells_below hb r (o+1) w0 _ (h.setCell hb _)
theorem own_zeros{B g len cap:Nat}{L:List Int}(a:Nat): ∀(n k:Nat) (w:World),a+k+n≤len→w.ownsRow B 24 1 (.slice (some ⟨g,0,none⟩) len cap) len (nums .u64 (zr L a k))→
  (w.setCells g (a+k) (List.replicate n (.int .u64 0))).ownsRow B 24 1 (.slice (some ⟨g,0,none⟩) len cap) len (nums .u64 (zr L a (k+n)))
 |0,k,w,_,h=>h
 |n+1,k,w,hl,h=>by
  have h1:=(h.stored (a+k) (.int .u64 0)).1
  have h2:(nums .u64 (zr L a k)).set (a+k) (.int .u64 0)=nums .u64 (zr L a (k+1)):=by rw[zr,nums_set]
  rw[h2]at h1
  have:=own_zeros a n (k+1) _ (by omega) h1
  rw[show k+1+n=k+(n+1)by omega]at this
  exact this
theorem carry_walk(w:World)(B b:Nat)(h:Hp)(x:Nat→Value)(hN:Now B w b h x)(hB:B≤w.heap.size)(hh:h.ok)(p a n:Nat)(hp:p=2∨p=3)(hn0:0<n)(hn:n≤1000)(hroom:(n:Int)≤roomL (layH h))
  (g cap:Nat) (hx:x p= .slice (some ⟨g,0,none⟩) (lsH h p).length cap) (han:a+n≤(lsH h p).length) (c':Nat):
  Calls Try.prog 62 #[.pointer (some ⟨b,0,none⟩),.slice (some ⟨g,a,none⟩) n c'] w (CarryPost B w b h p a n):=by
 obtain⟨iU,hiU,hzU,hsU,hbU⟩:=info_parts infoU
 have hl0:(lsH h 0).length≤1000000:=lsH_len hh 0
 obtain⟨v1,w1,hr1,ho1,hg1,hn1⟩:=run_appendZ (P:=Try.prog) (w:=w) (T:=28) (tI:=3) (ty:=28) Try.underlying28 Try.underlying3 hiU hzU rfl rfl hsU hbU (hN.own.own 0 (by omega)) hB hn0 (by omega) .i64
 obtain⟨a0,q0,e0⟩:=own_form (hN.own.own 0 (by omega))
 have b0:w.cell? ⟨b,5,none⟩=some (x 0):=by rw[cell_of_row _ _ _ _ _ _ hN.blk];rfl
 have f0:w.frozen? ⟨b,5,none⟩=false:=frz_of hN.blk
 have hbw:=heap_lt hN.blk
 have hne:some b≠(x 0).ownBlock:=fun e=>hN.far 0 (by omega) b e.symm rfl
 have c1:=(hg1.cell_far ⟨b,5,none⟩ hbw hne).trans b0
 have f1:=(hg1.frozen_far ⟨b,5,none⟩ hbw hne).trans f0
 rw[e0]at hr1 b0 c1
 have hlx:(nums .u64 (lsH h 0)).length=(lsH h 0).length:=by simp[nums]
 rcases ho1.2 with ⟨_,hbad⟩ | ⟨g0,q1,cur,hv1,hg0B,hcur,hq1,hqm,hcsz,htake⟩
 ·omega
 subst hv1
 have hq1': ¬q1=(lsH h 0).length:=by omega
 have hg0b:g0≠b:=by
  intro e
  rcases hn1 with e1| ⟨_,e1⟩
  ·exact hne (by rw[←e1,e];rfl)
  ·have:=(e1.lt g0 rfl).1;omega
 have hgb:g≠b:=hN.far p (by omega) g (by rw[hx];rfl)
 have hgw:g<w.heap.size:=((hN.own.own p (by omega)).lt g (by rw[hx];rfl)).2
 have hgx:some g≠(x 0).ownBlock:=fun e=>hN.own.apart 0 p (by omega) (by omega) g e.symm (by rw[hx];rfl)
 have hgg0:g≠g0:=by
  intro e
  rcases hn1 with e1| ⟨_,e1⟩
  ·exact hgx (by rw[←e1,e];rfl)
  ·have:=(e1.lt g0 rfl).1;omega
 obtain⟨w2,hw2⟩: ∃w2,w2=w1.setCell ⟨b,5,none⟩ (.slice (some ⟨g0,0,none⟩) ((lsH h 0).length+n) q1):=⟨_,rfl⟩
 have hcur2:w2.heap[g0]? =some (.cells cur 24 (0,0)):=by rw[hw2,Below.heap_setCell _ _ _ _ hg0b];exact hcur
 have hgk: ∀c,c≠b→c<w.heap.size→some c≠(x 0).ownBlock→w2.heap[c]? =w.heap[c]? :=fun c h1 h2 h3=>by
  rw[hw2,Below.heap_setCell _ _ _ _ h1,hg1.block c h2 h3]
 have hblk2:w2.heap[b]? =some (.cells #[.int .u64 h.base,.int .i64 h.cap,.int .i64 h.to,.bool h.cycle,.int .i64 h.scan,.slice (some ⟨g0,0,none⟩) ((lsH h 0).length+n) q1,x 1,x 2,x 3,x 4] 100 (0,0)):=by
  have:=(hg1.block b hbw hne).trans hN.blk
  rw[hw2]
  simp[World.setCell,Array.getElem?_modify,this]
 have hcell2:w2.cell? ⟨b,5,none⟩=some (.slice (some ⟨g0,0,none⟩) ((lsH h 0).length+n) q1):=by rw[cell_of_row _ _ _ _ _ _ hblk2];rfl
 have hown2:w2.ownsRow B 24 1 (x p) (lsH h p).length (nums .u64 (lsH h p)):=owns_block (hN.own.own p (by omega)) fun c hc=>by
  rw[hx]at hc
  cases hc
  exact hgk g hgb hgw hgx
 obtain⟨cs,hcs⟩: ∃cs,cs=nums .u64 (((lsH h p).take (a+n)).drop a):=⟨_,rfl⟩
 have hcl:cs.length=n:=by rw[hcs];simp[nums];omega
 have hsrc: ∀j v,cs[j]? =some v→w2.cell? ((⟨g,a,none⟩:Addr).add j)=some v:=by
  intro j v hv
  have hj:j<n:=by rw[←hcl];exact(List.getElem?_eq_some_iff.1 hv).1
  rw[hx]at hown2
  have:=hown2.cellAt (a+j) (by omega)
  rw[Addr.add_lit,this]
  rw[hcs]at hv
  simp only[nums]at hv⊢
  rw[←hv]
  simp[List.getElem?_take,show a+j<a+n by omega]
 obtain⟨w3,hw3⟩: ∃w3,w3=w2.setRow g0 (cur.toList.take (lsH h 0).length++(cs++cur.toList.drop ((lsH h 0).length+cs.length))).toArray:=⟨_,rfl⟩
 have hfit:(lsH h 0).length+cs.length≤cur.size:=by rw[hcl];simp at hcsz;omega
 have hone: ∀v∈cs,v.oneCell'=true:=by
  intro v hv
  rw[hcs]at hv
  obtain⟨_,_,rfl⟩:=List.mem_map.1 hv
  rfl
 have hmin:cs.length=Nat.min n n:=by rw[hcl];simp
 have hsz1:(Try.prog.info? 24).map (·.size)=some 1:=by rw[hiU];simp[hsU]
 have hblk3:w3.heap[b]? =some (.cells #[.int .u64 h.base,.int .i64 h.cap,.int .i64 h.to,.bool h.cycle,.int .i64 h.scan,.slice (some ⟨g0,0,none⟩) ((lsH h 0).length+n) q1,x 1,x 2,x 3,x 4] 100 (0,0)):=by
  rw[hw3,setRow_other _ _ _ _ hg0b.symm];exact hblk2
 have hk3: ∀c,c≠b→c≠g0→c<w.heap.size→some c≠(x 0).ownBlock→w3.heap[c]? =w.heap[c]? :=fun c h1 h2 h3 h4=>by
  rw[hw3,setRow_other _ _ _ _ h2];exact hgk c h1 h3 h4
 have hs12:w.heap.size≤w3.heap.size:=by
  have:=hg1.size
  have e2:w2.heap.size=w1.heap.size:=by rw[hw2];simp[World.setCell]
  have e3:w3.heap.size=w2.heap.size:=by rw[hw3];simp[World.setRow]
  omega
 have hl3:lsH (movedH h (p+1) a n) 0=lsH h 0++((lsH h p).take (a+n)).drop a:=by
  rcases hp with rfl|rfl<;>rfl
 have hl3': ∀j,j≠0→lsH (movedH h (p+1) a n) j=lsH h j:=fun j hj=>by
  unfold lsH movedH
  simp[hj]
 have hown3: ∀j,j<5→w3.ownsRow B 24 1 (if j=0 then .slice (some ⟨g0,0,none⟩) ((lsH h 0).length+n) q1 else x j) (lsH (movedH h (p+1) a n) j).length (nums .u64 (lsH (movedH h (p+1) a n) j)):=by
  intro j hj
  by_cases hj0:j=0
  ·subst hj0
   rw[if_pos rfl,hl3]
   have hd:(((lsH h p).take (a+n)).drop a).length=n:=by simp;omega
   refine⟨by simp[nums],.inr ⟨g0,q1,(cur.toList.take (lsH h 0).length++(cs++cur.toList.drop ((lsH h 0).length+cs.length))).toArray,?_,hg0B,?_,?_,hqm,?_,?_⟩⟩
   ·rw[List.length_append,hd]
   ·rw[hw3];exact setRow_heap _ _ _ _ _ _ hcur2
   ·rw[List.length_append,hd];exact hq1
   ·simp[hcl]at hcsz hfit⊢;omega
   ·have ht:cur.toList.take ((lsH h 0).length)=nums .u64 (lsH h 0):=by
     have:=congrArg (List.take (lsH h 0).length) htake
     rw[List.take_take,Nat.min_eq_left (by omega)]at this
     rw[this,List.take_left' hlx]
    rw[List.length_append,hd,ht]
    simp only[Nat.mul_one]
    rw[←List.append_assoc,List.take_left' (by simp[hlx,hcl]),hcs]
    simp[nums]
  ·rw[if_neg hj0,hl3' j hj0]
   have ho:=hN.own.own j hj
   exact owns_block ho fun c hc=>hk3 c (hN.far j hj c hc) (fun e=>by
    rcases hn1 with e1| ⟨_,e1⟩
    ·exact hN.own.apart 0 j (by omega) hj c (by rw[←e1,e];rfl) hc
    ·have h1:=(e1.lt g0 rfl).1
     have h2:=(ho.lt c hc).2
     omega) (ho.lt c hc).2 (fun e=>hN.own.apart 0 j (by omega) hj c e.symm hc)
 have hg0x: ∀j,0<j→j<5→(x j).ownBlock≠some g0:=fun j h0 hj hc=>by
  rcases hn1 with e1| ⟨_,e1⟩
  ·exact hN.own.apart 0 j h0 hj g0 (by rw[←e1];rfl) hc
  ·have h1:=(e1.lt g0 rfl).1
   have h2:=((hN.own.own j hj).lt g0 hc).2
   omega
 have hgj: ∀j,j<5→j≠p→(x j).ownBlock≠some g:=fun j hj hne hc=>by
  have hgp:(x p).ownBlock=some g:=by rw[hx];rfl
  rcases Nat.lt_or_gt_of_ne hne with h1|h1
  ·exact hN.own.apart j p h1 (by omega) g hc hgp
  ·exact hN.own.apart p j h1 hj g hgp hc
 have hgB:B≤g:=((hN.own.own p (by omega)).lt g (by rw[hx];rfl)).1
 have hopw:=hN.own.own p (by omega)
 rw[hx]at hopw
 have hrow: ∀W:World,W.heap[g]? =w.heap[g]? →W.ownsRow B 24 1 (.slice (some ⟨g,0,none⟩) (lsH h p).length cap) (lsH h p).length (nums .u64 (lsH h p)):=fun W hW=>owns_block hopw fun c hc=>by
  cases hc
  exact hW
 have hlp:(nums .u64 (lsH h p)).length=(lsH h p).length:=by simp[nums]
 have hcells: ∀W:World,W.heap[g]? =w.heap[g]? →(∀j,j<n→(W.cell? ⟨g,a+j,none⟩).isSome=true)∧(∀j,j<n→W.frozen? ⟨g,a+j,none⟩=false):=fun W hW=>⟨fun j hj=>by
  rw[(hrow W hW).cellAt (a+j) (by omega)]
  simp[hlp];omega,fun j hj=>(hrow W hW).frozenAt _⟩
 have hg3:w3.heap[g]? =w.heap[g]? :=hk3 g hgb hgg0 hgw hgx
 have HN:=Lib.hid hN
 have HO:=Lib.hid ho1
 have HG:=Lib.hid hg1
 have HW2:=Lib.hid hw2
 have HW3:=Lib.hid hw3
 have HO3:=Lib.hid hown3
 have d0:w3.cell? ⟨b,0,none⟩=some (Value.int .u64 h.base):=by rw[cell_of_row _ _ _ _ _ _ hblk3];rfl
 have d1:w3.cell? ⟨b,1,none⟩=some (Value.int .i64 h.cap):=by rw[cell_of_row _ _ _ _ _ _ hblk3];rfl
 have d2:w3.cell? ⟨b,2,none⟩=some (Value.int .i64 h.to):=by rw[cell_of_row _ _ _ _ _ _ hblk3];rfl
 have d3:w3.cell? ⟨b,3,none⟩=some (Value.bool h.cycle):=by rw[cell_of_row _ _ _ _ _ _ hblk3];rfl
 have d4:w3.cell? ⟨b,4,none⟩=some (Value.int .i64 h.scan):=by rw[cell_of_row _ _ _ _ _ _ hblk3];rfl
 have d5:w3.cell? ⟨b,5,none⟩=some (Value.slice (some ⟨g0,0,none⟩) ((lsH h 0).length+n) q1):=by rw[cell_of_row _ _ _ _ _ _ hblk3];rfl
 have d6:w3.cell? ⟨b,6,none⟩=some (x 1):=by rw[cell_of_row _ _ _ _ _ _ hblk3];rfl
 have d7:w3.cell? ⟨b,7,none⟩=some (x 2):=by rw[cell_of_row _ _ _ _ _ _ hblk3];rfl
 have d8:w3.cell? ⟨b,8,none⟩=some (x 3):=by rw[cell_of_row _ _ _ _ _ _ hblk3];rfl
 have d9:w3.cell? ⟨b,9,none⟩=some (x 4):=by rw[cell_of_row _ _ _ _ _ _ hblk3];rfl
 have hm3:(movedH h (p+1) a n).ok:=moved_ok hh (by rcases hp with rfl|rfl<;>exact han) hroom hn0
 clear hN ho1 hg1 hw2 hw3 hown3
 go_enter Try.func62,Try.ntmps62
 go_wp2_with (first
  | (at_builtin;refine Lib.wpList_append_run _ rfl _ _ 28 3 rfl _ _ rfl rfl _ _ hr1 ?_)
  | (rw[←HW2.out];refine wpList_copy_own rfl _ _ 28 28 rfl 24 Try.underlying28 hsz1 g0 (lsH h 0).length n (q1- (lsH h 0).length) ⟨g,a,none⟩ n c' rfl rfl cur 24 hcur2 cs hmin hsrc hfit hone ?_;rw[←HW3.out])
  | (go_at_call 54;refine(Layout_calls (h:=movedH h (p+1) a n) (x:=fun j=>if j=0 then .slice (some ⟨g0,0,none⟩) ((lsH h 0).length+n) q1 else x j) (G:=fun c=>B≤c∧c<w3.heap.size) (fun c hc=>hc.2) (fun j hj=>own_rd (HO3.out j hj) (fun c h1 h2=>⟨h1,h2⟩))).mono ?_;rintro e w4 ⟨rfl,hb4⟩;have HB4:=Lib.hid hb4;clear hb4)
  | (go_at_call 39;refine(addrL_calls hm3.lay _ _ _).mono ?_;rintro e w5 ⟨rfl,hb5⟩;have hg5:w5.heap[g]? =w.heap[g]? :=(hb5.block g (by have:=HB4.out.size;omega)).trans ((HB4.out.block g (by omega)).trans hg3);have hs5:w3.heap.size≤w5.heap.size:=Nat.le_trans HB4.out.size hb5.size;have HB5:=Lib.hid hb5;clear hb5;obtain⟨w6,hw6⟩: ∃w6,w6=w5.setCells g a (List.replicate n (.int .u64 0)):=⟨_,rfl⟩;have hs6:w6.heap.size=w5.heap.size:=by {rw[hw6];exact setCells_size _ _ _ _};have c6:w6.cell? ⟨g,a,none⟩=some (.int .u64 0):=by {rw[hw6];have:=World.cell?_setCells_in g (List.replicate n (Value.int .u64 0)) a w5 (by simpa using(hcells w5 hg5).1) 0 (by simpa using hn0);simpa using this};have f6:w6.frozen? ⟨g,a,none⟩=false:=by {rw[hw6,World.frozen?_setCells];exact(hcells w5 hg5).2 0 hn0};have HW6:=Lib.hid hw6;clear hw6)
  | (refine wpList_clear_run _ rfl _ 28 rfl _ rfl _ (Lib.run_clear_slice _ _ 24 _ (.int .u64 0) Try.underlying28 (run_zeroValue hiU hzU) rfl rfl g a n c' hn0 (hcells w5 hg5).1 (hcells w5 hg5).2) ?_;rw[←HW6.out])
  | (go_at_call 40;refine(ptrTo_calls addr_u _).mono ?_;rintro e w7 ⟨rfl,hb7⟩;have c7:=(hb7.cell (p:=⟨g,a,none⟩) (by show g<w6.heap.size;omega)).trans c6;have f7:=(hb7.frozen (p:=⟨g,a,none⟩) (by show g<w6.heap.size;omega)).trans f6;have HB7:=Lib.hid hb7;clear hb7))
 go_ret
 have hbel3:Below B w w3:=by
  rw[HW3.out,HW2.out]
  exact Go.below_setRow (Below.setCell (p:=⟨b,5,none⟩) ((Below.refl B w).grown HG.out hB (fun k hk=>((HN.out.own.own 0 (by omega)).lt k hk).1)) HN.out.new _) hg0B _
 have hB3:B≤w3.heap.size:=by omega
 have hbel5:Below B w w5:=(hbel3.trans (HB4.out.mono hB3)).trans (HB5.out.mono (by have:=HB4.out.size;omega))
 have hbel6:Below B w w6:=by rw[HW6.out];exact setCells_below hgB _ _ _ _ hbel5
 have hbel7:Below B w w7:=hbel6.trans (HB7.out.mono (by omega))
 have hs4:=HB4.out.size
 have hs45:=HB5.out.size
 have h37: ∀(c:Nat) (u:Value),c≠g→c<w3.heap.size→(w7.setCell ⟨g,a,none⟩ u).heap[c]? =w3.heap[c]? :=fun c u h1 h2=>by
  rw[Below.heap_setCell _ _ _ _ h1,HB7.out.block c (by omega),HW6.out,setCells_heap h1,HB5.out.block c (by omega),HB4.out.block c h2]
 have hg5:w5.heap[g]? =w.heap[g]? :=(HB5.out.block g (by omega)).trans ((HB4.out.block g (by omega)).trans hg3)
 have hrow6:=own_zeros (L:=lsH h p) a n 0 w5 (by omega) (hrow w5 hg5)
 have e6:w5.setCells g (a+0) (List.replicate n (.int .u64 0))=w6:=HW6.out.symm
 rw[e6,Nat.zero_add]at hrow6
 have hrow7:=owns_block (w':=w7) hrow6 fun c hc=>by
  cases hc
  exact HB7.out.block g (by omega)
 have hrow8:=(hrow7.stored a (.int .u64 (toOf h (p+1) a n))).1
 rw[←nums_set]at hrow8
 refine⟨fun j=>if j=0 then .slice (some ⟨g0,0,none⟩) ((lsH h 0).length+n) q1 else x j,rfl,hbel7.setCell hgB _,?_,⟨?_,?_⟩,?_,HN.out.new⟩
 ·rw[h37 b _ (fun e=>hgb e.symm) (by omega),hblk3]
  rcases hp with rfl|rfl<;>rfl
 ·intro j hj
  by_cases hjp:j=p
  ·subst hjp
   have e1:lsH (withH (movedH h (j+1) a n) (j+1) ((zr (lsH h j) a n).set a (toOf h (j+1) a n))) j=(zr (lsH h j) a n).set a (toOf h (j+1) a n):=by
    rcases hp with rfl|rfl<;>rfl
   rw[e1,if_neg (by omega),hx,List.length_set,zr_len]
   exact hrow8
  ·have e1:lsH (withH (movedH h (p+1) a n) (p+1) ((zr (lsH h p) a n).set a (toOf h (p+1) a n))) j=lsH (movedH h (p+1) a n) j:=by
    have:j=0∨j=1∨j=2∨j=3∨j=4:=by omega
    rcases hp with rfl|rfl<;>rcases this with rfl|rfl|rfl|rfl|rfl<;>first|rfl|exact(hjp rfl).elim
   rw[e1]
   have ho:=HO3.out j hj
   refine owns_block ho fun c hc=>h37 c _ (fun e=> ?_) (ho.lt c hc).2
   subst e
   by_cases h0:j=0
   ·rw[if_pos h0]at hc
    cases hc
    exact hgg0 rfl
   ·rw[if_neg h0]at hc
    exact hgj j hj hjp hc
 ·intro i j hij hj c hc
  rw[if_neg (show ¬j=0 by omega)]
  by_cases h0:i=0
  ·rw[if_pos h0]at hc
   cases hc
   exact hg0x j (by omega) hj
  ·rw[if_neg h0]at hc
   exact HN.out.own.apart i j hij hj c hc
 ·intro j hj c hc
  by_cases h0:j=0
  ·rw[if_pos h0]at hc
   cases hc
   exact hg0b
  ·rw[if_neg h0]at hc
   exact HN.out.far j hj c hc
end Vm
namespace Vm
open Go Go.Proofs Go.RowKit
set_option maxHeartbeats 4000000
set_option maxRecDepth 100000
theorem from_walk(w:World)(B b:Nat)(h:Hp)(x:Nat→Value)(hN:Now B w b h x)(hh:h.ok)(p a:Nat)(hp:p=2∨p=3)(g cap:Nat)
  (hx:x p= .slice (some ⟨g,0,none⟩) (lsH h p).length cap) (ha:a< (lsH h p).length):
  Calls Try.prog 59 #[.pointer (some ⟨b,0,none⟩),.agg #[.int .i64 ((p:Int)+1),.int .i64 a]] w fun e w'=>e= .returned (.slice (some ⟨g,a,none⟩) ((lsH h p).length-a) (cap-a))∧Below w.heap.size w w':=by
 have hbw:=heap_lt hN.blk
 have hl:=lsH_len hh p
 have hcap:(lsH h p).length≤cap:=by
  have:=(hN.own.own p (by omega)).2
  rw[hx]at this
  rcases this with ⟨hc,_⟩ | ⟨_,_,_,hc,_,_,h1,_⟩
  ·cases hc
  ·cases hc;exact h1
 rcases hp with rfl|rfl
 ·have c7:(w.alloc (.cells #[.int .i64 3,.int .i64 a] 65)).cell? ⟨b,7,none⟩=some (.slice (some ⟨g,0,none⟩) (lsH h 2).length cap):=by
   rw[World.cell?_alloc_lt _ _ _ hbw,cell_of_row _ _ _ _ _ _ hN.blk,←hx];rfl
  have hcap':((lsH h 2).length:Int)≤9223372036854775807:=by omega
  go_enter Try.func59,Try.ntmps59
  go_wp2
  go_region
  go_wp2
  go_ret
  exact⟨rfl,((Below.refl _ _).alloc (Nat.le_refl _) _).drew⟩
 ·have c8:(w.alloc (.cells #[.int .i64 4,.int .i64 a] 65)).cell? ⟨b,8,none⟩=some (.slice (some ⟨g,0,none⟩) (lsH h 3).length cap):=by
   rw[World.cell?_alloc_lt _ _ _ hbw,cell_of_row _ _ _ _ _ _ hN.blk,←hx];rfl
  have hcap':((lsH h 3).length:Int)≤9223372036854775807:=by omega
  go_enter Try.func59,Try.ntmps59
  go_wp2
  go_region
  go_wp2
  go_ret
  exact⟨rfl,((Below.refl _ _).alloc (Nat.le_refl _) _).drew⟩
end Vm
namespace Vm
open Go Go.Proofs Go.RowKit
set_option maxHeartbeats 4000000
set_option maxRecDepth 100000
def FwdPost(w:World)(r:Int×Hp×Int)(e:Ending)(w':World):Prop:=
 ∃x,e= .returned (.tuple #[.int .u64 r.1,hpA r.2.1 x,.int .i64 r.2.2])∧Below w.heap.size w w'∧ ∀j,j<5→Rd w' (fun c=>w.heap.size≤c∧c<w'.heap.size) (.sl ((lsH r.2.1 j).map vu)) (x j)
theorem zero_rd(w':World)(G:Nat→Prop): ∀j,j<5→Rd w' G (.sl ((lsH Hp.zero j).map vu)) (.slice none 0 0):=fun j hj=>by
 have:lsH Hp.zero j= []:=by
  unfold lsH Hp.zero
  split
  ·rfl
  split
  ·rfl
  split
  ·rfl
  split<;>rfl
 rw[this]
 exact .nil _ _ (by unfold maxLen;omega)
def zeroA:Array Value:= #[Value.int IntKind.u64 0,Value.int IntKind.i64 0,Value.int IntKind.i64 0,Value.bool false,Value.int IntKind.i64 0,Value.slice none 0 0,Value.slice none 0 0,Value.slice none 0 0,Value.slice none 0 0,Value.slice none 0 0]
theorem zero_new(w:World)(o:Obj):((w.alloc o).alloc (.cells #[Value.int IntKind.u64 0,Value.int IntKind.i64 0,Value.int IntKind.i64 0,Value.bool false,Value.int IntKind.i64 0,Value.slice none 0 0,Value.slice none 0 0,Value.slice none 0 0,Value.slice none 0 0,Value.slice none 0 0] 31)).heap[w.heap.size+1]? =some (.cells zeroA 31 (0,0)):=by
 have e:(w.alloc o).heap.size=w.heap.size+1:=by simp
 have:=heap_alloc_new (w.alloc o) (.cells zeroA 31)
 rw[e]at this
 exact this
theorem put10_blk{w2:World}{b:Nat}{T:TypeId}(hb:w2.heap[b]? =some (.cells zeroA T (0,0)))(v0 v1 v2 v3 v4 v5 v6 v7 v8 v9:Value):((((((((((w2.setCell ⟨b,0,none⟩ v0).setCell ⟨b,1,none⟩ v1).setCell ⟨b,2,none⟩ v2).setCell ⟨b,3,none⟩ v3).setCell ⟨b,4,none⟩ v4).setCell ⟨b,5,none⟩ v5).setCell ⟨b,6,none⟩ v6).setCell ⟨b,7,none⟩ v7).setCell ⟨b,8,none⟩ v8).setCell ⟨b,9,none⟩ v9).heap[b]? =some (.cells #[v0,v1,v2,v3,v4,v5,v6,v7,v8,v9] T (0,0)):=by
 unfold zeroA at hb
 simp[World.setCell,Array.getElem?_modify,hb]
theorem put10_cells{w2:World}{b:Nat}{T:TypeId}(hb:w2.heap[b]? =some (.cells zeroA T (0,0)))(v0 v1 v2 v3 v4 v5 v6 v7 v8 v9:Value)(j:Nat):((((((((((w2.setCell ⟨b,0,none⟩ v0).setCell ⟨b,1,none⟩ v1).setCell ⟨b,2,none⟩ v2).setCell ⟨b,3,none⟩ v3).setCell ⟨b,4,none⟩ v4).setCell ⟨b,5,none⟩ v5).setCell ⟨b,6,none⟩ v6).setCell ⟨b,7,none⟩ v7).setCell ⟨b,8,none⟩ v8).setCell ⟨b,9,none⟩ v9).cell? ⟨b,j,none⟩=(#[v0,v1,v2,v3,v4,v5,v6,v7,v8,v9]:Array Value)[j]? :=
 cell_of_row _ _ _ _ _ _ (put10_blk hb v0 v1 v2 v3 v4 v5 v6 v7 v8 v9)
theorem put10_below{B:Nat}{w0 w2:World}{b:Nat}(h:Below B w0 w2)(hb:B≤b)(v0 v1 v2 v3 v4 v5 v6 v7 v8 v9:Value):Below B w0 ((((((((((w2.setCell ⟨b,0,none⟩ v0).setCell ⟨b,1,none⟩ v1).setCell ⟨b,2,none⟩ v2).setCell ⟨b,3,none⟩ v3).setCell ⟨b,4,none⟩ v4).setCell ⟨b,5,none⟩ v5).setCell ⟨b,6,none⟩ v6).setCell ⟨b,7,none⟩ v7).setCell ⟨b,8,none⟩ v8).setCell ⟨b,9,none⟩ v9):=
 (((((((((h.setCell hb _).setCell hb _).setCell hb _).setCell hb _).setCell hb _).setCell hb _).setCell hb _).setCell hb _).setCell hb _).setCell hb _
theorem put10_other{w2:World}{b c:Nat}(hc:c≠b)(v0 v1 v2 v3 v4 v5 v6 v7 v8 v9:Value):((((((((((w2.setCell ⟨b,0,none⟩ v0).setCell ⟨b,1,none⟩ v1).setCell ⟨b,2,none⟩ v2).setCell ⟨b,3,none⟩ v3).setCell ⟨b,4,none⟩ v4).setCell ⟨b,5,none⟩ v5).setCell ⟨b,6,none⟩ v6).setCell ⟨b,7,none⟩ v7).setCell ⟨b,8,none⟩ v8).setCell ⟨b,9,none⟩ v9).heap[c]? =w2.heap[c]? :=by
 have: ¬b=c:=fun e=>hc e.symm
 simp[World.setCell,Array.getElem?_modify,this]
end Vm
namespace Vm
open Go Go.Proofs Go.RowKit
set_option maxHeartbeats 600000
set_option maxRecDepth 100000
def workO(h:Hp)(x:Nat→Value):Obj:= .cells #[.int .u64 h.base,.int .i64 h.cap,.int .i64 h.to,.bool h.cycle,.int .i64 h.scan,x 0,x 1,x 2,x 3,x 4] 100
theorem now_of_own{B:Nat}{w5:World}{h:Hp}{x:Nat→Value}(ho:HOwn B w5 h x)(hB:B≤w5.heap.size):Now B (w5.alloc (workO h x)) w5.heap.size h x:=by
 refine⟨heap_alloc_new w5 _,⟨fun j hj=> ?_,ho.apart⟩,fun j hj c hc=> ?_,hB⟩
 ·exact owns_block (ho.own j hj) fun c hc=>Below.heap_alloc _ _ _ ((ho.own j hj).lt c hc).2
 ·have:=((ho.own j hj).lt c hc).2
  omega
theorem drew_heap'(W:World):W.drew.heap=W.heap:=rfl
theorem put10_otherD{w2:World}{b c:Nat}(hc:c≠b)(v0 v1 v2 v3 v4 v5 v6 v7 v8 v9:Value):((((((((((w2.setCell ⟨b,0,none⟩ v0).setCell ⟨b,1,none⟩ v1).setCell ⟨b,2,none⟩ v2).setCell ⟨b,3,none⟩ v3).setCell ⟨b,4,none⟩ v4).setCell ⟨b,5,none⟩ v5).setCell ⟨b,6,none⟩ v6).setCell ⟨b,7,none⟩ v7).setCell ⟨b,8,none⟩ v8).setCell ⟨b,9,none⟩ v9).drew.heap[c]? =w2.heap[c]? :=by
 rw[drew_heap']
 exact put10_other hc v0 v1 v2 v3 v4 v5 v6 v7 v8 v9
theorem own_addr{w:World}{B n q:Nat}{e:TypeId}{z:Nat}{a:Option Addr}{v:Value}{xs:List Value}(h:w.ownsRow B e z v n xs)(hv:v= .slice a n q)(hn:0<n): ∃g,a=some ⟨g,0,none⟩:=by
 subst hv
 rcases h.2 with ⟨_,h0⟩ | ⟨g,cap,cur,hc,_⟩
 ·omega
 ·cases hc;exact⟨g,rfl⟩
theorem own_cap{w:World}{B n q:Nat}{e:TypeId}{z:Nat}{a:Option Addr}{xs:List Value}(h:w.ownsRow B e z (.slice a n q) n xs)(hn:0<n):n≤q∧q≤maxLen:=by
 rcases h.2 with ⟨_,h0⟩ | ⟨g,cap,cur,hc,_,_,h1,h2,_⟩
 ·omega
 ·cases hc;exact⟨h1,h2⟩
theorem own_cell{w:World}{B g cap:Nat}{l:List Int}(h:w.ownsRow B 24 1 (.slice (some ⟨g,0,none⟩) l.length cap) l.length (nums .u64 l)){i:Nat}{v:Int}(hi:l[i]? =some v):w.cell? ⟨g,i,none⟩=some (.int .u64 v):=by
 obtain⟨hl,hv⟩:=List.getElem?_eq_some_iff.1 hi
 rw[h.cellAt i (by omega)]
 simp[nums,hi]
structure FwSt (w W:World) (rb lb kb b B:Nat) (part at_:Int) (h:Hp) (x:Nat→Value):Prop where
 res:W.heap[rb]? =some (.cells zeroA 31 (0,0))
 lay:W.heap[lb]? =some (.cells #[Value.int IntKind.u64 (layH h).base,Value.int IntKind.i64 (layH h).cap,Value.int IntKind.i64 (layH h).to,Value.int IntKind.i64 (layH h).low,Value.int IntKind.i64 (layH h).high,Value.int IntKind.i64 (layH h).old,Value.int IntKind.i64 (layH h).far] 62 (0,0))
 plc:W.heap[kb]? =some (.cells #[.int .i64 part,.int .i64 at_] 65 (0,0))
 now:Now B W b h x
 bel:Below w.heap.size w W
 old:w.heap.size≤rb
 rbB:rb<B
 lbB:lb<B
 kbB:kb<B
 sz:B≤W.heap.size
theorem FwSt.below{w W W':World}{rb lb kb b B:Nat}{part at_:Int}{h:Hp}{x:Nat→Value}(s:FwSt w W rb lb kb b B part at_ h x)(hb:Below W.heap.size W W'):FwSt w W' rb lb kb b B part at_ h x:=by
 have hz:=s.sz
 have h1:=s.rbB
 have h2:=s.lbB
 have h3:=s.kbB
 have hs:=hb.size
 have hs0:=s.bel.size
 refine⟨(hb.block _ (by omega)).trans s.res,(hb.block _ (by omega)).trans s.lay,(hb.block _ (by omega)).trans s.plc,⟨(hb.block _ (heap_lt s.now.blk)).trans s.now.blk,⟨fun j hj=> ?_,s.now.own.apart⟩,s.now.far,s.now.new⟩,s.bel.trans (hb.mono hs0),s.old,h1,h2,h3,by omega⟩
 exact owns_block (s.now.own.own j hj) fun c hc=>hb.block _ ((s.now.own.own j hj).lt c hc).2
theorem FwSt.drew{w W:World}{rb lb kb b B:Nat}{part at_:Int}{h:Hp}{x:Nat→Value}(s:FwSt w W rb lb kb b B part at_ h x):FwSt w W.drew rb lb kb b B part at_ h x:=
 ⟨s.res,s.lay,s.plc,⟨s.now.blk,⟨fun j hj=>owns_block (s.now.own.own j hj) fun c hc=>rfl,s.now.own.apart⟩,s.now.far,s.now.new⟩,s.bel.drew,s.old,s.rbB,s.lbB,s.kbB,s.sz⟩
theorem Forward_here1(w:World)(G:Nat→Prop)(hG: ∀b,G b→b<w.heap.size)(h:Hp)(hh:h.ok)(src:Nat→Value)(hs: ∀j,j<5→Rd w G (.sl ((lsH h j).map vu)) (src j))(v:Int)(hv:U64 v)
  (hr:rightL (layH h)=true) (hv0: ¬v=0) (h1:(adr v).2=0) (part:Int) (at_:Nat) (hf:findL (layH h) (adr v).1=(part,(at_:Int),0)) (hp:part=1):
  Calls Try.prog 20 #[hpA h src,.int .u64 v] w (FwdPost w (fwd h v)):=by
 have HS:=Lib.hid hs
 have HH:=Lib.hid hh
 clear hs hh
 unfold hpA
 go_enter Try.func20,Try.ntmps20
 subst hp
 go_wp2_with (first
  | (go_at_call 54;go_loud (refine(Layout_calls (h:=h) (x:=src) (G:=G) (fun c hc=>by have:=hG c hc;simp;omega) (fun j hj=>(HS.out j hj).keep (fun b hb=>by have:=hG b hb;rw[Below.heap_alloc _ _ _ (by simp;omega),Below.heap_alloc _ _ _ (by omega)]) (fun _ h=>h))).mono ?_;rintro e w1 ⟨rfl,hb1⟩;unfold lyA;have z1:=(hb1.block (w.heap.size+1) (by simp)).trans (zero_new w _);have p1:=(hb1.block w.heap.size (by simp;omega)).trans ((Below.heap_alloc (w.alloc (.cells #[Value.int IntKind.u64 h.base,Value.int IntKind.i64 h.cap,Value.int IntKind.i64 h.to,Value.bool h.cycle,Value.int IntKind.i64 h.scan,src 0,src 1,src 2,src 3,src 4] 31)) _ w.heap.size (by simp)).trans (heap_alloc_new w _));have hs1:=hb1.size;simp at hs1;have HB1:=Lib.hid hb1;clear hb1))
  | (go_at_call 55;go_loud (refine(rightL_calls HH.out.lay _).mono ?_;rintro e w2 ⟨rfl,hb2⟩;rw[hr];have z2:=(hb2.block (w.heap.size+1) (by simp;omega)).trans ((Below.heap_alloc w1 _ (w.heap.size+1) (by omega)).trans z1);have p2:=(hb2.block w.heap.size (by simp;omega)).trans ((Below.heap_alloc w1 _ w.heap.size (by omega)).trans p1);have x2: ∀j,w2.cell? ⟨w.heap.size,j,none⟩=(#[Value.int IntKind.u64 h.base,Value.int IntKind.i64 h.cap,Value.int IntKind.i64 h.to,Value.bool h.cycle,Value.int IntKind.i64 h.scan,src 0,src 1,src 2,src 3,src 4]:Array Value)[j]? :=fun j=>cell_of_row _ _ _ _ _ _ p2;have hb02:Below w.heap.size w w2:=((((((Below.refl _ _).alloc (Nat.le_refl _) _).alloc (by simp) _).trans (HB1.out.mono (by simp;omega))).alloc (by omega) _).trans (hb2.mono (by simp;omega)));have hs2:=hb2.size;simp at hs2;have m2:=(hb2.block w1.heap.size (by simp)).trans (heap_alloc_new w1 _);have HB02:=Lib.hid hb02;clear hb2 hb02))
  | (go_at_call 57;go_loud (refine(adr_calls hv _).mono ?_;rintro e w3 ⟨rfl,hb3⟩;have z3:=(hb3.block (w.heap.size+1) (by omega)).trans z2;have p3:=(hb3.block w.heap.size (by omega)).trans p2;have m3:=(hb3.block w1.heap.size (by omega)).trans m2;have l3: ∀j,w3.cell? ⟨w1.heap.size,j,none⟩=(#[Value.int IntKind.u64 (layH h).base,Value.int IntKind.i64 (layH h).cap,Value.int IntKind.i64 (layH h).to,Value.int IntKind.i64 (layH h).low,Value.int IntKind.i64 (layH h).high,Value.int IntKind.i64 (layH h).old,Value.int IntKind.i64 (layH h).far]:Array Value)[j]? :=fun j=>cell_of_row _ _ _ _ _ _ m3;have hs3:=hb3.size;have HB3:=Lib.hid hb3;clear hb3))
  | (go_at_call 58;go_loud (refine(findL_calls HH.out.lay (adr_u hv) _).mono ?_;rintro e w4 ⟨rfl,hb4⟩;rw[hf];dsimp only;have hs4:=hb4.size;have z4: ∀o,(w4.alloc o).heap[w.heap.size+1]? =some (.cells zeroA 31 (0,0)):=fun o=>(Below.heap_alloc w4 o (w.heap.size+1) (by omega)).trans ((hb4.block (w.heap.size+1) (by omega)).trans z3);have p4: ∀o,(w4.alloc o).heap[w.heap.size]? =some (.cells #[Value.int IntKind.u64 h.base,Value.int IntKind.i64 h.cap,Value.int IntKind.i64 h.to,Value.bool h.cycle,Value.int IntKind.i64 h.scan,src 0,src 1,src 2,src 3,src 4] 31 (0,0)):=fun o=>(Below.heap_alloc w4 o w.heap.size (by omega)).trans ((hb4.block w.heap.size (by omega)).trans p3);have x4: ∀o j,(w4.alloc o).cell? ⟨w.heap.size,j,none⟩=(#[Value.int IntKind.u64 h.base,Value.int IntKind.i64 h.cap,Value.int IntKind.i64 h.to,Value.bool h.cycle,Value.int IntKind.i64 h.scan,src 0,src 1,src 2,src 3,src 4]:Array Value)[j]? :=fun o j=>cell_of_row _ _ _ _ _ _ (p4 o);have hb04: ∀o,Below w.heap.size w (w4.alloc o):=fun o=>((HB02.out.trans (HB3.out.mono (by omega))).trans (hb4.mono (by omega))).alloc (by omega) o;have m4: ∀o,(w4.alloc o).heap[w1.heap.size]? =some (.cells #[Value.int IntKind.u64 (layH h).base,Value.int IntKind.i64 (layH h).cap,Value.int IntKind.i64 (layH h).to,Value.int IntKind.i64 (layH h).low,Value.int IntKind.i64 (layH h).high,Value.int IntKind.i64 (layH h).old,Value.int IntKind.i64 (layH h).far] 62 (0,0)):=fun o=>(Below.heap_alloc w4 o w1.heap.size (by omega)).trans ((hb4.block w1.heap.size (by omega)).trans m3);have k4:=heap_alloc_new w4 (.cells #[.int .i64 1,.int .i64 (at_:Nat)] 65);have HB04:=Lib.hid hb04;clear hb4 hb04 z3 p3 m3 l3 z2 p2 x2 m2))
  | (go_at_call 56;go_loud (refine(Own_walk _ G (fun b hb=>by have:=hG b hb;simp;omega) h HH.out src (fun j hj=>(HS.out j hj).keep (fun b hb=>(HB04.out _).block b (hG b hb)) (fun _ h=>h))).mono ?_;rintro e w5 ⟨x,rfl,hb5,ho5⟩;obtain⟨a0,q0,e0⟩:=own_form (ho5.own 0 (by omega));obtain⟨a1,q1,e1⟩:=own_form (ho5.own 1 (by omega));obtain⟨a2,q2,e2⟩:=own_form (ho5.own 2 (by omega));obtain⟨a3,q3,e3⟩:=own_form (ho5.own 3 (by omega));obtain⟨a4,q4,e4⟩:=own_form (ho5.own 4 (by omega));unfold hpA;rw[e0,e1,e2,e3,e4];have hs5:=hb5.size;simp at hs5;have hsz4: ∀o,(w4.alloc o).heap.size=w4.heap.size+1:=fun o=>(by simp);rw[hsz4]at ho5;have hN:=now_of_own ho5 (by omega);unfold workO at hN;rw[e0,e1,e2,e3,e4]at hN;have hb05: ∀o,Below w.heap.size w (w5.alloc o):=fun o=>((HB04.out _).trans (hb5.mono (by simp;omega))).alloc (by omega) o;have z6: ∀o,(w5.alloc o).heap[w.heap.size+1]? =some (.cells zeroA 31 (0,0)):=fun o=>(Below.heap_alloc w5 o (w.heap.size+1) (by omega)).trans ((hb5.block (w.heap.size+1) (by simp;omega)).trans (z4 _));have k6: ∀o,(w5.alloc o).heap[w4.heap.size]? =some (.cells #[.int .i64 1,.int .i64 (at_:Nat)] 65 (0,0)):=fun o=>(Below.heap_alloc w5 o w4.heap.size (by omega)).trans ((hb5.block w4.heap.size (by simp)).trans k4);have m6: ∀o,(w5.alloc o).heap[w1.heap.size]? =some (.cells #[Value.int IntKind.u64 (layH h).base,Value.int IntKind.i64 (layH h).cap,Value.int IntKind.i64 (layH h).to,Value.int IntKind.i64 (layH h).low,Value.int IntKind.i64 (layH h).high,Value.int IntKind.i64 (layH h).old,Value.int IntKind.i64 (layH h).far] 62 (0,0)):=fun o=>(Below.heap_alloc w5 o w1.heap.size (by omega)).trans ((hb5.block w1.heap.size (by simp;omega)).trans (m4 _));have k6c: ∀o j,(w5.alloc o).cell? ⟨w4.heap.size,j,none⟩=(#[.int .i64 1,.int .i64 (at_:Nat)]:Array Value)[j]? :=fun o j=>cell_of_row _ _ _ _ _ _ (k6 o);have m6c: ∀o j,(w5.alloc o).cell? ⟨w1.heap.size,j,none⟩=(#[Value.int IntKind.u64 (layH h).base,Value.int IntKind.i64 (layH h).cap,Value.int IntKind.i64 (layH h).to,Value.int IntKind.i64 (layH h).low,Value.int IntKind.i64 (layH h).high,Value.int IntKind.i64 (layH h).old,Value.int IntKind.i64 (layH h).far]:Array Value)[j]? :=fun o j=>cell_of_row _ _ _ _ _ _ (m6 o);have nb:=hN.blk;rw[e0,e1,e2,e3,e4]at nb;have n6c: ∀j,(w5.alloc (.cells #[Value.int IntKind.u64 h.base,Value.int IntKind.i64 h.cap,Value.int IntKind.i64 h.to,Value.bool h.cycle,Value.int IntKind.i64 h.scan,Value.slice a0 (lsH h 0).length q0,Value.slice a1 (lsH h 1).length q1,Value.slice a2 (lsH h 2).length q2,Value.slice a3 (lsH h 3).length q3,Value.slice a4 (lsH h 4).length q4] 100)).cell? ⟨w5.heap.size,j,none⟩=(#[Value.int IntKind.u64 h.base,Value.int IntKind.i64 h.cap,Value.int IntKind.i64 h.to,Value.bool h.cycle,Value.int IntKind.i64 h.scan,Value.slice a0 (lsH h 0).length q0,Value.slice a1 (lsH h 1).length q1,Value.slice a2 (lsH h 2).length q2,Value.slice a3 (lsH h 3).length q3,Value.slice a4 (lsH h 4).length q4]:Array Value)[j]? :=fun j=>cell_of_row _ _ _ _ _ _ nb;have y6: ∀o j,(w5.alloc o).cell? ⟨w.heap.size+1,j,none⟩=zeroA[j]? :=fun o j=>cell_of_row _ _ _ _ _ _ (z6 o);have f6: ∀o j,(w5.alloc o).frozen? ⟨w.heap.size+1,j,none⟩=false:=fun o j=>frz_of (z6 o);unfold zeroA at y6;have st6:FwSt w (w5.alloc (.cells #[Value.int IntKind.u64 h.base,Value.int IntKind.i64 h.cap,Value.int IntKind.i64 h.to,Value.bool h.cycle,Value.int IntKind.i64 h.scan,Value.slice a0 (lsH h 0).length q0,Value.slice a1 (lsH h 1).length q1,Value.slice a2 (lsH h 2).length q2,Value.slice a3 (lsH h 3).length q3,Value.slice a4 (lsH h 4).length q4] 100)) (w.heap.size+1) w1.heap.size w4.heap.size w5.heap.size (w4.heap.size+1) 1 (at_:Nat) h x:=⟨z6 _,m6 _,k6 _,hN,hb05 _,by omega,by omega,by omega,by omega,by simp;omega⟩;have ST6:=Lib.hid st6;clear st6;have HB05:=Lib.hid hb05;have HN:=Lib.hid hN;have E0:=Lib.hid e0;have E1:=Lib.hid e1;have E2:=Lib.hid e2;have E3:=Lib.hid e3;have E4:=Lib.hid e4;clear hb05 hN nb e0 e1 e2 e3 e4 ho5 hb5 z4 p4 x4 m4 k4)))
 go_region
 all_goals
  go_wp2
  try simp only[Exit.inBlock,Exit.then]
  have y:=put10_cells (z6 (.cells #[Value.int IntKind.u64 h.base,Value.int IntKind.i64 h.cap,Value.int IntKind.i64 h.to,Value.bool h.cycle,Value.int IntKind.i64 h.scan,Value.slice a0 (lsH h 0).length q0,Value.slice a1 (lsH h 1).length q1,Value.slice a2 (lsH h 2).length q2,Value.slice a3 (lsH h 3).length q3,Value.slice a4 (lsH h 4).length q4] 100)) (.int .u64 h.base) (.int .i64 h.cap) (.int .i64 h.to) (.bool h.cycle) (.int .i64 h.scan) (.slice a0 (lsH h 0).length q0) (.slice a1 (lsH h 1).length q1) (.slice a2 (lsH h 2).length q2) (.slice a3 (lsH h 3).length q3) (.slice a4 (lsH h 4).length q4)
  have hfw:fwd h v=(v,h,0):=by simp[fwd,hr,hv0,h1,hf]
  rw[hfw]
  refine bodyPost_ret (v:= .tuple #[.int .u64 v,hpA h x,.int .i64 0]) ?_ rfl ?_
  ·unfold hpA;rw[E0.out,E1.out,E2.out,E3.out,E4.out];simp[results,Try.results20,go_sem,y]
  ·refine⟨x,rfl,?_,?_⟩
   ·exact(put10_below (HB05.out _) (by omega) _ _ _ _ _ _ _ _ _ _).drew
   ·intro j hj
    have ho:=HN.out.own.own j hj
    refine own_rd (owns_block ho ?_) ?_
    ·intro c hc
     have hc1:=(ho.lt c hc).1
     exact put10_otherD (by omega) _ _ _ _ _ _ _ _ _ _
    ·intro c h1 h2
     exact⟨by omega,h2⟩
theorem Forward_here2(w:World)(G:Nat→Prop)(hG: ∀b,G b→b<w.heap.size)(h:Hp)(hh:h.ok)(src:Nat→Value)(hs: ∀j,j<5→Rd w G (.sl ((lsH h j).map vu)) (src j))(v:Int)(hv:U64 v)
  (hr:rightL (layH h)=true) (hv0: ¬v=0) (h1:(adr v).2=0) (part:Int) (at_:Nat) (hf:findL (layH h) (adr v).1=(part,(at_:Int),0)) (hp:part=2):
  Calls Try.prog 20 #[hpA h src,.int .u64 v] w (FwdPost w (fwd h v)):=by
 have HS:=Lib.hid hs
 have HH:=Lib.hid hh
 clear hs hh
 unfold hpA
 go_enter Try.func20,Try.ntmps20
 subst hp
 go_wp2_with (first
  | (go_at_call 54;go_loud (refine(Layout_calls (h:=h) (x:=src) (G:=G) (fun c hc=>by have:=hG c hc;simp;omega) (fun j hj=>(HS.out j hj).keep (fun b hb=>by have:=hG b hb;rw[Below.heap_alloc _ _ _ (by simp;omega),Below.heap_alloc _ _ _ (by omega)]) (fun _ h=>h))).mono ?_;rintro e w1 ⟨rfl,hb1⟩;unfold lyA;have z1:=(hb1.block (w.heap.size+1) (by simp)).trans (zero_new w _);have p1:=(hb1.block w.heap.size (by simp;omega)).trans ((Below.heap_alloc (w.alloc (.cells #[Value.int IntKind.u64 h.base,Value.int IntKind.i64 h.cap,Value.int IntKind.i64 h.to,Value.bool h.cycle,Value.int IntKind.i64 h.scan,src 0,src 1,src 2,src 3,src 4] 31)) _ w.heap.size (by simp)).trans (heap_alloc_new w _));have hs1:=hb1.size;simp at hs1;have HB1:=Lib.hid hb1;clear hb1))
  | (go_at_call 55;go_loud (refine(rightL_calls HH.out.lay _).mono ?_;rintro e w2 ⟨rfl,hb2⟩;rw[hr];have z2:=(hb2.block (w.heap.size+1) (by simp;omega)).trans ((Below.heap_alloc w1 _ (w.heap.size+1) (by omega)).trans z1);have p2:=(hb2.block w.heap.size (by simp;omega)).trans ((Below.heap_alloc w1 _ w.heap.size (by omega)).trans p1);have x2: ∀j,w2.cell? ⟨w.heap.size,j,none⟩=(#[Value.int IntKind.u64 h.base,Value.int IntKind.i64 h.cap,Value.int IntKind.i64 h.to,Value.bool h.cycle,Value.int IntKind.i64 h.scan,src 0,src 1,src 2,src 3,src 4]:Array Value)[j]? :=fun j=>cell_of_row _ _ _ _ _ _ p2;have hb02:Below w.heap.size w w2:=((((((Below.refl _ _).alloc (Nat.le_refl _) _).alloc (by simp) _).trans (HB1.out.mono (by simp;omega))).alloc (by omega) _).trans (hb2.mono (by simp;omega)));have hs2:=hb2.size;simp at hs2;have m2:=(hb2.block w1.heap.size (by simp)).trans (heap_alloc_new w1 _);have HB02:=Lib.hid hb02;clear hb2 hb02))
  | (go_at_call 57;go_loud (refine(adr_calls hv _).mono ?_;rintro e w3 ⟨rfl,hb3⟩;have z3:=(hb3.block (w.heap.size+1) (by omega)).trans z2;have p3:=(hb3.block w.heap.size (by omega)).trans p2;have m3:=(hb3.block w1.heap.size (by omega)).trans m2;have l3: ∀j,w3.cell? ⟨w1.heap.size,j,none⟩=(#[Value.int IntKind.u64 (layH h).base,Value.int IntKind.i64 (layH h).cap,Value.int IntKind.i64 (layH h).to,Value.int IntKind.i64 (layH h).low,Value.int IntKind.i64 (layH h).high,Value.int IntKind.i64 (layH h).old,Value.int IntKind.i64 (layH h).far]:Array Value)[j]? :=fun j=>cell_of_row _ _ _ _ _ _ m3;have hs3:=hb3.size;have HB3:=Lib.hid hb3;clear hb3))
  | (go_at_call 58;go_loud (refine(findL_calls HH.out.lay (adr_u hv) _).mono ?_;rintro e w4 ⟨rfl,hb4⟩;rw[hf];dsimp only;have hs4:=hb4.size;have z4: ∀o,(w4.alloc o).heap[w.heap.size+1]? =some (.cells zeroA 31 (0,0)):=fun o=>(Below.heap_alloc w4 o (w.heap.size+1) (by omega)).trans ((hb4.block (w.heap.size+1) (by omega)).trans z3);have p4: ∀o,(w4.alloc o).heap[w.heap.size]? =some (.cells #[Value.int IntKind.u64 h.base,Value.int IntKind.i64 h.cap,Value.int IntKind.i64 h.to,Value.bool h.cycle,Value.int IntKind.i64 h.scan,src 0,src 1,src 2,src 3,src 4] 31 (0,0)):=fun o=>(Below.heap_alloc w4 o w.heap.size (by omega)).trans ((hb4.block w.heap.size (by omega)).trans p3);have x4: ∀o j,(w4.alloc o).cell? ⟨w.heap.size,j,none⟩=(#[Value.int IntKind.u64 h.base,Value.int IntKind.i64 h.cap,Value.int IntKind.i64 h.to,Value.bool h.cycle,Value.int IntKind.i64 h.scan,src 0,src 1,src 2,src 3,src 4]:Array Value)[j]? :=fun o j=>cell_of_row _ _ _ _ _ _ (p4 o);have hb04: ∀o,Below w.heap.size w (w4.alloc o):=fun o=>((HB02.out.trans (HB3.out.mono (by omega))).trans (hb4.mono (by omega))).alloc (by omega) o;have m4: ∀o,(w4.alloc o).heap[w1.heap.size]? =some (.cells #[Value.int IntKind.u64 (layH h).base,Value.int IntKind.i64 (layH h).cap,Value.int IntKind.i64 (layH h).to,Value.int IntKind.i64 (layH h).low,Value.int IntKind.i64 (layH h).high,Value.int IntKind.i64 (layH h).old,Value.int IntKind.i64 (layH h).far] 62 (0,0)):=fun o=>(Below.heap_alloc w4 o w1.heap.size (by omega)).trans ((hb4.block w1.heap.size (by omega)).trans m3);have k4:=heap_alloc_new w4 (.cells #[.int .i64 2,.int .i64 (at_:Nat)] 65);have HB04:=Lib.hid hb04;clear hb4 hb04 z3 p3 m3 l3 z2 p2 x2 m2))
  | (go_at_call 56;go_loud (refine(Own_walk _ G (fun b hb=>by have:=hG b hb;simp;omega) h HH.out src (fun j hj=>(HS.out j hj).keep (fun b hb=>(HB04.out _).block b (hG b hb)) (fun _ h=>h))).mono ?_;rintro e w5 ⟨x,rfl,hb5,ho5⟩;obtain⟨a0,q0,e0⟩:=own_form (ho5.own 0 (by omega));obtain⟨a1,q1,e1⟩:=own_form (ho5.own 1 (by omega));obtain⟨a2,q2,e2⟩:=own_form (ho5.own 2 (by omega));obtain⟨a3,q3,e3⟩:=own_form (ho5.own 3 (by omega));obtain⟨a4,q4,e4⟩:=own_form (ho5.own 4 (by omega));unfold hpA;rw[e0,e1,e2,e3,e4];have hs5:=hb5.size;simp at hs5;have hsz4: ∀o,(w4.alloc o).heap.size=w4.heap.size+1:=fun o=>(by simp);rw[hsz4]at ho5;have hN:=now_of_own ho5 (by omega);unfold workO at hN;rw[e0,e1,e2,e3,e4]at hN;have hb05: ∀o,Below w.heap.size w (w5.alloc o):=fun o=>((HB04.out _).trans (hb5.mono (by simp;omega))).alloc (by omega) o;have z6: ∀o,(w5.alloc o).heap[w.heap.size+1]? =some (.cells zeroA 31 (0,0)):=fun o=>(Below.heap_alloc w5 o (w.heap.size+1) (by omega)).trans ((hb5.block (w.heap.size+1) (by simp;omega)).trans (z4 _));have k6: ∀o,(w5.alloc o).heap[w4.heap.size]? =some (.cells #[.int .i64 2,.int .i64 (at_:Nat)] 65 (0,0)):=fun o=>(Below.heap_alloc w5 o w4.heap.size (by omega)).trans ((hb5.block w4.heap.size (by simp)).trans k4);have m6: ∀o,(w5.alloc o).heap[w1.heap.size]? =some (.cells #[Value.int IntKind.u64 (layH h).base,Value.int IntKind.i64 (layH h).cap,Value.int IntKind.i64 (layH h).to,Value.int IntKind.i64 (layH h).low,Value.int IntKind.i64 (layH h).high,Value.int IntKind.i64 (layH h).old,Value.int IntKind.i64 (layH h).far] 62 (0,0)):=fun o=>(Below.heap_alloc w5 o w1.heap.size (by omega)).trans ((hb5.block w1.heap.size (by simp;omega)).trans (m4 _));have k6c: ∀o j,(w5.alloc o).cell? ⟨w4.heap.size,j,none⟩=(#[.int .i64 2,.int .i64 (at_:Nat)]:Array Value)[j]? :=fun o j=>cell_of_row _ _ _ _ _ _ (k6 o);have m6c: ∀o j,(w5.alloc o).cell? ⟨w1.heap.size,j,none⟩=(#[Value.int IntKind.u64 (layH h).base,Value.int IntKind.i64 (layH h).cap,Value.int IntKind.i64 (layH h).to,Value.int IntKind.i64 (layH h).low,Value.int IntKind.i64 (layH h).high,Value.int IntKind.i64 (layH h).old,Value.int IntKind.i64 (layH h).far]:Array Value)[j]? :=fun o j=>cell_of_row _ _ _ _ _ _ (m6 o);have nb:=hN.blk;rw[e0,e1,e2,e3,e4]at nb;have n6c: ∀j,(w5.alloc (.cells #[Value.int IntKind.u64 h.base,Value.int IntKind.i64 h.cap,Value.int IntKind.i64 h.to,Value.bool h.cycle,Value.int IntKind.i64 h.scan,Value.slice a0 (lsH h 0).length q0,Value.slice a1 (lsH h 1).length q1,Value.slice a2 (lsH h 2).length q2,Value.slice a3 (lsH h 3).length q3,Value.slice a4 (lsH h 4).length q4] 100)).cell? ⟨w5.heap.size,j,none⟩=(#[Value.int IntKind.u64 h.base,Value.int IntKind.i64 h.cap,Value.int IntKind.i64 h.to,Value.bool h.cycle,Value.int IntKind.i64 h.scan,Value.slice a0 (lsH h 0).length q0,Value.slice a1 (lsH h 1).length q1,Value.slice a2 (lsH h 2).length q2,Value.slice a3 (lsH h 3).length q3,Value.slice a4 (lsH h 4).length q4]:Array Value)[j]? :=fun j=>cell_of_row _ _ _ _ _ _ nb;have y6: ∀o j,(w5.alloc o).cell? ⟨w.heap.size+1,j,none⟩=zeroA[j]? :=fun o j=>cell_of_row _ _ _ _ _ _ (z6 o);have f6: ∀o j,(w5.alloc o).frozen? ⟨w.heap.size+1,j,none⟩=false:=fun o j=>frz_of (z6 o);unfold zeroA at y6;have st6:FwSt w (w5.alloc (.cells #[Value.int IntKind.u64 h.base,Value.int IntKind.i64 h.cap,Value.int IntKind.i64 h.to,Value.bool h.cycle,Value.int IntKind.i64 h.scan,Value.slice a0 (lsH h 0).length q0,Value.slice a1 (lsH h 1).length q1,Value.slice a2 (lsH h 2).length q2,Value.slice a3 (lsH h 3).length q3,Value.slice a4 (lsH h 4).length q4] 100)) (w.heap.size+1) w1.heap.size w4.heap.size w5.heap.size (w4.heap.size+1) 2 (at_:Nat) h x:=⟨z6 _,m6 _,k6 _,hN,hb05 _,by omega,by omega,by omega,by omega,by simp;omega⟩;have ST6:=Lib.hid st6;clear st6;have HB05:=Lib.hid hb05;have HN:=Lib.hid hN;have E0:=Lib.hid e0;have E1:=Lib.hid e1;have E2:=Lib.hid e2;have E3:=Lib.hid e3;have E4:=Lib.hid e4;clear hb05 hN nb e0 e1 e2 e3 e4 ho5 hb5 z4 p4 x4 m4 k4)))
 go_region
 all_goals
  go_wp2
  try simp only[Exit.inBlock,Exit.then]
  have y:=put10_cells (z6 (.cells #[Value.int IntKind.u64 h.base,Value.int IntKind.i64 h.cap,Value.int IntKind.i64 h.to,Value.bool h.cycle,Value.int IntKind.i64 h.scan,Value.slice a0 (lsH h 0).length q0,Value.slice a1 (lsH h 1).length q1,Value.slice a2 (lsH h 2).length q2,Value.slice a3 (lsH h 3).length q3,Value.slice a4 (lsH h 4).length q4] 100)) (.int .u64 h.base) (.int .i64 h.cap) (.int .i64 h.to) (.bool h.cycle) (.int .i64 h.scan) (.slice a0 (lsH h 0).length q0) (.slice a1 (lsH h 1).length q1) (.slice a2 (lsH h 2).length q2) (.slice a3 (lsH h 3).length q3) (.slice a4 (lsH h 4).length q4)
  have hfw:fwd h v=(v,h,0):=by simp[fwd,hr,hv0,h1,hf]
  rw[hfw]
  refine bodyPost_ret (v:= .tuple #[.int .u64 v,hpA h x,.int .i64 0]) ?_ rfl ?_
  ·unfold hpA;rw[E0.out,E1.out,E2.out,E3.out,E4.out];simp[results,Try.results20,go_sem,y]
  ·refine⟨x,rfl,?_,?_⟩
   ·exact(put10_below (HB05.out _) (by omega) _ _ _ _ _ _ _ _ _ _).drew
   ·intro j hj
    have ho:=HN.out.own.own j hj
    refine own_rd (owns_block ho ?_) ?_
    ·intro c hc
     have hc1:=(ho.lt c hc).1
     exact put10_otherD (by omega) _ _ _ _ _ _ _ _ _ _
    ·intro c h1 h2
     exact⟨by omega,h2⟩
theorem Forward_gone3(w:World)(G:Nat→Prop)(hG: ∀b,G b→b<w.heap.size)(h:Hp)(hh:h.ok)(src:Nat→Value)(hs: ∀j,j<5→Rd w G (.sl ((lsH h j).map vu)) (src j))(v:Int)(hv:U64 v)
  (hr:rightL (layH h)=true) (hv0: ¬v=0) (h1:(adr v).2=0) (part:Int) (at_:Nat) (hf:findL (layH h) (adr v).1=(part,(at_:Int),0)) (hp:part=3)
  (wd:Int) (hwd:(lsH h 2)[at_]? =some wd) (hat:at_< (lsH h 2).length) (hwu:U64 wd) (hgo:(adr wd).2=0):
  Calls Try.prog 20 #[hpA h src,.int .u64 v] w (FwdPost w (fwd h v)):=by
 have HS:=Lib.hid hs
 have HH:=Lib.hid hh
 clear hs hh
 unfold hpA
 go_enter Try.func20,Try.ntmps20
 subst hp
 go_wp2_with (first
  | (go_at_call 59;go_loud (refine(from_walk _ (w4.heap.size+1) w5.heap.size h x ST6.out.now HH.out 2 at_ (by omega) g q2 EP.out (by omega)).mono ?_;rintro e w7 ⟨rfl,hb7⟩;obtain⟨m,hm⟩: ∃m,(lsH h 2).length-at_=m:=⟨_,rfl⟩;obtain⟨qm,hqm⟩: ∃qm,q2-at_=qm:=⟨_,rfl⟩;rw[hm,hqm];have hm0:0<m:=(by omega);have hm0i:(0:Int) < (m:Int):=(by omega);have hat2:at_+0=at_:=rfl;have st7:=ST6.out.below hb7;have hs7:=hb7.size;simp at hs7;have res7:=st7.res;have y7: ∀j,(w7).cell? ⟨w.heap.size+1,j,none⟩=zeroA[j]? :=fun j=>cell_of_row _ _ _ _ _ _ res7;unfold zeroA at y7;have f7: ∀j,(w7).frozen? ⟨w.heap.size+1,j,none⟩=false:=fun j=>frz_of res7;have nb7:=st7.now.blk;rw[E0.out,E1.out,E2.out,E3.out,E4.out]at nb7;have n7c: ∀j,(w7).cell? ⟨w5.heap.size,j,none⟩=(#[Value.int IntKind.u64 h.base,Value.int IntKind.i64 h.cap,Value.int IntKind.i64 h.to,Value.bool h.cycle,Value.int IntKind.i64 h.scan,Value.slice a0 (lsH h 0).length q0,Value.slice a1 (lsH h 1).length q1,Value.slice (some ⟨g,0,none⟩) (lsH h 2).length q2,Value.slice a3 (lsH h 3).length q3,Value.slice a4 (lsH h 4).length q4]:Array Value)[j]? :=fun j=>cell_of_row _ _ _ _ _ _ nb7;have k7c: ∀j,(w7).cell? ⟨w4.heap.size,j,none⟩=(#[.int .i64 3,.int .i64 (at_:Nat)]:Array Value)[j]? :=fun j=>cell_of_row _ _ _ _ _ _ st7.plc;have m7c: ∀j,(w7).cell? ⟨w1.heap.size,j,none⟩=(#[Value.int IntKind.u64 (layH h).base,Value.int IntKind.i64 (layH h).cap,Value.int IntKind.i64 (layH h).to,Value.int IntKind.i64 (layH h).low,Value.int IntKind.i64 (layH h).high,Value.int IntKind.i64 (layH h).old,Value.int IntKind.i64 (layH h).far]:Array Value)[j]? :=fun j=>cell_of_row _ _ _ _ _ _ st7.lay;have hop7:=st7.now.own.own 2 (by omega);rw[EP.out]at hop7;have c7:=own_cell hop7 hwd;clear nb7 hop7;have ST7:=Lib.hid st7;clear hb7 st7))
  | (go_at_call 57;go_loud (have st7:=ST7.out;refine(adr_calls hwu _).mono ?_;rintro e w8 ⟨rfl,hb8⟩;have st8:=st7.below hb8;have hs8:=hb8.size;have res8:=st8.res;have y8: ∀j,(w8).cell? ⟨w.heap.size+1,j,none⟩=zeroA[j]? :=fun j=>cell_of_row _ _ _ _ _ _ res8;unfold zeroA at y8;have f8: ∀j,(w8).frozen? ⟨w.heap.size+1,j,none⟩=false:=fun j=>frz_of res8;have nb8:=st8.now.blk;rw[E0.out,E1.out,E2.out,E3.out,E4.out]at nb8;have n8c: ∀j,(w8).cell? ⟨w5.heap.size,j,none⟩=(#[Value.int IntKind.u64 h.base,Value.int IntKind.i64 h.cap,Value.int IntKind.i64 h.to,Value.bool h.cycle,Value.int IntKind.i64 h.scan,Value.slice a0 (lsH h 0).length q0,Value.slice a1 (lsH h 1).length q1,Value.slice (some ⟨g,0,none⟩) (lsH h 2).length q2,Value.slice a3 (lsH h 3).length q3,Value.slice a4 (lsH h 4).length q4]:Array Value)[j]? :=fun j=>cell_of_row _ _ _ _ _ _ nb8;have k8c: ∀j,(w8).cell? ⟨w4.heap.size,j,none⟩=(#[.int .i64 3,.int .i64 (at_:Nat)]:Array Value)[j]? :=fun j=>cell_of_row _ _ _ _ _ _ st8.plc;have m8c: ∀j,(w8).cell? ⟨w1.heap.size,j,none⟩=(#[Value.int IntKind.u64 (layH h).base,Value.int IntKind.i64 (layH h).cap,Value.int IntKind.i64 (layH h).to,Value.int IntKind.i64 (layH h).low,Value.int IntKind.i64 (layH h).high,Value.int IntKind.i64 (layH h).old,Value.int IntKind.i64 (layH h).far]:Array Value)[j]? :=fun j=>cell_of_row _ _ _ _ _ _ st8.lay;have hop8:=st8.now.own.own 2 (by omega);rw[EP.out]at hop8;have c8:=own_cell hop8 hwd;clear nb8 hop8;have ST8:=Lib.hid st8;clear hb8 st8 st7))
  | (go_at_call 60;go_loud (refine(unpk_calls hwu _).mono ?_;rintro e w9 ⟨rfl,hb9⟩;rw[hun];dsimp only;have hs9:=hb9.size;have st10:FwSt w (w9.alloc (.cells #[.int .i64 (sz:Nat),.int .i64 pt] 55)) _ _ _ _ _ _ _ h x:=(ST8.out.below hb9).below ((Below.refl _ _).alloc (Nat.le_refl _) _);have res10:=st10.res;have y10: ∀j,((w9.alloc (.cells #[.int .i64 (sz:Nat),.int .i64 pt] 55))).cell? ⟨w.heap.size+1,j,none⟩=zeroA[j]? :=fun j=>cell_of_row _ _ _ _ _ _ res10;unfold zeroA at y10;have f10: ∀j,((w9.alloc (.cells #[.int .i64 (sz:Nat),.int .i64 pt] 55))).frozen? ⟨w.heap.size+1,j,none⟩=false:=fun j=>frz_of res10;have nb10:=st10.now.blk;rw[E0.out,E1.out,E2.out,E3.out,E4.out]at nb10;have n10c: ∀j,((w9.alloc (.cells #[.int .i64 (sz:Nat),.int .i64 pt] 55))).cell? ⟨w5.heap.size,j,none⟩=(#[Value.int IntKind.u64 h.base,Value.int IntKind.i64 h.cap,Value.int IntKind.i64 h.to,Value.bool h.cycle,Value.int IntKind.i64 h.scan,Value.slice a0 (lsH h 0).length q0,Value.slice a1 (lsH h 1).length q1,Value.slice (some ⟨g,0,none⟩) (lsH h 2).length q2,Value.slice a3 (lsH h 3).length q3,Value.slice a4 (lsH h 4).length q4]:Array Value)[j]? :=fun j=>cell_of_row _ _ _ _ _ _ nb10;have k10c: ∀j,((w9.alloc (.cells #[.int .i64 (sz:Nat),.int .i64 pt] 55))).cell? ⟨w4.heap.size,j,none⟩=(#[.int .i64 3,.int .i64 (at_:Nat)]:Array Value)[j]? :=fun j=>cell_of_row _ _ _ _ _ _ st10.plc;have m10c: ∀j,((w9.alloc (.cells #[.int .i64 (sz:Nat),.int .i64 pt] 55))).cell? ⟨w1.heap.size,j,none⟩=(#[Value.int IntKind.u64 (layH h).base,Value.int IntKind.i64 (layH h).cap,Value.int IntKind.i64 (layH h).to,Value.int IntKind.i64 (layH h).low,Value.int IntKind.i64 (layH h).high,Value.int IntKind.i64 (layH h).old,Value.int IntKind.i64 (layH h).far]:Array Value)[j]? :=fun j=>cell_of_row _ _ _ _ _ _ st10.lay;have hop10:=st10.now.own.own 2 (by omega);rw[EP.out]at hop10;have c10:=own_cell hop10 hwd;clear nb10 hop10;have s10c: ∀j,(w9.alloc (.cells #[.int .i64 (sz:Nat),.int .i64 pt] 55)).cell? ⟨w9.heap.size,j,none⟩=(#[.int .i64 (sz:Nat),.int .i64 pt]:Array Value)[j]? :=fun j=>cell_of_row _ _ _ _ _ _ (heap_alloc_new w9 _);have ST10:=Lib.hid st10;have hml:m≤1000000:=(by have:=lsH_len HH.out 2;omega);have hl10:at_+m=(lsH h 2).length:=(by omega);clear hb9 st10))
  | (go_at_call 54;go_loud (refine(Layout_calls (h:=h) (x:=src) (G:=G) (fun c hc=>by have:=hG c hc;simp;omega) (fun j hj=>(HS.out j hj).keep (fun b hb=>by have:=hG b hb;rw[Below.heap_alloc _ _ _ (by simp;omega),Below.heap_alloc _ _ _ (by omega)]) (fun _ h=>h))).mono ?_;rintro e w1 ⟨rfl,hb1⟩;unfold lyA;have z1:=(hb1.block (w.heap.size+1) (by simp)).trans (zero_new w _);have p1:=(hb1.block w.heap.size (by simp;omega)).trans ((Below.heap_alloc (w.alloc (.cells #[Value.int IntKind.u64 h.base,Value.int IntKind.i64 h.cap,Value.int IntKind.i64 h.to,Value.bool h.cycle,Value.int IntKind.i64 h.scan,src 0,src 1,src 2,src 3,src 4] 31)) _ w.heap.size (by simp)).trans (heap_alloc_new w _));have hs1:=hb1.size;simp at hs1;have HB1:=Lib.hid hb1;clear hb1))
  | (go_at_call 55;go_loud (refine(rightL_calls HH.out.lay _).mono ?_;rintro e w2 ⟨rfl,hb2⟩;rw[hr];have z2:=(hb2.block (w.heap.size+1) (by simp;omega)).trans ((Below.heap_alloc w1 _ (w.heap.size+1) (by omega)).trans z1);have p2:=(hb2.block w.heap.size (by simp;omega)).trans ((Below.heap_alloc w1 _ w.heap.size (by omega)).trans p1);have x2: ∀j,w2.cell? ⟨w.heap.size,j,none⟩=(#[Value.int IntKind.u64 h.base,Value.int IntKind.i64 h.cap,Value.int IntKind.i64 h.to,Value.bool h.cycle,Value.int IntKind.i64 h.scan,src 0,src 1,src 2,src 3,src 4]:Array Value)[j]? :=fun j=>cell_of_row _ _ _ _ _ _ p2;have hb02:Below w.heap.size w w2:=((((((Below.refl _ _).alloc (Nat.le_refl _) _).alloc (by simp) _).trans (HB1.out.mono (by simp;omega))).alloc (by omega) _).trans (hb2.mono (by simp;omega)));have hs2:=hb2.size;simp at hs2;have m2:=(hb2.block w1.heap.size (by simp)).trans (heap_alloc_new w1 _);have HB02:=Lib.hid hb02;clear hb2 hb02))
  | (go_at_call 57;go_loud (refine(adr_calls hv _).mono ?_;rintro e w3 ⟨rfl,hb3⟩;have z3:=(hb3.block (w.heap.size+1) (by omega)).trans z2;have p3:=(hb3.block w.heap.size (by omega)).trans p2;have m3:=(hb3.block w1.heap.size (by omega)).trans m2;have l3: ∀j,w3.cell? ⟨w1.heap.size,j,none⟩=(#[Value.int IntKind.u64 (layH h).base,Value.int IntKind.i64 (layH h).cap,Value.int IntKind.i64 (layH h).to,Value.int IntKind.i64 (layH h).low,Value.int IntKind.i64 (layH h).high,Value.int IntKind.i64 (layH h).old,Value.int IntKind.i64 (layH h).far]:Array Value)[j]? :=fun j=>cell_of_row _ _ _ _ _ _ m3;have hs3:=hb3.size;have HB3:=Lib.hid hb3;clear hb3))
  | (go_at_call 58;go_loud (refine(findL_calls HH.out.lay (adr_u hv) _).mono ?_;rintro e w4 ⟨rfl,hb4⟩;rw[hf];dsimp only;have hs4:=hb4.size;have z4: ∀o,(w4.alloc o).heap[w.heap.size+1]? =some (.cells zeroA 31 (0,0)):=fun o=>(Below.heap_alloc w4 o (w.heap.size+1) (by omega)).trans ((hb4.block (w.heap.size+1) (by omega)).trans z3);have p4: ∀o,(w4.alloc o).heap[w.heap.size]? =some (.cells #[Value.int IntKind.u64 h.base,Value.int IntKind.i64 h.cap,Value.int IntKind.i64 h.to,Value.bool h.cycle,Value.int IntKind.i64 h.scan,src 0,src 1,src 2,src 3,src 4] 31 (0,0)):=fun o=>(Below.heap_alloc w4 o w.heap.size (by omega)).trans ((hb4.block w.heap.size (by omega)).trans p3);have x4: ∀o j,(w4.alloc o).cell? ⟨w.heap.size,j,none⟩=(#[Value.int IntKind.u64 h.base,Value.int IntKind.i64 h.cap,Value.int IntKind.i64 h.to,Value.bool h.cycle,Value.int IntKind.i64 h.scan,src 0,src 1,src 2,src 3,src 4]:Array Value)[j]? :=fun o j=>cell_of_row _ _ _ _ _ _ (p4 o);have hb04: ∀o,Below w.heap.size w (w4.alloc o):=fun o=>((HB02.out.trans (HB3.out.mono (by omega))).trans (hb4.mono (by omega))).alloc (by omega) o;have m4: ∀o,(w4.alloc o).heap[w1.heap.size]? =some (.cells #[Value.int IntKind.u64 (layH h).base,Value.int IntKind.i64 (layH h).cap,Value.int IntKind.i64 (layH h).to,Value.int IntKind.i64 (layH h).low,Value.int IntKind.i64 (layH h).high,Value.int IntKind.i64 (layH h).old,Value.int IntKind.i64 (layH h).far] 62 (0,0)):=fun o=>(Below.heap_alloc w4 o w1.heap.size (by omega)).trans ((hb4.block w1.heap.size (by omega)).trans m3);have k4:=heap_alloc_new w4 (.cells #[.int .i64 3,.int .i64 (at_:Nat)] 65);have HB04:=Lib.hid hb04;clear hb4 hb04 z3 p3 m3 l3 z2 p2 x2 m2))
  | (go_at_call 56;go_loud (refine(Own_walk _ G (fun b hb=>by have:=hG b hb;simp;omega) h HH.out src (fun j hj=>(HS.out j hj).keep (fun b hb=>(HB04.out _).block b (hG b hb)) (fun _ h=>h))).mono ?_;rintro e w5 ⟨x,rfl,hb5,ho5⟩;obtain⟨a0,q0,e0⟩:=own_form (ho5.own 0 (by omega));obtain⟨a1,q1,e1⟩:=own_form (ho5.own 1 (by omega));obtain⟨a2,q2,e2⟩:=own_form (ho5.own 2 (by omega));obtain⟨a3,q3,e3⟩:=own_form (ho5.own 3 (by omega));obtain⟨a4,q4,e4⟩:=own_form (ho5.own 4 (by omega));obtain⟨g,hg⟩:=own_addr (ho5.own 2 (by omega)) e2 (by omega);subst hg;unfold hpA;rw[e0,e1,e2,e3,e4];have hs5:=hb5.size;simp at hs5;have hsz4: ∀o,(w4.alloc o).heap.size=w4.heap.size+1:=fun o=>(by simp);rw[hsz4]at ho5;have hN:=now_of_own ho5 (by omega);unfold workO at hN;rw[e0,e1,e2,e3,e4]at hN;have hb05: ∀o,Below w.heap.size w (w5.alloc o):=fun o=>((HB04.out _).trans (hb5.mono (by simp;omega))).alloc (by omega) o;have z6: ∀o,(w5.alloc o).heap[w.heap.size+1]? =some (.cells zeroA 31 (0,0)):=fun o=>(Below.heap_alloc w5 o (w.heap.size+1) (by omega)).trans ((hb5.block (w.heap.size+1) (by simp;omega)).trans (z4 _));have k6: ∀o,(w5.alloc o).heap[w4.heap.size]? =some (.cells #[.int .i64 3,.int .i64 (at_:Nat)] 65 (0,0)):=fun o=>(Below.heap_alloc w5 o w4.heap.size (by omega)).trans ((hb5.block w4.heap.size (by simp)).trans k4);have m6: ∀o,(w5.alloc o).heap[w1.heap.size]? =some (.cells #[Value.int IntKind.u64 (layH h).base,Value.int IntKind.i64 (layH h).cap,Value.int IntKind.i64 (layH h).to,Value.int IntKind.i64 (layH h).low,Value.int IntKind.i64 (layH h).high,Value.int IntKind.i64 (layH h).old,Value.int IntKind.i64 (layH h).far] 62 (0,0)):=fun o=>(Below.heap_alloc w5 o w1.heap.size (by omega)).trans ((hb5.block w1.heap.size (by simp;omega)).trans (m4 _));have k6c: ∀o j,(w5.alloc o).cell? ⟨w4.heap.size,j,none⟩=(#[.int .i64 3,.int .i64 (at_:Nat)]:Array Value)[j]? :=fun o j=>cell_of_row _ _ _ _ _ _ (k6 o);have m6c: ∀o j,(w5.alloc o).cell? ⟨w1.heap.size,j,none⟩=(#[Value.int IntKind.u64 (layH h).base,Value.int IntKind.i64 (layH h).cap,Value.int IntKind.i64 (layH h).to,Value.int IntKind.i64 (layH h).low,Value.int IntKind.i64 (layH h).high,Value.int IntKind.i64 (layH h).old,Value.int IntKind.i64 (layH h).far]:Array Value)[j]? :=fun o j=>cell_of_row _ _ _ _ _ _ (m6 o);have nb:=hN.blk;rw[e0,e1,e2,e3,e4]at nb;have n6c: ∀j,(w5.alloc (.cells #[Value.int IntKind.u64 h.base,Value.int IntKind.i64 h.cap,Value.int IntKind.i64 h.to,Value.bool h.cycle,Value.int IntKind.i64 h.scan,Value.slice a0 (lsH h 0).length q0,Value.slice a1 (lsH h 1).length q1,Value.slice (some ⟨g,0,none⟩) (lsH h 2).length q2,Value.slice a3 (lsH h 3).length q3,Value.slice a4 (lsH h 4).length q4] 100)).cell? ⟨w5.heap.size,j,none⟩=(#[Value.int IntKind.u64 h.base,Value.int IntKind.i64 h.cap,Value.int IntKind.i64 h.to,Value.bool h.cycle,Value.int IntKind.i64 h.scan,Value.slice a0 (lsH h 0).length q0,Value.slice a1 (lsH h 1).length q1,Value.slice (some ⟨g,0,none⟩) (lsH h 2).length q2,Value.slice a3 (lsH h 3).length q3,Value.slice a4 (lsH h 4).length q4]:Array Value)[j]? :=fun j=>cell_of_row _ _ _ _ _ _ nb;have y6: ∀o j,(w5.alloc o).cell? ⟨w.heap.size+1,j,none⟩=zeroA[j]? :=fun o j=>cell_of_row _ _ _ _ _ _ (z6 o);have f6: ∀o j,(w5.alloc o).frozen? ⟨w.heap.size+1,j,none⟩=false:=fun o j=>frz_of (z6 o);unfold zeroA at y6;have st6:FwSt w (w5.alloc (.cells #[Value.int IntKind.u64 h.base,Value.int IntKind.i64 h.cap,Value.int IntKind.i64 h.to,Value.bool h.cycle,Value.int IntKind.i64 h.scan,Value.slice a0 (lsH h 0).length q0,Value.slice a1 (lsH h 1).length q1,Value.slice (some ⟨g,0,none⟩) (lsH h 2).length q2,Value.slice a3 (lsH h 3).length q3,Value.slice a4 (lsH h 4).length q4] 100)) (w.heap.size+1) w1.heap.size w4.heap.size w5.heap.size (w4.heap.size+1) 3 (at_:Nat) h x:=⟨z6 _,m6 _,k6 _,hN,hb05 _,by omega,by omega,by omega,by omega,by simp;omega⟩;have ST6:=Lib.hid st6;have EP:=Lib.hid e2;clear st6;have HB05:=Lib.hid hb05;have HN:=Lib.hid hN;have E0:=Lib.hid e0;have E1:=Lib.hid e1;have E2:=Lib.hid e2;have E3:=Lib.hid e3;have E4:=Lib.hid e4;clear hb05 hN nb e0 e1 e2 e3 e4 ho5 hb5 z4 p4 x4 m4 k4)))
 have hpH:h.old.getD at_ 0=wd:=by show(lsH h 2).getD at_ 0=wd;simp[List.getD,hwd]
 have hfw:fwd h v=(wd,h,0):=by simp[fwd,hr,hv0,h1,hf,-List.getD_eq_getElem?_getD,hpH,hgo]
 go_region
 all_goals
  go_wp2
  try simp only[Exit.inBlock,Exit.then]
  have y:=put10_cells ST8.out.res (.int .u64 h.base) (.int .i64 h.cap) (.int .i64 h.to) (.bool h.cycle) (.int .i64 h.scan) (.slice a0 (lsH h 0).length q0) (.slice a1 (lsH h 1).length q1) (.slice (some ⟨g,0,none⟩) (lsH h 2).length q2) (.slice a3 (lsH h 3).length q3) (.slice a4 (lsH h 4).length q4)
  rw[hfw]
  refine bodyPost_ret (v:= .tuple #[.int .u64 wd,hpA h x,.int .i64 0]) ?_ rfl ?_
  ·unfold hpA;rw[E0.out,E1.out,E2.out,E3.out,E4.out];simp[results,Try.results20,go_sem,y]
  ·refine⟨x,rfl,?_,?_⟩
   ·exact(put10_below ST8.out.bel (by omega) _ _ _ _ _ _ _ _ _ _).drew
   ·intro j hj
    have ho:=ST8.out.now.own.own j hj
    refine own_rd (owns_block ho ?_) ?_
    ·intro c hc
     have hc1:=(ho.lt c hc).1
     exact put10_otherD (by omega) _ _ _ _ _ _ _ _ _ _
    ·intro c h1 h2
     exact⟨by omega,h2⟩
theorem Forward_gone4(w:World)(G:Nat→Prop)(hG: ∀b,G b→b<w.heap.size)(h:Hp)(hh:h.ok)(src:Nat→Value)(hs: ∀j,j<5→Rd w G (.sl ((lsH h j).map vu)) (src j))(v:Int)(hv:U64 v)
  (hr:rightL (layH h)=true) (hv0: ¬v=0) (h1:(adr v).2=0) (part:Int) (at_:Nat) (hf:findL (layH h) (adr v).1=(part,(at_:Int),0)) (hp:part=4)
  (wd:Int) (hwd:(lsH h 3)[at_]? =some wd) (hat:at_< (lsH h 3).length) (hwu:U64 wd) (hgo:(adr wd).2=0):
  Calls Try.prog 20 #[hpA h src,.int .u64 v] w (FwdPost w (fwd h v)):=by
 have HS:=Lib.hid hs
 have HH:=Lib.hid hh
 clear hs hh
 unfold hpA
 go_enter Try.func20,Try.ntmps20
 subst hp
 go_wp2_with (first
  | (go_at_call 59;go_loud (refine(from_walk _ (w4.heap.size+1) w5.heap.size h x ST6.out.now HH.out 3 at_ (by omega) g q3 EP.out (by omega)).mono ?_;rintro e w7 ⟨rfl,hb7⟩;obtain⟨m,hm⟩: ∃m,(lsH h 3).length-at_=m:=⟨_,rfl⟩;obtain⟨qm,hqm⟩: ∃qm,q3-at_=qm:=⟨_,rfl⟩;rw[hm,hqm];have hm0:0<m:=(by omega);have hm0i:(0:Int) < (m:Int):=(by omega);have hat2:at_+0=at_:=rfl;have st7:=ST6.out.below hb7;have hs7:=hb7.size;simp at hs7;have res7:=st7.res;have y7: ∀j,(w7).cell? ⟨w.heap.size+1,j,none⟩=zeroA[j]? :=fun j=>cell_of_row _ _ _ _ _ _ res7;unfold zeroA at y7;have f7: ∀j,(w7).frozen? ⟨w.heap.size+1,j,none⟩=false:=fun j=>frz_of res7;have nb7:=st7.now.blk;rw[E0.out,E1.out,E2.out,E3.out,E4.out]at nb7;have n7c: ∀j,(w7).cell? ⟨w5.heap.size,j,none⟩=(#[Value.int IntKind.u64 h.base,Value.int IntKind.i64 h.cap,Value.int IntKind.i64 h.to,Value.bool h.cycle,Value.int IntKind.i64 h.scan,Value.slice a0 (lsH h 0).length q0,Value.slice a1 (lsH h 1).length q1,Value.slice a2 (lsH h 2).length q2,Value.slice (some ⟨g,0,none⟩) (lsH h 3).length q3,Value.slice a4 (lsH h 4).length q4]:Array Value)[j]? :=fun j=>cell_of_row _ _ _ _ _ _ nb7;have k7c: ∀j,(w7).cell? ⟨w4.heap.size,j,none⟩=(#[.int .i64 4,.int .i64 (at_:Nat)]:Array Value)[j]? :=fun j=>cell_of_row _ _ _ _ _ _ st7.plc;have m7c: ∀j,(w7).cell? ⟨w1.heap.size,j,none⟩=(#[Value.int IntKind.u64 (layH h).base,Value.int IntKind.i64 (layH h).cap,Value.int IntKind.i64 (layH h).to,Value.int IntKind.i64 (layH h).low,Value.int IntKind.i64 (layH h).high,Value.int IntKind.i64 (layH h).old,Value.int IntKind.i64 (layH h).far]:Array Value)[j]? :=fun j=>cell_of_row _ _ _ _ _ _ st7.lay;have hop7:=st7.now.own.own 3 (by omega);rw[EP.out]at hop7;have c7:=own_cell hop7 hwd;clear nb7 hop7;have ST7:=Lib.hid st7;clear hb7 st7))
  | (go_at_call 57;go_loud (have st7:=ST7.out;refine(adr_calls hwu _).mono ?_;rintro e w8 ⟨rfl,hb8⟩;have st8:=st7.below hb8;have hs8:=hb8.size;have res8:=st8.res;have y8: ∀j,(w8).cell? ⟨w.heap.size+1,j,none⟩=zeroA[j]? :=fun j=>cell_of_row _ _ _ _ _ _ res8;unfold zeroA at y8;have f8: ∀j,(w8).frozen? ⟨w.heap.size+1,j,none⟩=false:=fun j=>frz_of res8;have nb8:=st8.now.blk;rw[E0.out,E1.out,E2.out,E3.out,E4.out]at nb8;have n8c: ∀j,(w8).cell? ⟨w5.heap.size,j,none⟩=(#[Value.int IntKind.u64 h.base,Value.int IntKind.i64 h.cap,Value.int IntKind.i64 h.to,Value.bool h.cycle,Value.int IntKind.i64 h.scan,Value.slice a0 (lsH h 0).length q0,Value.slice a1 (lsH h 1).length q1,Value.slice a2 (lsH h 2).length q2,Value.slice (some ⟨g,0,none⟩) (lsH h 3).length q3,Value.slice a4 (lsH h 4).length q4]:Array Value)[j]? :=fun j=>cell_of_row _ _ _ _ _ _ nb8;have k8c: ∀j,(w8).cell? ⟨w4.heap.size,j,none⟩=(#[.int .i64 4,.int .i64 (at_:Nat)]:Array Value)[j]? :=fun j=>cell_of_row _ _ _ _ _ _ st8.plc;have m8c: ∀j,(w8).cell? ⟨w1.heap.size,j,none⟩=(#[Value.int IntKind.u64 (layH h).base,Value.int IntKind.i64 (layH h).cap,Value.int IntKind.i64 (layH h).to,Value.int IntKind.i64 (layH h).low,Value.int IntKind.i64 (layH h).high,Value.int IntKind.i64 (layH h).old,Value.int IntKind.i64 (layH h).far]:Array Value)[j]? :=fun j=>cell_of_row _ _ _ _ _ _ st8.lay;have hop8:=st8.now.own.own 3 (by omega);rw[EP.out]at hop8;have c8:=own_cell hop8 hwd;clear nb8 hop8;have ST8:=Lib.hid st8;clear hb8 st8 st7))
  | (go_at_call 60;go_loud (refine(unpk_calls hwu _).mono ?_;rintro e w9 ⟨rfl,hb9⟩;rw[hun];dsimp only;have hs9:=hb9.size;have st10:FwSt w (w9.alloc (.cells #[.int .i64 (sz:Nat),.int .i64 pt] 55)) _ _ _ _ _ _ _ h x:=(ST8.out.below hb9).below ((Below.refl _ _).alloc (Nat.le_refl _) _);have res10:=st10.res;have y10: ∀j,((w9.alloc (.cells #[.int .i64 (sz:Nat),.int .i64 pt] 55))).cell? ⟨w.heap.size+1,j,none⟩=zeroA[j]? :=fun j=>cell_of_row _ _ _ _ _ _ res10;unfold zeroA at y10;have f10: ∀j,((w9.alloc (.cells #[.int .i64 (sz:Nat),.int .i64 pt] 55))).frozen? ⟨w.heap.size+1,j,none⟩=false:=fun j=>frz_of res10;have nb10:=st10.now.blk;rw[E0.out,E1.out,E2.out,E3.out,E4.out]at nb10;have n10c: ∀j,((w9.alloc (.cells #[.int .i64 (sz:Nat),.int .i64 pt] 55))).cell? ⟨w5.heap.size,j,none⟩=(#[Value.int IntKind.u64 h.base,Value.int IntKind.i64 h.cap,Value.int IntKind.i64 h.to,Value.bool h.cycle,Value.int IntKind.i64 h.scan,Value.slice a0 (lsH h 0).length q0,Value.slice a1 (lsH h 1).length q1,Value.slice a2 (lsH h 2).length q2,Value.slice (some ⟨g,0,none⟩) (lsH h 3).length q3,Value.slice a4 (lsH h 4).length q4]:Array Value)[j]? :=fun j=>cell_of_row _ _ _ _ _ _ nb10;have k10c: ∀j,((w9.alloc (.cells #[.int .i64 (sz:Nat),.int .i64 pt] 55))).cell? ⟨w4.heap.size,j,none⟩=(#[.int .i64 4,.int .i64 (at_:Nat)]:Array Value)[j]? :=fun j=>cell_of_row _ _ _ _ _ _ st10.plc;have m10c: ∀j,((w9.alloc (.cells #[.int .i64 (sz:Nat),.int .i64 pt] 55))).cell? ⟨w1.heap.size,j,none⟩=(#[Value.int IntKind.u64 (layH h).base,Value.int IntKind.i64 (layH h).cap,Value.int IntKind.i64 (layH h).to,Value.int IntKind.i64 (layH h).low,Value.int IntKind.i64 (layH h).high,Value.int IntKind.i64 (layH h).old,Value.int IntKind.i64 (layH h).far]:Array Value)[j]? :=fun j=>cell_of_row _ _ _ _ _ _ st10.lay;have hop10:=st10.now.own.own 3 (by omega);rw[EP.out]at hop10;have c10:=own_cell hop10 hwd;clear nb10 hop10;have s10c: ∀j,(w9.alloc (.cells #[.int .i64 (sz:Nat),.int .i64 pt] 55)).cell? ⟨w9.heap.size,j,none⟩=(#[.int .i64 (sz:Nat),.int .i64 pt]:Array Value)[j]? :=fun j=>cell_of_row _ _ _ _ _ _ (heap_alloc_new w9 _);have ST10:=Lib.hid st10;have hml:m≤1000000:=(by have:=lsH_len HH.out 3;omega);have hl10:at_+m=(lsH h 3).length:=(by omega);clear hb9 st10))
  | (go_at_call 54;go_loud (refine(Layout_calls (h:=h) (x:=src) (G:=G) (fun c hc=>by have:=hG c hc;simp;omega) (fun j hj=>(HS.out j hj).keep (fun b hb=>by have:=hG b hb;rw[Below.heap_alloc _ _ _ (by simp;omega),Below.heap_alloc _ _ _ (by omega)]) (fun _ h=>h))).mono ?_;rintro e w1 ⟨rfl,hb1⟩;unfold lyA;have z1:=(hb1.block (w.heap.size+1) (by simp)).trans (zero_new w _);have p1:=(hb1.block w.heap.size (by simp;omega)).trans ((Below.heap_alloc (w.alloc (.cells #[Value.int IntKind.u64 h.base,Value.int IntKind.i64 h.cap,Value.int IntKind.i64 h.to,Value.bool h.cycle,Value.int IntKind.i64 h.scan,src 0,src 1,src 2,src 3,src 4] 31)) _ w.heap.size (by simp)).trans (heap_alloc_new w _));have hs1:=hb1.size;simp at hs1;have HB1:=Lib.hid hb1;clear hb1))
  | (go_at_call 55;go_loud (refine(rightL_calls HH.out.lay _).mono ?_;rintro e w2 ⟨rfl,hb2⟩;rw[hr];have z2:=(hb2.block (w.heap.size+1) (by simp;omega)).trans ((Below.heap_alloc w1 _ (w.heap.size+1) (by omega)).trans z1);have p2:=(hb2.block w.heap.size (by simp;omega)).trans ((Below.heap_alloc w1 _ w.heap.size (by omega)).trans p1);have x2: ∀j,w2.cell? ⟨w.heap.size,j,none⟩=(#[Value.int IntKind.u64 h.base,Value.int IntKind.i64 h.cap,Value.int IntKind.i64 h.to,Value.bool h.cycle,Value.int IntKind.i64 h.scan,src 0,src 1,src 2,src 3,src 4]:Array Value)[j]? :=fun j=>cell_of_row _ _ _ _ _ _ p2;have hb02:Below w.heap.size w w2:=((((((Below.refl _ _).alloc (Nat.le_refl _) _).alloc (by simp) _).trans (HB1.out.mono (by simp;omega))).alloc (by omega) _).trans (hb2.mono (by simp;omega)));have hs2:=hb2.size;simp at hs2;have m2:=(hb2.block w1.heap.size (by simp)).trans (heap_alloc_new w1 _);have HB02:=Lib.hid hb02;clear hb2 hb02))
  | (go_at_call 57;go_loud (refine(adr_calls hv _).mono ?_;rintro e w3 ⟨rfl,hb3⟩;have z3:=(hb3.block (w.heap.size+1) (by omega)).trans z2;have p3:=(hb3.block w.heap.size (by omega)).trans p2;have m3:=(hb3.block w1.heap.size (by omega)).trans m2;have l3: ∀j,w3.cell? ⟨w1.heap.size,j,none⟩=(#[Value.int IntKind.u64 (layH h).base,Value.int IntKind.i64 (layH h).cap,Value.int IntKind.i64 (layH h).to,Value.int IntKind.i64 (layH h).low,Value.int IntKind.i64 (layH h).high,Value.int IntKind.i64 (layH h).old,Value.int IntKind.i64 (layH h).far]:Array Value)[j]? :=fun j=>cell_of_row _ _ _ _ _ _ m3;have hs3:=hb3.size;have HB3:=Lib.hid hb3;clear hb3))
  | (go_at_call 58;go_loud (refine(findL_calls HH.out.lay (adr_u hv) _).mono ?_;rintro e w4 ⟨rfl,hb4⟩;rw[hf];dsimp only;have hs4:=hb4.size;have z4: ∀o,(w4.alloc o).heap[w.heap.size+1]? =some (.cells zeroA 31 (0,0)):=fun o=>(Below.heap_alloc w4 o (w.heap.size+1) (by omega)).trans ((hb4.block (w.heap.size+1) (by omega)).trans z3);have p4: ∀o,(w4.alloc o).heap[w.heap.size]? =some (.cells #[Value.int IntKind.u64 h.base,Value.int IntKind.i64 h.cap,Value.int IntKind.i64 h.to,Value.bool h.cycle,Value.int IntKind.i64 h.scan,src 0,src 1,src 2,src 3,src 4] 31 (0,0)):=fun o=>(Below.heap_alloc w4 o w.heap.size (by omega)).trans ((hb4.block w.heap.size (by omega)).trans p3);have x4: ∀o j,(w4.alloc o).cell? ⟨w.heap.size,j,none⟩=(#[Value.int IntKind.u64 h.base,Value.int IntKind.i64 h.cap,Value.int IntKind.i64 h.to,Value.bool h.cycle,Value.int IntKind.i64 h.scan,src 0,src 1,src 2,src 3,src 4]:Array Value)[j]? :=fun o j=>cell_of_row _ _ _ _ _ _ (p4 o);have hb04: ∀o,Below w.heap.size w (w4.alloc o):=fun o=>((HB02.out.trans (HB3.out.mono (by omega))).trans (hb4.mono (by omega))).alloc (by omega) o;have m4: ∀o,(w4.alloc o).heap[w1.heap.size]? =some (.cells #[Value.int IntKind.u64 (layH h).base,Value.int IntKind.i64 (layH h).cap,Value.int IntKind.i64 (layH h).to,Value.int IntKind.i64 (layH h).low,Value.int IntKind.i64 (layH h).high,Value.int IntKind.i64 (layH h).old,Value.int IntKind.i64 (layH h).far] 62 (0,0)):=fun o=>(Below.heap_alloc w4 o w1.heap.size (by omega)).trans ((hb4.block w1.heap.size (by omega)).trans m3);have k4:=heap_alloc_new w4 (.cells #[.int .i64 4,.int .i64 (at_:Nat)] 65);have HB04:=Lib.hid hb04;clear hb4 hb04 z3 p3 m3 l3 z2 p2 x2 m2))
  | (go_at_call 56;go_loud (refine(Own_walk _ G (fun b hb=>by have:=hG b hb;simp;omega) h HH.out src (fun j hj=>(HS.out j hj).keep (fun b hb=>(HB04.out _).block b (hG b hb)) (fun _ h=>h))).mono ?_;rintro e w5 ⟨x,rfl,hb5,ho5⟩;obtain⟨a0,q0,e0⟩:=own_form (ho5.own 0 (by omega));obtain⟨a1,q1,e1⟩:=own_form (ho5.own 1 (by omega));obtain⟨a2,q2,e2⟩:=own_form (ho5.own 2 (by omega));obtain⟨a3,q3,e3⟩:=own_form (ho5.own 3 (by omega));obtain⟨a4,q4,e4⟩:=own_form (ho5.own 4 (by omega));obtain⟨g,hg⟩:=own_addr (ho5.own 3 (by omega)) e3 (by omega);subst hg;unfold hpA;rw[e0,e1,e2,e3,e4];have hs5:=hb5.size;simp at hs5;have hsz4: ∀o,(w4.alloc o).heap.size=w4.heap.size+1:=fun o=>(by simp);rw[hsz4]at ho5;have hN:=now_of_own ho5 (by omega);unfold workO at hN;rw[e0,e1,e2,e3,e4]at hN;have hb05: ∀o,Below w.heap.size w (w5.alloc o):=fun o=>((HB04.out _).trans (hb5.mono (by simp;omega))).alloc (by omega) o;have z6: ∀o,(w5.alloc o).heap[w.heap.size+1]? =some (.cells zeroA 31 (0,0)):=fun o=>(Below.heap_alloc w5 o (w.heap.size+1) (by omega)).trans ((hb5.block (w.heap.size+1) (by simp;omega)).trans (z4 _));have k6: ∀o,(w5.alloc o).heap[w4.heap.size]? =some (.cells #[.int .i64 4,.int .i64 (at_:Nat)] 65 (0,0)):=fun o=>(Below.heap_alloc w5 o w4.heap.size (by omega)).trans ((hb5.block w4.heap.size (by simp)).trans k4);have m6: ∀o,(w5.alloc o).heap[w1.heap.size]? =some (.cells #[Value.int IntKind.u64 (layH h).base,Value.int IntKind.i64 (layH h).cap,Value.int IntKind.i64 (layH h).to,Value.int IntKind.i64 (layH h).low,Value.int IntKind.i64 (layH h).high,Value.int IntKind.i64 (layH h).old,Value.int IntKind.i64 (layH h).far] 62 (0,0)):=fun o=>(Below.heap_alloc w5 o w1.heap.size (by omega)).trans ((hb5.block w1.heap.size (by simp;omega)).trans (m4 _));have k6c: ∀o j,(w5.alloc o).cell? ⟨w4.heap.size,j,none⟩=(#[.int .i64 4,.int .i64 (at_:Nat)]:Array Value)[j]? :=fun o j=>cell_of_row _ _ _ _ _ _ (k6 o);have m6c: ∀o j,(w5.alloc o).cell? ⟨w1.heap.size,j,none⟩=(#[Value.int IntKind.u64 (layH h).base,Value.int IntKind.i64 (layH h).cap,Value.int IntKind.i64 (layH h).to,Value.int IntKind.i64 (layH h).low,Value.int IntKind.i64 (layH h).high,Value.int IntKind.i64 (layH h).old,Value.int IntKind.i64 (layH h).far]:Array Value)[j]? :=fun o j=>cell_of_row _ _ _ _ _ _ (m6 o);have nb:=hN.blk;rw[e0,e1,e2,e3,e4]at nb;have n6c: ∀j,(w5.alloc (.cells #[Value.int IntKind.u64 h.base,Value.int IntKind.i64 h.cap,Value.int IntKind.i64 h.to,Value.bool h.cycle,Value.int IntKind.i64 h.scan,Value.slice a0 (lsH h 0).length q0,Value.slice a1 (lsH h 1).length q1,Value.slice a2 (lsH h 2).length q2,Value.slice (some ⟨g,0,none⟩) (lsH h 3).length q3,Value.slice a4 (lsH h 4).length q4] 100)).cell? ⟨w5.heap.size,j,none⟩=(#[Value.int IntKind.u64 h.base,Value.int IntKind.i64 h.cap,Value.int IntKind.i64 h.to,Value.bool h.cycle,Value.int IntKind.i64 h.scan,Value.slice a0 (lsH h 0).length q0,Value.slice a1 (lsH h 1).length q1,Value.slice a2 (lsH h 2).length q2,Value.slice (some ⟨g,0,none⟩) (lsH h 3).length q3,Value.slice a4 (lsH h 4).length q4]:Array Value)[j]? :=fun j=>cell_of_row _ _ _ _ _ _ nb;have y6: ∀o j,(w5.alloc o).cell? ⟨w.heap.size+1,j,none⟩=zeroA[j]? :=fun o j=>cell_of_row _ _ _ _ _ _ (z6 o);have f6: ∀o j,(w5.alloc o).frozen? ⟨w.heap.size+1,j,none⟩=false:=fun o j=>frz_of (z6 o);unfold zeroA at y6;have st6:FwSt w (w5.alloc (.cells #[Value.int IntKind.u64 h.base,Value.int IntKind.i64 h.cap,Value.int IntKind.i64 h.to,Value.bool h.cycle,Value.int IntKind.i64 h.scan,Value.slice a0 (lsH h 0).length q0,Value.slice a1 (lsH h 1).length q1,Value.slice a2 (lsH h 2).length q2,Value.slice (some ⟨g,0,none⟩) (lsH h 3).length q3,Value.slice a4 (lsH h 4).length q4] 100)) (w.heap.size+1) w1.heap.size w4.heap.size w5.heap.size (w4.heap.size+1) 4 (at_:Nat) h x:=⟨z6 _,m6 _,k6 _,hN,hb05 _,by omega,by omega,by omega,by omega,by simp;omega⟩;have ST6:=Lib.hid st6;have EP:=Lib.hid e3;clear st6;have HB05:=Lib.hid hb05;have HN:=Lib.hid hN;have E0:=Lib.hid e0;have E1:=Lib.hid e1;have E2:=Lib.hid e2;have E3:=Lib.hid e3;have E4:=Lib.hid e4;clear hb05 hN nb e0 e1 e2 e3 e4 ho5 hb5 z4 p4 x4 m4 k4)))
 have hpH:h.far.getD at_ 0=wd:=by show(lsH h 3).getD at_ 0=wd;simp[List.getD,hwd]
 have hfw:fwd h v=(wd,h,0):=by simp[fwd,hr,hv0,h1,hf,-List.getD_eq_getElem?_getD,hpH,hgo]
 go_region
 all_goals
  go_wp2
  try simp only[Exit.inBlock,Exit.then]
  have y:=put10_cells ST8.out.res (.int .u64 h.base) (.int .i64 h.cap) (.int .i64 h.to) (.bool h.cycle) (.int .i64 h.scan) (.slice a0 (lsH h 0).length q0) (.slice a1 (lsH h 1).length q1) (.slice a2 (lsH h 2).length q2) (.slice (some ⟨g,0,none⟩) (lsH h 3).length q3) (.slice a4 (lsH h 4).length q4)
  rw[hfw]
  refine bodyPost_ret (v:= .tuple #[.int .u64 wd,hpA h x,.int .i64 0]) ?_ rfl ?_
  ·unfold hpA;rw[E0.out,E1.out,E2.out,E3.out,E4.out];simp[results,Try.results20,go_sem,y]
  ·refine⟨x,rfl,?_,?_⟩
   ·exact(put10_below ST8.out.bel (by omega) _ _ _ _ _ _ _ _ _ _).drew
   ·intro j hj
    have ho:=ST8.out.now.own.own j hj
    refine own_rd (owns_block ho ?_) ?_
    ·intro c hc
     have hc1:=(ho.lt c hc).1
     exact put10_otherD (by omega) _ _ _ _ _ _ _ _ _ _
    ·intro c h1 h2
     exact⟨by omega,h2⟩
theorem Forward_form3(w:World)(G:Nat→Prop)(hG: ∀b,G b→b<w.heap.size)(h:Hp)(hh:h.ok)(src:Nat→Value)(hs: ∀j,j<5→Rd w G (.sl ((lsH h j).map vu)) (src j))(v:Int)(hv:U64 v)
  (hr:rightL (layH h)=true) (hv0: ¬v=0) (h1:(adr v).2=0) (part:Int) (at_:Nat) (hf:findL (layH h) (adr v).1=(part,(at_:Int),0)) (hp:part=3)
  (wd:Int) (hwd:(lsH h 2)[at_]? =some wd) (hat:at_< (lsH h 2).length) (hwu:U64 wd) (hgo: ¬(adr wd).2=0) (sz pt er:Int) (hun:unpk wd=(sz,pt,er)) (her: ¬er=0):
  Calls Try.prog 20 #[hpA h src,.int .u64 v] w (FwdPost w (fwd h v)):=by
 have HS:=Lib.hid hs
 have HH:=Lib.hid hh
 clear hs hh
 unfold hpA
 go_enter Try.func20,Try.ntmps20
 subst hp
 go_wp2_with (first
  | (go_at_call 59;go_loud (refine(from_walk _ (w4.heap.size+1) w5.heap.size h x ST6.out.now HH.out 2 at_ (by omega) g q2 EP.out (by omega)).mono ?_;rintro e w7 ⟨rfl,hb7⟩;obtain⟨m,hm⟩: ∃m,(lsH h 2).length-at_=m:=⟨_,rfl⟩;obtain⟨qm,hqm⟩: ∃qm,q2-at_=qm:=⟨_,rfl⟩;rw[hm,hqm];have hm0:0<m:=(by omega);have hm0i:(0:Int) < (m:Int):=(by omega);have hat2:at_+0=at_:=rfl;have st7:=ST6.out.below hb7;have hs7:=hb7.size;simp at hs7;have res7:=st7.res;have y7: ∀j,(w7).cell? ⟨w.heap.size+1,j,none⟩=zeroA[j]? :=fun j=>cell_of_row _ _ _ _ _ _ res7;unfold zeroA at y7;have f7: ∀j,(w7).frozen? ⟨w.heap.size+1,j,none⟩=false:=fun j=>frz_of res7;have nb7:=st7.now.blk;rw[E0.out,E1.out,E2.out,E3.out,E4.out]at nb7;have n7c: ∀j,(w7).cell? ⟨w5.heap.size,j,none⟩=(#[Value.int IntKind.u64 h.base,Value.int IntKind.i64 h.cap,Value.int IntKind.i64 h.to,Value.bool h.cycle,Value.int IntKind.i64 h.scan,Value.slice a0 (lsH h 0).length q0,Value.slice a1 (lsH h 1).length q1,Value.slice (some ⟨g,0,none⟩) (lsH h 2).length q2,Value.slice a3 (lsH h 3).length q3,Value.slice a4 (lsH h 4).length q4]:Array Value)[j]? :=fun j=>cell_of_row _ _ _ _ _ _ nb7;have k7c: ∀j,(w7).cell? ⟨w4.heap.size,j,none⟩=(#[.int .i64 3,.int .i64 (at_:Nat)]:Array Value)[j]? :=fun j=>cell_of_row _ _ _ _ _ _ st7.plc;have m7c: ∀j,(w7).cell? ⟨w1.heap.size,j,none⟩=(#[Value.int IntKind.u64 (layH h).base,Value.int IntKind.i64 (layH h).cap,Value.int IntKind.i64 (layH h).to,Value.int IntKind.i64 (layH h).low,Value.int IntKind.i64 (layH h).high,Value.int IntKind.i64 (layH h).old,Value.int IntKind.i64 (layH h).far]:Array Value)[j]? :=fun j=>cell_of_row _ _ _ _ _ _ st7.lay;have hop7:=st7.now.own.own 2 (by omega);rw[EP.out]at hop7;have c7:=own_cell hop7 hwd;clear nb7 hop7;have ST7:=Lib.hid st7;clear hb7 st7))
  | (go_at_call 57;go_loud (have st7:=ST7.out;refine(adr_calls hwu _).mono ?_;rintro e w8 ⟨rfl,hb8⟩;have st8:=st7.below hb8;have hs8:=hb8.size;have res8:=st8.res;have y8: ∀j,(w8).cell? ⟨w.heap.size+1,j,none⟩=zeroA[j]? :=fun j=>cell_of_row _ _ _ _ _ _ res8;unfold zeroA at y8;have f8: ∀j,(w8).frozen? ⟨w.heap.size+1,j,none⟩=false:=fun j=>frz_of res8;have nb8:=st8.now.blk;rw[E0.out,E1.out,E2.out,E3.out,E4.out]at nb8;have n8c: ∀j,(w8).cell? ⟨w5.heap.size,j,none⟩=(#[Value.int IntKind.u64 h.base,Value.int IntKind.i64 h.cap,Value.int IntKind.i64 h.to,Value.bool h.cycle,Value.int IntKind.i64 h.scan,Value.slice a0 (lsH h 0).length q0,Value.slice a1 (lsH h 1).length q1,Value.slice (some ⟨g,0,none⟩) (lsH h 2).length q2,Value.slice a3 (lsH h 3).length q3,Value.slice a4 (lsH h 4).length q4]:Array Value)[j]? :=fun j=>cell_of_row _ _ _ _ _ _ nb8;have k8c: ∀j,(w8).cell? ⟨w4.heap.size,j,none⟩=(#[.int .i64 3,.int .i64 (at_:Nat)]:Array Value)[j]? :=fun j=>cell_of_row _ _ _ _ _ _ st8.plc;have m8c: ∀j,(w8).cell? ⟨w1.heap.size,j,none⟩=(#[Value.int IntKind.u64 (layH h).base,Value.int IntKind.i64 (layH h).cap,Value.int IntKind.i64 (layH h).to,Value.int IntKind.i64 (layH h).low,Value.int IntKind.i64 (layH h).high,Value.int IntKind.i64 (layH h).old,Value.int IntKind.i64 (layH h).far]:Array Value)[j]? :=fun j=>cell_of_row _ _ _ _ _ _ st8.lay;have hop8:=st8.now.own.own 2 (by omega);rw[EP.out]at hop8;have c8:=own_cell hop8 hwd;clear nb8 hop8;have ST8:=Lib.hid st8;clear hb8 st8 st7))
  | (go_at_call 60;go_loud (refine(unpk_calls hwu _).mono ?_;rintro e w9 ⟨rfl,hb9⟩;rw[hun];dsimp only;have hs9:=hb9.size;have st10:FwSt w (w9.alloc (.cells #[.int .i64 sz,.int .i64 pt] 55)) _ _ _ _ _ _ _ h x:=(ST8.out.below hb9).below ((Below.refl _ _).alloc (Nat.le_refl _) _);have res10:=st10.res;have y10: ∀j,((w9.alloc (.cells #[.int .i64 sz,.int .i64 pt] 55))).cell? ⟨w.heap.size+1,j,none⟩=zeroA[j]? :=fun j=>cell_of_row _ _ _ _ _ _ res10;unfold zeroA at y10;have f10: ∀j,((w9.alloc (.cells #[.int .i64 sz,.int .i64 pt] 55))).frozen? ⟨w.heap.size+1,j,none⟩=false:=fun j=>frz_of res10;have nb10:=st10.now.blk;rw[E0.out,E1.out,E2.out,E3.out,E4.out]at nb10;have n10c: ∀j,((w9.alloc (.cells #[.int .i64 sz,.int .i64 pt] 55))).cell? ⟨w5.heap.size,j,none⟩=(#[Value.int IntKind.u64 h.base,Value.int IntKind.i64 h.cap,Value.int IntKind.i64 h.to,Value.bool h.cycle,Value.int IntKind.i64 h.scan,Value.slice a0 (lsH h 0).length q0,Value.slice a1 (lsH h 1).length q1,Value.slice (some ⟨g,0,none⟩) (lsH h 2).length q2,Value.slice a3 (lsH h 3).length q3,Value.slice a4 (lsH h 4).length q4]:Array Value)[j]? :=fun j=>cell_of_row _ _ _ _ _ _ nb10;have k10c: ∀j,((w9.alloc (.cells #[.int .i64 sz,.int .i64 pt] 55))).cell? ⟨w4.heap.size,j,none⟩=(#[.int .i64 3,.int .i64 (at_:Nat)]:Array Value)[j]? :=fun j=>cell_of_row _ _ _ _ _ _ st10.plc;have m10c: ∀j,((w9.alloc (.cells #[.int .i64 sz,.int .i64 pt] 55))).cell? ⟨w1.heap.size,j,none⟩=(#[Value.int IntKind.u64 (layH h).base,Value.int IntKind.i64 (layH h).cap,Value.int IntKind.i64 (layH h).to,Value.int IntKind.i64 (layH h).low,Value.int IntKind.i64 (layH h).high,Value.int IntKind.i64 (layH h).old,Value.int IntKind.i64 (layH h).far]:Array Value)[j]? :=fun j=>cell_of_row _ _ _ _ _ _ st10.lay;have hop10:=st10.now.own.own 2 (by omega);rw[EP.out]at hop10;have c10:=own_cell hop10 hwd;clear nb10 hop10;have s10c: ∀j,(w9.alloc (.cells #[.int .i64 sz,.int .i64 pt] 55)).cell? ⟨w9.heap.size,j,none⟩=(#[.int .i64 sz,.int .i64 pt]:Array Value)[j]? :=fun j=>cell_of_row _ _ _ _ _ _ (heap_alloc_new w9 _);have ST10:=Lib.hid st10;have hml:m≤1000000:=(by have:=lsH_len HH.out 2;omega);have hl10:at_+m=(lsH h 2).length:=(by omega);clear hb9 st10))
  | (go_at_call 54;go_loud (refine(Layout_calls (h:=h) (x:=src) (G:=G) (fun c hc=>by have:=hG c hc;simp;omega) (fun j hj=>(HS.out j hj).keep (fun b hb=>by have:=hG b hb;rw[Below.heap_alloc _ _ _ (by simp;omega),Below.heap_alloc _ _ _ (by omega)]) (fun _ h=>h))).mono ?_;rintro e w1 ⟨rfl,hb1⟩;unfold lyA;have z1:=(hb1.block (w.heap.size+1) (by simp)).trans (zero_new w _);have p1:=(hb1.block w.heap.size (by simp;omega)).trans ((Below.heap_alloc (w.alloc (.cells #[Value.int IntKind.u64 h.base,Value.int IntKind.i64 h.cap,Value.int IntKind.i64 h.to,Value.bool h.cycle,Value.int IntKind.i64 h.scan,src 0,src 1,src 2,src 3,src 4] 31)) _ w.heap.size (by simp)).trans (heap_alloc_new w _));have hs1:=hb1.size;simp at hs1;have HB1:=Lib.hid hb1;clear hb1))
  | (go_at_call 55;go_loud (refine(rightL_calls HH.out.lay _).mono ?_;rintro e w2 ⟨rfl,hb2⟩;rw[hr];have z2:=(hb2.block (w.heap.size+1) (by simp;omega)).trans ((Below.heap_alloc w1 _ (w.heap.size+1) (by omega)).trans z1);have p2:=(hb2.block w.heap.size (by simp;omega)).trans ((Below.heap_alloc w1 _ w.heap.size (by omega)).trans p1);have x2: ∀j,w2.cell? ⟨w.heap.size,j,none⟩=(#[Value.int IntKind.u64 h.base,Value.int IntKind.i64 h.cap,Value.int IntKind.i64 h.to,Value.bool h.cycle,Value.int IntKind.i64 h.scan,src 0,src 1,src 2,src 3,src 4]:Array Value)[j]? :=fun j=>cell_of_row _ _ _ _ _ _ p2;have hb02:Below w.heap.size w w2:=((((((Below.refl _ _).alloc (Nat.le_refl _) _).alloc (by simp) _).trans (HB1.out.mono (by simp;omega))).alloc (by omega) _).trans (hb2.mono (by simp;omega)));have hs2:=hb2.size;simp at hs2;have m2:=(hb2.block w1.heap.size (by simp)).trans (heap_alloc_new w1 _);have HB02:=Lib.hid hb02;clear hb2 hb02))
  | (go_at_call 57;go_loud (refine(adr_calls hv _).mono ?_;rintro e w3 ⟨rfl,hb3⟩;have z3:=(hb3.block (w.heap.size+1) (by omega)).trans z2;have p3:=(hb3.block w.heap.size (by omega)).trans p2;have m3:=(hb3.block w1.heap.size (by omega)).trans m2;have l3: ∀j,w3.cell? ⟨w1.heap.size,j,none⟩=(#[Value.int IntKind.u64 (layH h).base,Value.int IntKind.i64 (layH h).cap,Value.int IntKind.i64 (layH h).to,Value.int IntKind.i64 (layH h).low,Value.int IntKind.i64 (layH h).high,Value.int IntKind.i64 (layH h).old,Value.int IntKind.i64 (layH h).far]:Array Value)[j]? :=fun j=>cell_of_row _ _ _ _ _ _ m3;have hs3:=hb3.size;have HB3:=Lib.hid hb3;clear hb3))
  | (go_at_call 58;go_loud (refine(findL_calls HH.out.lay (adr_u hv) _).mono ?_;rintro e w4 ⟨rfl,hb4⟩;rw[hf];dsimp only;have hs4:=hb4.size;have z4: ∀o,(w4.alloc o).heap[w.heap.size+1]? =some (.cells zeroA 31 (0,0)):=fun o=>(Below.heap_alloc w4 o (w.heap.size+1) (by omega)).trans ((hb4.block (w.heap.size+1) (by omega)).trans z3);have p4: ∀o,(w4.alloc o).heap[w.heap.size]? =some (.cells #[Value.int IntKind.u64 h.base,Value.int IntKind.i64 h.cap,Value.int IntKind.i64 h.to,Value.bool h.cycle,Value.int IntKind.i64 h.scan,src 0,src 1,src 2,src 3,src 4] 31 (0,0)):=fun o=>(Below.heap_alloc w4 o w.heap.size (by omega)).trans ((hb4.block w.heap.size (by omega)).trans p3);have x4: ∀o j,(w4.alloc o).cell? ⟨w.heap.size,j,none⟩=(#[Value.int IntKind.u64 h.base,Value.int IntKind.i64 h.cap,Value.int IntKind.i64 h.to,Value.bool h.cycle,Value.int IntKind.i64 h.scan,src 0,src 1,src 2,src 3,src 4]:Array Value)[j]? :=fun o j=>cell_of_row _ _ _ _ _ _ (p4 o);have hb04: ∀o,Below w.heap.size w (w4.alloc o):=fun o=>((HB02.out.trans (HB3.out.mono (by omega))).trans (hb4.mono (by omega))).alloc (by omega) o;have m4: ∀o,(w4.alloc o).heap[w1.heap.size]? =some (.cells #[Value.int IntKind.u64 (layH h).base,Value.int IntKind.i64 (layH h).cap,Value.int IntKind.i64 (layH h).to,Value.int IntKind.i64 (layH h).low,Value.int IntKind.i64 (layH h).high,Value.int IntKind.i64 (layH h).old,Value.int IntKind.i64 (layH h).far] 62 (0,0)):=fun o=>(Below.heap_alloc w4 o w1.heap.size (by omega)).trans ((hb4.block w1.heap.size (by omega)).trans m3);have k4:=heap_alloc_new w4 (.cells #[.int .i64 3,.int .i64 (at_:Nat)] 65);have HB04:=Lib.hid hb04;clear hb4 hb04 z3 p3 m3 l3 z2 p2 x2 m2))
  | (go_at_call 56;go_loud (refine(Own_walk _ G (fun b hb=>by have:=hG b hb;simp;omega) h HH.out src (fun j hj=>(HS.out j hj).keep (fun b hb=>(HB04.out _).block b (hG b hb)) (fun _ h=>h))).mono ?_;rintro e w5 ⟨x,rfl,hb5,ho5⟩;obtain⟨a0,q0,e0⟩:=own_form (ho5.own 0 (by omega));obtain⟨a1,q1,e1⟩:=own_form (ho5.own 1 (by omega));obtain⟨a2,q2,e2⟩:=own_form (ho5.own 2 (by omega));obtain⟨a3,q3,e3⟩:=own_form (ho5.own 3 (by omega));obtain⟨a4,q4,e4⟩:=own_form (ho5.own 4 (by omega));obtain⟨g,hg⟩:=own_addr (ho5.own 2 (by omega)) e2 (by omega);subst hg;unfold hpA;rw[e0,e1,e2,e3,e4];have hs5:=hb5.size;simp at hs5;have hsz4: ∀o,(w4.alloc o).heap.size=w4.heap.size+1:=fun o=>(by simp);rw[hsz4]at ho5;have hN:=now_of_own ho5 (by omega);unfold workO at hN;rw[e0,e1,e2,e3,e4]at hN;have hb05: ∀o,Below w.heap.size w (w5.alloc o):=fun o=>((HB04.out _).trans (hb5.mono (by simp;omega))).alloc (by omega) o;have z6: ∀o,(w5.alloc o).heap[w.heap.size+1]? =some (.cells zeroA 31 (0,0)):=fun o=>(Below.heap_alloc w5 o (w.heap.size+1) (by omega)).trans ((hb5.block (w.heap.size+1) (by simp;omega)).trans (z4 _));have k6: ∀o,(w5.alloc o).heap[w4.heap.size]? =some (.cells #[.int .i64 3,.int .i64 (at_:Nat)] 65 (0,0)):=fun o=>(Below.heap_alloc w5 o w4.heap.size (by omega)).trans ((hb5.block w4.heap.size (by simp)).trans k4);have m6: ∀o,(w5.alloc o).heap[w1.heap.size]? =some (.cells #[Value.int IntKind.u64 (layH h).base,Value.int IntKind.i64 (layH h).cap,Value.int IntKind.i64 (layH h).to,Value.int IntKind.i64 (layH h).low,Value.int IntKind.i64 (layH h).high,Value.int IntKind.i64 (layH h).old,Value.int IntKind.i64 (layH h).far] 62 (0,0)):=fun o=>(Below.heap_alloc w5 o w1.heap.size (by omega)).trans ((hb5.block w1.heap.size (by simp;omega)).trans (m4 _));have k6c: ∀o j,(w5.alloc o).cell? ⟨w4.heap.size,j,none⟩=(#[.int .i64 3,.int .i64 (at_:Nat)]:Array Value)[j]? :=fun o j=>cell_of_row _ _ _ _ _ _ (k6 o);have m6c: ∀o j,(w5.alloc o).cell? ⟨w1.heap.size,j,none⟩=(#[Value.int IntKind.u64 (layH h).base,Value.int IntKind.i64 (layH h).cap,Value.int IntKind.i64 (layH h).to,Value.int IntKind.i64 (layH h).low,Value.int IntKind.i64 (layH h).high,Value.int IntKind.i64 (layH h).old,Value.int IntKind.i64 (layH h).far]:Array Value)[j]? :=fun o j=>cell_of_row _ _ _ _ _ _ (m6 o);have nb:=hN.blk;rw[e0,e1,e2,e3,e4]at nb;have n6c: ∀j,(w5.alloc (.cells #[Value.int IntKind.u64 h.base,Value.int IntKind.i64 h.cap,Value.int IntKind.i64 h.to,Value.bool h.cycle,Value.int IntKind.i64 h.scan,Value.slice a0 (lsH h 0).length q0,Value.slice a1 (lsH h 1).length q1,Value.slice (some ⟨g,0,none⟩) (lsH h 2).length q2,Value.slice a3 (lsH h 3).length q3,Value.slice a4 (lsH h 4).length q4] 100)).cell? ⟨w5.heap.size,j,none⟩=(#[Value.int IntKind.u64 h.base,Value.int IntKind.i64 h.cap,Value.int IntKind.i64 h.to,Value.bool h.cycle,Value.int IntKind.i64 h.scan,Value.slice a0 (lsH h 0).length q0,Value.slice a1 (lsH h 1).length q1,Value.slice (some ⟨g,0,none⟩) (lsH h 2).length q2,Value.slice a3 (lsH h 3).length q3,Value.slice a4 (lsH h 4).length q4]:Array Value)[j]? :=fun j=>cell_of_row _ _ _ _ _ _ nb;have y6: ∀o j,(w5.alloc o).cell? ⟨w.heap.size+1,j,none⟩=zeroA[j]? :=fun o j=>cell_of_row _ _ _ _ _ _ (z6 o);have f6: ∀o j,(w5.alloc o).frozen? ⟨w.heap.size+1,j,none⟩=false:=fun o j=>frz_of (z6 o);unfold zeroA at y6;have st6:FwSt w (w5.alloc (.cells #[Value.int IntKind.u64 h.base,Value.int IntKind.i64 h.cap,Value.int IntKind.i64 h.to,Value.bool h.cycle,Value.int IntKind.i64 h.scan,Value.slice a0 (lsH h 0).length q0,Value.slice a1 (lsH h 1).length q1,Value.slice (some ⟨g,0,none⟩) (lsH h 2).length q2,Value.slice a3 (lsH h 3).length q3,Value.slice a4 (lsH h 4).length q4] 100)) (w.heap.size+1) w1.heap.size w4.heap.size w5.heap.size (w4.heap.size+1) 3 (at_:Nat) h x:=⟨z6 _,m6 _,k6 _,hN,hb05 _,by omega,by omega,by omega,by omega,by simp;omega⟩;have ST6:=Lib.hid st6;have EP:=Lib.hid e2;clear st6;have HB05:=Lib.hid hb05;have HN:=Lib.hid hN;have E0:=Lib.hid e0;have E1:=Lib.hid e1;have E2:=Lib.hid e2;have E3:=Lib.hid e3;have E4:=Lib.hid e4;clear hb05 hN nb e0 e1 e2 e3 e4 ho5 hb5 z4 p4 x4 m4 k4)))
 have hpH:h.old.getD at_ 0=wd:=by show(lsH h 2).getD at_ 0=wd;simp[List.getD,hwd]
 have hpL:h.old.length=(lsH h 2).length:=rfl
 have hfw:fwd h v=(0,Hp.zero,3):=by simp[fwd,fwdC,hr,hv0,h1,hf,-List.getD_eq_getElem?_getD,hpH,hpL,hgo,hun,her]
 have y:=put10_cells ST10.out.res (.int .u64 0) (.int .i64 0) (.int .i64 0) (.bool false) (.int .i64 0) (.slice none 0 0) (.slice none 0 0) (.slice none 0 0) (.slice none 0 0) (.slice none 0 0)
 rw[hfw]
 refine bodyPost_ret (v:= .tuple #[.int .u64 0,.agg zeroA,.int .i64 3]) ?_ rfl ?_
 ·simp[results,Try.results20,go_sem,y,zeroA]
 ·refine⟨fun _=> .slice none 0 0,?_,?_,zero_rd _ _⟩
  ·simp[hpA,Hp.zero,zeroA]
  ·exact put10_below ST10.out.bel (by omega) _ _ _ _ _ _ _ _ _ _
theorem Forward_short3(w:World)(G:Nat→Prop)(hG: ∀b,G b→b<w.heap.size)(h:Hp)(hh:h.ok)(src:Nat→Value)(hs: ∀j,j<5→Rd w G (.sl ((lsH h j).map vu)) (src j))(v:Int)(hv:U64 v)
  (hr:rightL (layH h)=true) (hv0: ¬v=0) (h1:(adr v).2=0) (part:Int) (at_:Nat) (hf:findL (layH h) (adr v).1=(part,(at_:Int),0)) (hp:part=3)
  (wd:Int) (hwd:(lsH h 2)[at_]? =some wd) (hat:at_< (lsH h 2).length) (hwu:U64 wd) (hgo: ¬(adr wd).2=0) (sz:Nat) (pt er:Int) (hun:unpk wd=((sz:Int),pt,er)) (hsz:sz≤255) (her:er=0) (hlt:(lsH h 2).length<at_+(sz+1)):
  Calls Try.prog 20 #[hpA h src,.int .u64 v] w (FwdPost w (fwd h v)):=by
 have HS:=Lib.hid hs
 have HH:=Lib.hid hh
 clear hs hh
 unfold hpA
 go_enter Try.func20,Try.ntmps20
 subst hp
 go_wp2_with (first
  | (go_at_call 59;go_loud (refine(from_walk _ (w4.heap.size+1) w5.heap.size h x ST6.out.now HH.out 2 at_ (by omega) g q2 EP.out (by omega)).mono ?_;rintro e w7 ⟨rfl,hb7⟩;obtain⟨m,hm⟩: ∃m,(lsH h 2).length-at_=m:=⟨_,rfl⟩;obtain⟨qm,hqm⟩: ∃qm,q2-at_=qm:=⟨_,rfl⟩;rw[hm,hqm];have hm0:0<m:=(by omega);have hm0i:(0:Int) < (m:Int):=(by omega);have hat2:at_+0=at_:=rfl;have st7:=ST6.out.below hb7;have hs7:=hb7.size;simp at hs7;have res7:=st7.res;have y7: ∀j,(w7).cell? ⟨w.heap.size+1,j,none⟩=zeroA[j]? :=fun j=>cell_of_row _ _ _ _ _ _ res7;unfold zeroA at y7;have f7: ∀j,(w7).frozen? ⟨w.heap.size+1,j,none⟩=false:=fun j=>frz_of res7;have nb7:=st7.now.blk;rw[E0.out,E1.out,E2.out,E3.out,E4.out]at nb7;have n7c: ∀j,(w7).cell? ⟨w5.heap.size,j,none⟩=(#[Value.int IntKind.u64 h.base,Value.int IntKind.i64 h.cap,Value.int IntKind.i64 h.to,Value.bool h.cycle,Value.int IntKind.i64 h.scan,Value.slice a0 (lsH h 0).length q0,Value.slice a1 (lsH h 1).length q1,Value.slice (some ⟨g,0,none⟩) (lsH h 2).length q2,Value.slice a3 (lsH h 3).length q3,Value.slice a4 (lsH h 4).length q4]:Array Value)[j]? :=fun j=>cell_of_row _ _ _ _ _ _ nb7;have k7c: ∀j,(w7).cell? ⟨w4.heap.size,j,none⟩=(#[.int .i64 3,.int .i64 (at_:Nat)]:Array Value)[j]? :=fun j=>cell_of_row _ _ _ _ _ _ st7.plc;have m7c: ∀j,(w7).cell? ⟨w1.heap.size,j,none⟩=(#[Value.int IntKind.u64 (layH h).base,Value.int IntKind.i64 (layH h).cap,Value.int IntKind.i64 (layH h).to,Value.int IntKind.i64 (layH h).low,Value.int IntKind.i64 (layH h).high,Value.int IntKind.i64 (layH h).old,Value.int IntKind.i64 (layH h).far]:Array Value)[j]? :=fun j=>cell_of_row _ _ _ _ _ _ st7.lay;have hop7:=st7.now.own.own 2 (by omega);rw[EP.out]at hop7;have c7:=own_cell hop7 hwd;clear nb7 hop7;have ST7:=Lib.hid st7;clear hb7 st7))
  | (go_at_call 57;go_loud (have st7:=ST7.out;refine(adr_calls hwu _).mono ?_;rintro e w8 ⟨rfl,hb8⟩;have st8:=st7.below hb8;have hs8:=hb8.size;have res8:=st8.res;have y8: ∀j,(w8).cell? ⟨w.heap.size+1,j,none⟩=zeroA[j]? :=fun j=>cell_of_row _ _ _ _ _ _ res8;unfold zeroA at y8;have f8: ∀j,(w8).frozen? ⟨w.heap.size+1,j,none⟩=false:=fun j=>frz_of res8;have nb8:=st8.now.blk;rw[E0.out,E1.out,E2.out,E3.out,E4.out]at nb8;have n8c: ∀j,(w8).cell? ⟨w5.heap.size,j,none⟩=(#[Value.int IntKind.u64 h.base,Value.int IntKind.i64 h.cap,Value.int IntKind.i64 h.to,Value.bool h.cycle,Value.int IntKind.i64 h.scan,Value.slice a0 (lsH h 0).length q0,Value.slice a1 (lsH h 1).length q1,Value.slice (some ⟨g,0,none⟩) (lsH h 2).length q2,Value.slice a3 (lsH h 3).length q3,Value.slice a4 (lsH h 4).length q4]:Array Value)[j]? :=fun j=>cell_of_row _ _ _ _ _ _ nb8;have k8c: ∀j,(w8).cell? ⟨w4.heap.size,j,none⟩=(#[.int .i64 3,.int .i64 (at_:Nat)]:Array Value)[j]? :=fun j=>cell_of_row _ _ _ _ _ _ st8.plc;have m8c: ∀j,(w8).cell? ⟨w1.heap.size,j,none⟩=(#[Value.int IntKind.u64 (layH h).base,Value.int IntKind.i64 (layH h).cap,Value.int IntKind.i64 (layH h).to,Value.int IntKind.i64 (layH h).low,Value.int IntKind.i64 (layH h).high,Value.int IntKind.i64 (layH h).old,Value.int IntKind.i64 (layH h).far]:Array Value)[j]? :=fun j=>cell_of_row _ _ _ _ _ _ st8.lay;have hop8:=st8.now.own.own 2 (by omega);rw[EP.out]at hop8;have c8:=own_cell hop8 hwd;clear nb8 hop8;have ST8:=Lib.hid st8;clear hb8 st8 st7))
  | (go_at_call 60;go_loud (refine(unpk_calls hwu _).mono ?_;rintro e w9 ⟨rfl,hb9⟩;rw[hun];dsimp only;have hs9:=hb9.size;have st10:FwSt w (w9.alloc (.cells #[.int .i64 (sz:Nat),.int .i64 pt] 55)) _ _ _ _ _ _ _ h x:=(ST8.out.below hb9).below ((Below.refl _ _).alloc (Nat.le_refl _) _);have res10:=st10.res;have y10: ∀j,((w9.alloc (.cells #[.int .i64 (sz:Nat),.int .i64 pt] 55))).cell? ⟨w.heap.size+1,j,none⟩=zeroA[j]? :=fun j=>cell_of_row _ _ _ _ _ _ res10;unfold zeroA at y10;have f10: ∀j,((w9.alloc (.cells #[.int .i64 (sz:Nat),.int .i64 pt] 55))).frozen? ⟨w.heap.size+1,j,none⟩=false:=fun j=>frz_of res10;have nb10:=st10.now.blk;rw[E0.out,E1.out,E2.out,E3.out,E4.out]at nb10;have n10c: ∀j,((w9.alloc (.cells #[.int .i64 (sz:Nat),.int .i64 pt] 55))).cell? ⟨w5.heap.size,j,none⟩=(#[Value.int IntKind.u64 h.base,Value.int IntKind.i64 h.cap,Value.int IntKind.i64 h.to,Value.bool h.cycle,Value.int IntKind.i64 h.scan,Value.slice a0 (lsH h 0).length q0,Value.slice a1 (lsH h 1).length q1,Value.slice (some ⟨g,0,none⟩) (lsH h 2).length q2,Value.slice a3 (lsH h 3).length q3,Value.slice a4 (lsH h 4).length q4]:Array Value)[j]? :=fun j=>cell_of_row _ _ _ _ _ _ nb10;have k10c: ∀j,((w9.alloc (.cells #[.int .i64 (sz:Nat),.int .i64 pt] 55))).cell? ⟨w4.heap.size,j,none⟩=(#[.int .i64 3,.int .i64 (at_:Nat)]:Array Value)[j]? :=fun j=>cell_of_row _ _ _ _ _ _ st10.plc;have m10c: ∀j,((w9.alloc (.cells #[.int .i64 (sz:Nat),.int .i64 pt] 55))).cell? ⟨w1.heap.size,j,none⟩=(#[Value.int IntKind.u64 (layH h).base,Value.int IntKind.i64 (layH h).cap,Value.int IntKind.i64 (layH h).to,Value.int IntKind.i64 (layH h).low,Value.int IntKind.i64 (layH h).high,Value.int IntKind.i64 (layH h).old,Value.int IntKind.i64 (layH h).far]:Array Value)[j]? :=fun j=>cell_of_row _ _ _ _ _ _ st10.lay;have hop10:=st10.now.own.own 2 (by omega);rw[EP.out]at hop10;have c10:=own_cell hop10 hwd;clear nb10 hop10;have s10c: ∀j,(w9.alloc (.cells #[.int .i64 (sz:Nat),.int .i64 pt] 55)).cell? ⟨w9.heap.size,j,none⟩=(#[.int .i64 (sz:Nat),.int .i64 pt]:Array Value)[j]? :=fun j=>cell_of_row _ _ _ _ _ _ (heap_alloc_new w9 _);have ST10:=Lib.hid st10;have hml:m≤1000000:=(by have:=lsH_len HH.out 2;omega);have hl10:at_+m=(lsH h 2).length:=(by omega);clear hb9 st10))
  | (go_at_call 54;go_loud (refine(Layout_calls (h:=h) (x:=src) (G:=G) (fun c hc=>by have:=hG c hc;simp;omega) (fun j hj=>(HS.out j hj).keep (fun b hb=>by have:=hG b hb;rw[Below.heap_alloc _ _ _ (by simp;omega),Below.heap_alloc _ _ _ (by omega)]) (fun _ h=>h))).mono ?_;rintro e w1 ⟨rfl,hb1⟩;unfold lyA;have z1:=(hb1.block (w.heap.size+1) (by simp)).trans (zero_new w _);have p1:=(hb1.block w.heap.size (by simp;omega)).trans ((Below.heap_alloc (w.alloc (.cells #[Value.int IntKind.u64 h.base,Value.int IntKind.i64 h.cap,Value.int IntKind.i64 h.to,Value.bool h.cycle,Value.int IntKind.i64 h.scan,src 0,src 1,src 2,src 3,src 4] 31)) _ w.heap.size (by simp)).trans (heap_alloc_new w _));have hs1:=hb1.size;simp at hs1;have HB1:=Lib.hid hb1;clear hb1))
  | (go_at_call 55;go_loud (refine(rightL_calls HH.out.lay _).mono ?_;rintro e w2 ⟨rfl,hb2⟩;rw[hr];have z2:=(hb2.block (w.heap.size+1) (by simp;omega)).trans ((Below.heap_alloc w1 _ (w.heap.size+1) (by omega)).trans z1);have p2:=(hb2.block w.heap.size (by simp;omega)).trans ((Below.heap_alloc w1 _ w.heap.size (by omega)).trans p1);have x2: ∀j,w2.cell? ⟨w.heap.size,j,none⟩=(#[Value.int IntKind.u64 h.base,Value.int IntKind.i64 h.cap,Value.int IntKind.i64 h.to,Value.bool h.cycle,Value.int IntKind.i64 h.scan,src 0,src 1,src 2,src 3,src 4]:Array Value)[j]? :=fun j=>cell_of_row _ _ _ _ _ _ p2;have hb02:Below w.heap.size w w2:=((((((Below.refl _ _).alloc (Nat.le_refl _) _).alloc (by simp) _).trans (HB1.out.mono (by simp;omega))).alloc (by omega) _).trans (hb2.mono (by simp;omega)));have hs2:=hb2.size;simp at hs2;have m2:=(hb2.block w1.heap.size (by simp)).trans (heap_alloc_new w1 _);have HB02:=Lib.hid hb02;clear hb2 hb02))
  | (go_at_call 57;go_loud (refine(adr_calls hv _).mono ?_;rintro e w3 ⟨rfl,hb3⟩;have z3:=(hb3.block (w.heap.size+1) (by omega)).trans z2;have p3:=(hb3.block w.heap.size (by omega)).trans p2;have m3:=(hb3.block w1.heap.size (by omega)).trans m2;have l3: ∀j,w3.cell? ⟨w1.heap.size,j,none⟩=(#[Value.int IntKind.u64 (layH h).base,Value.int IntKind.i64 (layH h).cap,Value.int IntKind.i64 (layH h).to,Value.int IntKind.i64 (layH h).low,Value.int IntKind.i64 (layH h).high,Value.int IntKind.i64 (layH h).old,Value.int IntKind.i64 (layH h).far]:Array Value)[j]? :=fun j=>cell_of_row _ _ _ _ _ _ m3;have hs3:=hb3.size;have HB3:=Lib.hid hb3;clear hb3))
  | (go_at_call 58;go_loud (refine(findL_calls HH.out.lay (adr_u hv) _).mono ?_;rintro e w4 ⟨rfl,hb4⟩;rw[hf];dsimp only;have hs4:=hb4.size;have z4: ∀o,(w4.alloc o).heap[w.heap.size+1]? =some (.cells zeroA 31 (0,0)):=fun o=>(Below.heap_alloc w4 o (w.heap.size+1) (by omega)).trans ((hb4.block (w.heap.size+1) (by omega)).trans z3);have p4: ∀o,(w4.alloc o).heap[w.heap.size]? =some (.cells #[Value.int IntKind.u64 h.base,Value.int IntKind.i64 h.cap,Value.int IntKind.i64 h.to,Value.bool h.cycle,Value.int IntKind.i64 h.scan,src 0,src 1,src 2,src 3,src 4] 31 (0,0)):=fun o=>(Below.heap_alloc w4 o w.heap.size (by omega)).trans ((hb4.block w.heap.size (by omega)).trans p3);have x4: ∀o j,(w4.alloc o).cell? ⟨w.heap.size,j,none⟩=(#[Value.int IntKind.u64 h.base,Value.int IntKind.i64 h.cap,Value.int IntKind.i64 h.to,Value.bool h.cycle,Value.int IntKind.i64 h.scan,src 0,src 1,src 2,src 3,src 4]:Array Value)[j]? :=fun o j=>cell_of_row _ _ _ _ _ _ (p4 o);have hb04: ∀o,Below w.heap.size w (w4.alloc o):=fun o=>((HB02.out.trans (HB3.out.mono (by omega))).trans (hb4.mono (by omega))).alloc (by omega) o;have m4: ∀o,(w4.alloc o).heap[w1.heap.size]? =some (.cells #[Value.int IntKind.u64 (layH h).base,Value.int IntKind.i64 (layH h).cap,Value.int IntKind.i64 (layH h).to,Value.int IntKind.i64 (layH h).low,Value.int IntKind.i64 (layH h).high,Value.int IntKind.i64 (layH h).old,Value.int IntKind.i64 (layH h).far] 62 (0,0)):=fun o=>(Below.heap_alloc w4 o w1.heap.size (by omega)).trans ((hb4.block w1.heap.size (by omega)).trans m3);have k4:=heap_alloc_new w4 (.cells #[.int .i64 3,.int .i64 (at_:Nat)] 65);have HB04:=Lib.hid hb04;clear hb4 hb04 z3 p3 m3 l3 z2 p2 x2 m2))
  | (go_at_call 56;go_loud (refine(Own_walk _ G (fun b hb=>by have:=hG b hb;simp;omega) h HH.out src (fun j hj=>(HS.out j hj).keep (fun b hb=>(HB04.out _).block b (hG b hb)) (fun _ h=>h))).mono ?_;rintro e w5 ⟨x,rfl,hb5,ho5⟩;obtain⟨a0,q0,e0⟩:=own_form (ho5.own 0 (by omega));obtain⟨a1,q1,e1⟩:=own_form (ho5.own 1 (by omega));obtain⟨a2,q2,e2⟩:=own_form (ho5.own 2 (by omega));obtain⟨a3,q3,e3⟩:=own_form (ho5.own 3 (by omega));obtain⟨a4,q4,e4⟩:=own_form (ho5.own 4 (by omega));obtain⟨g,hg⟩:=own_addr (ho5.own 2 (by omega)) e2 (by omega);subst hg;unfold hpA;rw[e0,e1,e2,e3,e4];have hs5:=hb5.size;simp at hs5;have hsz4: ∀o,(w4.alloc o).heap.size=w4.heap.size+1:=fun o=>(by simp);rw[hsz4]at ho5;have hN:=now_of_own ho5 (by omega);unfold workO at hN;rw[e0,e1,e2,e3,e4]at hN;have hb05: ∀o,Below w.heap.size w (w5.alloc o):=fun o=>((HB04.out _).trans (hb5.mono (by simp;omega))).alloc (by omega) o;have z6: ∀o,(w5.alloc o).heap[w.heap.size+1]? =some (.cells zeroA 31 (0,0)):=fun o=>(Below.heap_alloc w5 o (w.heap.size+1) (by omega)).trans ((hb5.block (w.heap.size+1) (by simp;omega)).trans (z4 _));have k6: ∀o,(w5.alloc o).heap[w4.heap.size]? =some (.cells #[.int .i64 3,.int .i64 (at_:Nat)] 65 (0,0)):=fun o=>(Below.heap_alloc w5 o w4.heap.size (by omega)).trans ((hb5.block w4.heap.size (by simp)).trans k4);have m6: ∀o,(w5.alloc o).heap[w1.heap.size]? =some (.cells #[Value.int IntKind.u64 (layH h).base,Value.int IntKind.i64 (layH h).cap,Value.int IntKind.i64 (layH h).to,Value.int IntKind.i64 (layH h).low,Value.int IntKind.i64 (layH h).high,Value.int IntKind.i64 (layH h).old,Value.int IntKind.i64 (layH h).far] 62 (0,0)):=fun o=>(Below.heap_alloc w5 o w1.heap.size (by omega)).trans ((hb5.block w1.heap.size (by simp;omega)).trans (m4 _));have k6c: ∀o j,(w5.alloc o).cell? ⟨w4.heap.size,j,none⟩=(#[.int .i64 3,.int .i64 (at_:Nat)]:Array Value)[j]? :=fun o j=>cell_of_row _ _ _ _ _ _ (k6 o);have m6c: ∀o j,(w5.alloc o).cell? ⟨w1.heap.size,j,none⟩=(#[Value.int IntKind.u64 (layH h).base,Value.int IntKind.i64 (layH h).cap,Value.int IntKind.i64 (layH h).to,Value.int IntKind.i64 (layH h).low,Value.int IntKind.i64 (layH h).high,Value.int IntKind.i64 (layH h).old,Value.int IntKind.i64 (layH h).far]:Array Value)[j]? :=fun o j=>cell_of_row _ _ _ _ _ _ (m6 o);have nb:=hN.blk;rw[e0,e1,e2,e3,e4]at nb;have n6c: ∀j,(w5.alloc (.cells #[Value.int IntKind.u64 h.base,Value.int IntKind.i64 h.cap,Value.int IntKind.i64 h.to,Value.bool h.cycle,Value.int IntKind.i64 h.scan,Value.slice a0 (lsH h 0).length q0,Value.slice a1 (lsH h 1).length q1,Value.slice (some ⟨g,0,none⟩) (lsH h 2).length q2,Value.slice a3 (lsH h 3).length q3,Value.slice a4 (lsH h 4).length q4] 100)).cell? ⟨w5.heap.size,j,none⟩=(#[Value.int IntKind.u64 h.base,Value.int IntKind.i64 h.cap,Value.int IntKind.i64 h.to,Value.bool h.cycle,Value.int IntKind.i64 h.scan,Value.slice a0 (lsH h 0).length q0,Value.slice a1 (lsH h 1).length q1,Value.slice (some ⟨g,0,none⟩) (lsH h 2).length q2,Value.slice a3 (lsH h 3).length q3,Value.slice a4 (lsH h 4).length q4]:Array Value)[j]? :=fun j=>cell_of_row _ _ _ _ _ _ nb;have y6: ∀o j,(w5.alloc o).cell? ⟨w.heap.size+1,j,none⟩=zeroA[j]? :=fun o j=>cell_of_row _ _ _ _ _ _ (z6 o);have f6: ∀o j,(w5.alloc o).frozen? ⟨w.heap.size+1,j,none⟩=false:=fun o j=>frz_of (z6 o);unfold zeroA at y6;have st6:FwSt w (w5.alloc (.cells #[Value.int IntKind.u64 h.base,Value.int IntKind.i64 h.cap,Value.int IntKind.i64 h.to,Value.bool h.cycle,Value.int IntKind.i64 h.scan,Value.slice a0 (lsH h 0).length q0,Value.slice a1 (lsH h 1).length q1,Value.slice (some ⟨g,0,none⟩) (lsH h 2).length q2,Value.slice a3 (lsH h 3).length q3,Value.slice a4 (lsH h 4).length q4] 100)) (w.heap.size+1) w1.heap.size w4.heap.size w5.heap.size (w4.heap.size+1) 3 (at_:Nat) h x:=⟨z6 _,m6 _,k6 _,hN,hb05 _,by omega,by omega,by omega,by omega,by simp;omega⟩;have ST6:=Lib.hid st6;have EP:=Lib.hid e2;clear st6;have HB05:=Lib.hid hb05;have HN:=Lib.hid hN;have E0:=Lib.hid e0;have E1:=Lib.hid e1;have E2:=Lib.hid e2;have E3:=Lib.hid e3;have E4:=Lib.hid e4;clear hb05 hN nb e0 e1 e2 e3 e4 ho5 hb5 z4 p4 x4 m4 k4)))
 have hpH:h.old.getD at_ 0=wd:=by show(lsH h 2).getD at_ 0=wd;simp[List.getD,hwd]
 have hpL:h.old.length=(lsH h 2).length:=rfl
 have hfw:fwd h v=(0,Hp.zero,2):=by simp[fwd,fwdC,hr,hv0,h1,hf,-List.getD_eq_getElem?_getD,hpH,hpL,hgo,hun,her,hlt]
 have y:=put10_cells ST10.out.res (.int .u64 0) (.int .i64 0) (.int .i64 0) (.bool false) (.int .i64 0) (.slice none 0 0) (.slice none 0 0) (.slice none 0 0) (.slice none 0 0) (.slice none 0 0)
 rw[hfw]
 refine bodyPost_ret (v:= .tuple #[.int .u64 0,.agg zeroA,.int .i64 2]) ?_ rfl ?_
 ·simp[results,Try.results20,go_sem,y,zeroA]
 ·refine⟨fun _=> .slice none 0 0,?_,?_,zero_rd _ _⟩
  ·simp[hpA,Hp.zero,zeroA]
  ·exact put10_below ST10.out.bel (by omega) _ _ _ _ _ _ _ _ _ _
theorem Forward_mem3(w:World)(G:Nat→Prop)(hG: ∀b,G b→b<w.heap.size)(h:Hp)(hh:h.ok)(src:Nat→Value)(hs: ∀j,j<5→Rd w G (.sl ((lsH h j).map vu)) (src j))(v:Int)(hv:U64 v)
  (hr:rightL (layH h)=true) (hv0: ¬v=0) (h1:(adr v).2=0) (part:Int) (at_:Nat) (hf:findL (layH h) (adr v).1=(part,(at_:Int),0)) (hp:part=3)
  (wd:Int) (hwd:(lsH h 2)[at_]? =some wd) (hat:at_< (lsH h 2).length) (hwu:U64 wd) (hgo: ¬(adr wd).2=0) (sz:Nat) (pt er:Int) (hun:unpk wd=((sz:Int),pt,er)) (hsz:sz≤255) (her:er=0) (hle:at_+(sz+1)≤(lsH h 2).length) (hrm:roomL (layH h) < ((sz+1:Nat):Int)):
  Calls Try.prog 20 #[hpA h src,.int .u64 v] w (FwdPost w (fwd h v)):=by
 have HS:=Lib.hid hs
 have HH:=Lib.hid hh
 clear hs hh
 unfold hpA
 go_enter Try.func20,Try.ntmps20
 subst hp
 go_wp2_with (first
  | (go_at_call 59;go_loud (refine(from_walk _ (w4.heap.size+1) w5.heap.size h x ST6.out.now HH.out 2 at_ (by omega) g q2 EP.out (by omega)).mono ?_;rintro e w7 ⟨rfl,hb7⟩;obtain⟨m,hm⟩: ∃m,(lsH h 2).length-at_=m:=⟨_,rfl⟩;obtain⟨qm,hqm⟩: ∃qm,q2-at_=qm:=⟨_,rfl⟩;rw[hm,hqm];have hm0:0<m:=(by omega);have hm0i:(0:Int) < (m:Int):=(by omega);have hat2:at_+0=at_:=rfl;have st7:=ST6.out.below hb7;have hs7:=hb7.size;simp at hs7;have res7:=st7.res;have y7: ∀j,(w7).cell? ⟨w.heap.size+1,j,none⟩=zeroA[j]? :=fun j=>cell_of_row _ _ _ _ _ _ res7;unfold zeroA at y7;have f7: ∀j,(w7).frozen? ⟨w.heap.size+1,j,none⟩=false:=fun j=>frz_of res7;have nb7:=st7.now.blk;rw[E0.out,E1.out,E2.out,E3.out,E4.out]at nb7;have n7c: ∀j,(w7).cell? ⟨w5.heap.size,j,none⟩=(#[Value.int IntKind.u64 h.base,Value.int IntKind.i64 h.cap,Value.int IntKind.i64 h.to,Value.bool h.cycle,Value.int IntKind.i64 h.scan,Value.slice a0 (lsH h 0).length q0,Value.slice a1 (lsH h 1).length q1,Value.slice (some ⟨g,0,none⟩) (lsH h 2).length q2,Value.slice a3 (lsH h 3).length q3,Value.slice a4 (lsH h 4).length q4]:Array Value)[j]? :=fun j=>cell_of_row _ _ _ _ _ _ nb7;have k7c: ∀j,(w7).cell? ⟨w4.heap.size,j,none⟩=(#[.int .i64 3,.int .i64 (at_:Nat)]:Array Value)[j]? :=fun j=>cell_of_row _ _ _ _ _ _ st7.plc;have m7c: ∀j,(w7).cell? ⟨w1.heap.size,j,none⟩=(#[Value.int IntKind.u64 (layH h).base,Value.int IntKind.i64 (layH h).cap,Value.int IntKind.i64 (layH h).to,Value.int IntKind.i64 (layH h).low,Value.int IntKind.i64 (layH h).high,Value.int IntKind.i64 (layH h).old,Value.int IntKind.i64 (layH h).far]:Array Value)[j]? :=fun j=>cell_of_row _ _ _ _ _ _ st7.lay;have hop7:=st7.now.own.own 2 (by omega);rw[EP.out]at hop7;have c7:=own_cell hop7 hwd;clear nb7 hop7;have ST7:=Lib.hid st7;clear hb7 st7))
  | (go_at_call 57;go_loud (have st7:=ST7.out;refine(adr_calls hwu _).mono ?_;rintro e w8 ⟨rfl,hb8⟩;have st8:=st7.below hb8;have hs8:=hb8.size;have res8:=st8.res;have y8: ∀j,(w8).cell? ⟨w.heap.size+1,j,none⟩=zeroA[j]? :=fun j=>cell_of_row _ _ _ _ _ _ res8;unfold zeroA at y8;have f8: ∀j,(w8).frozen? ⟨w.heap.size+1,j,none⟩=false:=fun j=>frz_of res8;have nb8:=st8.now.blk;rw[E0.out,E1.out,E2.out,E3.out,E4.out]at nb8;have n8c: ∀j,(w8).cell? ⟨w5.heap.size,j,none⟩=(#[Value.int IntKind.u64 h.base,Value.int IntKind.i64 h.cap,Value.int IntKind.i64 h.to,Value.bool h.cycle,Value.int IntKind.i64 h.scan,Value.slice a0 (lsH h 0).length q0,Value.slice a1 (lsH h 1).length q1,Value.slice (some ⟨g,0,none⟩) (lsH h 2).length q2,Value.slice a3 (lsH h 3).length q3,Value.slice a4 (lsH h 4).length q4]:Array Value)[j]? :=fun j=>cell_of_row _ _ _ _ _ _ nb8;have k8c: ∀j,(w8).cell? ⟨w4.heap.size,j,none⟩=(#[.int .i64 3,.int .i64 (at_:Nat)]:Array Value)[j]? :=fun j=>cell_of_row _ _ _ _ _ _ st8.plc;have m8c: ∀j,(w8).cell? ⟨w1.heap.size,j,none⟩=(#[Value.int IntKind.u64 (layH h).base,Value.int IntKind.i64 (layH h).cap,Value.int IntKind.i64 (layH h).to,Value.int IntKind.i64 (layH h).low,Value.int IntKind.i64 (layH h).high,Value.int IntKind.i64 (layH h).old,Value.int IntKind.i64 (layH h).far]:Array Value)[j]? :=fun j=>cell_of_row _ _ _ _ _ _ st8.lay;have hop8:=st8.now.own.own 2 (by omega);rw[EP.out]at hop8;have c8:=own_cell hop8 hwd;clear nb8 hop8;have ST8:=Lib.hid st8;clear hb8 st8 st7))
  | (go_at_call 60;go_loud (refine(unpk_calls hwu _).mono ?_;rintro e w9 ⟨rfl,hb9⟩;rw[hun];dsimp only;have hs9:=hb9.size;have st10:FwSt w (w9.alloc (.cells #[.int .i64 (sz:Nat),.int .i64 pt] 55)) _ _ _ _ _ _ _ h x:=(ST8.out.below hb9).below ((Below.refl _ _).alloc (Nat.le_refl _) _);have res10:=st10.res;have y10: ∀j,((w9.alloc (.cells #[.int .i64 (sz:Nat),.int .i64 pt] 55))).cell? ⟨w.heap.size+1,j,none⟩=zeroA[j]? :=fun j=>cell_of_row _ _ _ _ _ _ res10;unfold zeroA at y10;have f10: ∀j,((w9.alloc (.cells #[.int .i64 (sz:Nat),.int .i64 pt] 55))).frozen? ⟨w.heap.size+1,j,none⟩=false:=fun j=>frz_of res10;have nb10:=st10.now.blk;rw[E0.out,E1.out,E2.out,E3.out,E4.out]at nb10;have n10c: ∀j,((w9.alloc (.cells #[.int .i64 (sz:Nat),.int .i64 pt] 55))).cell? ⟨w5.heap.size,j,none⟩=(#[Value.int IntKind.u64 h.base,Value.int IntKind.i64 h.cap,Value.int IntKind.i64 h.to,Value.bool h.cycle,Value.int IntKind.i64 h.scan,Value.slice a0 (lsH h 0).length q0,Value.slice a1 (lsH h 1).length q1,Value.slice (some ⟨g,0,none⟩) (lsH h 2).length q2,Value.slice a3 (lsH h 3).length q3,Value.slice a4 (lsH h 4).length q4]:Array Value)[j]? :=fun j=>cell_of_row _ _ _ _ _ _ nb10;have k10c: ∀j,((w9.alloc (.cells #[.int .i64 (sz:Nat),.int .i64 pt] 55))).cell? ⟨w4.heap.size,j,none⟩=(#[.int .i64 3,.int .i64 (at_:Nat)]:Array Value)[j]? :=fun j=>cell_of_row _ _ _ _ _ _ st10.plc;have m10c: ∀j,((w9.alloc (.cells #[.int .i64 (sz:Nat),.int .i64 pt] 55))).cell? ⟨w1.heap.size,j,none⟩=(#[Value.int IntKind.u64 (layH h).base,Value.int IntKind.i64 (layH h).cap,Value.int IntKind.i64 (layH h).to,Value.int IntKind.i64 (layH h).low,Value.int IntKind.i64 (layH h).high,Value.int IntKind.i64 (layH h).old,Value.int IntKind.i64 (layH h).far]:Array Value)[j]? :=fun j=>cell_of_row _ _ _ _ _ _ st10.lay;have hop10:=st10.now.own.own 2 (by omega);rw[EP.out]at hop10;have c10:=own_cell hop10 hwd;clear nb10 hop10;have s10c: ∀j,(w9.alloc (.cells #[.int .i64 (sz:Nat),.int .i64 pt] 55)).cell? ⟨w9.heap.size,j,none⟩=(#[.int .i64 (sz:Nat),.int .i64 pt]:Array Value)[j]? :=fun j=>cell_of_row _ _ _ _ _ _ (heap_alloc_new w9 _);have ST10:=Lib.hid st10;have hml:m≤1000000:=(by have:=lsH_len HH.out 2;omega);have hl10:at_+m=(lsH h 2).length:=(by omega);clear hb9 st10))
  | (go_at_call 54;go_loud (refine(Layout_calls (h:=h) (x:=src) (G:=G) (fun c hc=>by have:=hG c hc;simp;omega) (fun j hj=>(HS.out j hj).keep (fun b hb=>by have:=hG b hb;rw[Below.heap_alloc _ _ _ (by simp;omega),Below.heap_alloc _ _ _ (by omega)]) (fun _ h=>h))).mono ?_;rintro e w1 ⟨rfl,hb1⟩;unfold lyA;have z1:=(hb1.block (w.heap.size+1) (by simp)).trans (zero_new w _);have p1:=(hb1.block w.heap.size (by simp;omega)).trans ((Below.heap_alloc (w.alloc (.cells #[Value.int IntKind.u64 h.base,Value.int IntKind.i64 h.cap,Value.int IntKind.i64 h.to,Value.bool h.cycle,Value.int IntKind.i64 h.scan,src 0,src 1,src 2,src 3,src 4] 31)) _ w.heap.size (by simp)).trans (heap_alloc_new w _));have hs1:=hb1.size;simp at hs1;have HB1:=Lib.hid hb1;clear hb1))
  | (go_at_call 55;go_loud (refine(rightL_calls HH.out.lay _).mono ?_;rintro e w2 ⟨rfl,hb2⟩;rw[hr];have z2:=(hb2.block (w.heap.size+1) (by simp;omega)).trans ((Below.heap_alloc w1 _ (w.heap.size+1) (by omega)).trans z1);have p2:=(hb2.block w.heap.size (by simp;omega)).trans ((Below.heap_alloc w1 _ w.heap.size (by omega)).trans p1);have x2: ∀j,w2.cell? ⟨w.heap.size,j,none⟩=(#[Value.int IntKind.u64 h.base,Value.int IntKind.i64 h.cap,Value.int IntKind.i64 h.to,Value.bool h.cycle,Value.int IntKind.i64 h.scan,src 0,src 1,src 2,src 3,src 4]:Array Value)[j]? :=fun j=>cell_of_row _ _ _ _ _ _ p2;have hb02:Below w.heap.size w w2:=((((((Below.refl _ _).alloc (Nat.le_refl _) _).alloc (by simp) _).trans (HB1.out.mono (by simp;omega))).alloc (by omega) _).trans (hb2.mono (by simp;omega)));have hs2:=hb2.size;simp at hs2;have m2:=(hb2.block w1.heap.size (by simp)).trans (heap_alloc_new w1 _);have HB02:=Lib.hid hb02;clear hb2 hb02))
  | (go_at_call 57;go_loud (refine(adr_calls hv _).mono ?_;rintro e w3 ⟨rfl,hb3⟩;have z3:=(hb3.block (w.heap.size+1) (by omega)).trans z2;have p3:=(hb3.block w.heap.size (by omega)).trans p2;have m3:=(hb3.block w1.heap.size (by omega)).trans m2;have l3: ∀j,w3.cell? ⟨w1.heap.size,j,none⟩=(#[Value.int IntKind.u64 (layH h).base,Value.int IntKind.i64 (layH h).cap,Value.int IntKind.i64 (layH h).to,Value.int IntKind.i64 (layH h).low,Value.int IntKind.i64 (layH h).high,Value.int IntKind.i64 (layH h).old,Value.int IntKind.i64 (layH h).far]:Array Value)[j]? :=fun j=>cell_of_row _ _ _ _ _ _ m3;have hs3:=hb3.size;have HB3:=Lib.hid hb3;clear hb3))
  | (go_at_call 58;go_loud (refine(findL_calls HH.out.lay (adr_u hv) _).mono ?_;rintro e w4 ⟨rfl,hb4⟩;rw[hf];dsimp only;have hs4:=hb4.size;have z4: ∀o,(w4.alloc o).heap[w.heap.size+1]? =some (.cells zeroA 31 (0,0)):=fun o=>(Below.heap_alloc w4 o (w.heap.size+1) (by omega)).trans ((hb4.block (w.heap.size+1) (by omega)).trans z3);have p4: ∀o,(w4.alloc o).heap[w.heap.size]? =some (.cells #[Value.int IntKind.u64 h.base,Value.int IntKind.i64 h.cap,Value.int IntKind.i64 h.to,Value.bool h.cycle,Value.int IntKind.i64 h.scan,src 0,src 1,src 2,src 3,src 4] 31 (0,0)):=fun o=>(Below.heap_alloc w4 o w.heap.size (by omega)).trans ((hb4.block w.heap.size (by omega)).trans p3);have x4: ∀o j,(w4.alloc o).cell? ⟨w.heap.size,j,none⟩=(#[Value.int IntKind.u64 h.base,Value.int IntKind.i64 h.cap,Value.int IntKind.i64 h.to,Value.bool h.cycle,Value.int IntKind.i64 h.scan,src 0,src 1,src 2,src 3,src 4]:Array Value)[j]? :=fun o j=>cell_of_row _ _ _ _ _ _ (p4 o);have hb04: ∀o,Below w.heap.size w (w4.alloc o):=fun o=>((HB02.out.trans (HB3.out.mono (by omega))).trans (hb4.mono (by omega))).alloc (by omega) o;have m4: ∀o,(w4.alloc o).heap[w1.heap.size]? =some (.cells #[Value.int IntKind.u64 (layH h).base,Value.int IntKind.i64 (layH h).cap,Value.int IntKind.i64 (layH h).to,Value.int IntKind.i64 (layH h).low,Value.int IntKind.i64 (layH h).high,Value.int IntKind.i64 (layH h).old,Value.int IntKind.i64 (layH h).far] 62 (0,0)):=fun o=>(Below.heap_alloc w4 o w1.heap.size (by omega)).trans ((hb4.block w1.heap.size (by omega)).trans m3);have k4:=heap_alloc_new w4 (.cells #[.int .i64 3,.int .i64 (at_:Nat)] 65);have HB04:=Lib.hid hb04;clear hb4 hb04 z3 p3 m3 l3 z2 p2 x2 m2))
  | (go_at_call 56;go_loud (refine(Own_walk _ G (fun b hb=>by have:=hG b hb;simp;omega) h HH.out src (fun j hj=>(HS.out j hj).keep (fun b hb=>(HB04.out _).block b (hG b hb)) (fun _ h=>h))).mono ?_;rintro e w5 ⟨x,rfl,hb5,ho5⟩;obtain⟨a0,q0,e0⟩:=own_form (ho5.own 0 (by omega));obtain⟨a1,q1,e1⟩:=own_form (ho5.own 1 (by omega));obtain⟨a2,q2,e2⟩:=own_form (ho5.own 2 (by omega));obtain⟨a3,q3,e3⟩:=own_form (ho5.own 3 (by omega));obtain⟨a4,q4,e4⟩:=own_form (ho5.own 4 (by omega));obtain⟨g,hg⟩:=own_addr (ho5.own 2 (by omega)) e2 (by omega);subst hg;unfold hpA;rw[e0,e1,e2,e3,e4];have hs5:=hb5.size;simp at hs5;have hsz4: ∀o,(w4.alloc o).heap.size=w4.heap.size+1:=fun o=>(by simp);rw[hsz4]at ho5;have hN:=now_of_own ho5 (by omega);unfold workO at hN;rw[e0,e1,e2,e3,e4]at hN;have hb05: ∀o,Below w.heap.size w (w5.alloc o):=fun o=>((HB04.out _).trans (hb5.mono (by simp;omega))).alloc (by omega) o;have z6: ∀o,(w5.alloc o).heap[w.heap.size+1]? =some (.cells zeroA 31 (0,0)):=fun o=>(Below.heap_alloc w5 o (w.heap.size+1) (by omega)).trans ((hb5.block (w.heap.size+1) (by simp;omega)).trans (z4 _));have k6: ∀o,(w5.alloc o).heap[w4.heap.size]? =some (.cells #[.int .i64 3,.int .i64 (at_:Nat)] 65 (0,0)):=fun o=>(Below.heap_alloc w5 o w4.heap.size (by omega)).trans ((hb5.block w4.heap.size (by simp)).trans k4);have m6: ∀o,(w5.alloc o).heap[w1.heap.size]? =some (.cells #[Value.int IntKind.u64 (layH h).base,Value.int IntKind.i64 (layH h).cap,Value.int IntKind.i64 (layH h).to,Value.int IntKind.i64 (layH h).low,Value.int IntKind.i64 (layH h).high,Value.int IntKind.i64 (layH h).old,Value.int IntKind.i64 (layH h).far] 62 (0,0)):=fun o=>(Below.heap_alloc w5 o w1.heap.size (by omega)).trans ((hb5.block w1.heap.size (by simp;omega)).trans (m4 _));have k6c: ∀o j,(w5.alloc o).cell? ⟨w4.heap.size,j,none⟩=(#[.int .i64 3,.int .i64 (at_:Nat)]:Array Value)[j]? :=fun o j=>cell_of_row _ _ _ _ _ _ (k6 o);have m6c: ∀o j,(w5.alloc o).cell? ⟨w1.heap.size,j,none⟩=(#[Value.int IntKind.u64 (layH h).base,Value.int IntKind.i64 (layH h).cap,Value.int IntKind.i64 (layH h).to,Value.int IntKind.i64 (layH h).low,Value.int IntKind.i64 (layH h).high,Value.int IntKind.i64 (layH h).old,Value.int IntKind.i64 (layH h).far]:Array Value)[j]? :=fun o j=>cell_of_row _ _ _ _ _ _ (m6 o);have nb:=hN.blk;rw[e0,e1,e2,e3,e4]at nb;have n6c: ∀j,(w5.alloc (.cells #[Value.int IntKind.u64 h.base,Value.int IntKind.i64 h.cap,Value.int IntKind.i64 h.to,Value.bool h.cycle,Value.int IntKind.i64 h.scan,Value.slice a0 (lsH h 0).length q0,Value.slice a1 (lsH h 1).length q1,Value.slice (some ⟨g,0,none⟩) (lsH h 2).length q2,Value.slice a3 (lsH h 3).length q3,Value.slice a4 (lsH h 4).length q4] 100)).cell? ⟨w5.heap.size,j,none⟩=(#[Value.int IntKind.u64 h.base,Value.int IntKind.i64 h.cap,Value.int IntKind.i64 h.to,Value.bool h.cycle,Value.int IntKind.i64 h.scan,Value.slice a0 (lsH h 0).length q0,Value.slice a1 (lsH h 1).length q1,Value.slice (some ⟨g,0,none⟩) (lsH h 2).length q2,Value.slice a3 (lsH h 3).length q3,Value.slice a4 (lsH h 4).length q4]:Array Value)[j]? :=fun j=>cell_of_row _ _ _ _ _ _ nb;have y6: ∀o j,(w5.alloc o).cell? ⟨w.heap.size+1,j,none⟩=zeroA[j]? :=fun o j=>cell_of_row _ _ _ _ _ _ (z6 o);have f6: ∀o j,(w5.alloc o).frozen? ⟨w.heap.size+1,j,none⟩=false:=fun o j=>frz_of (z6 o);unfold zeroA at y6;have st6:FwSt w (w5.alloc (.cells #[Value.int IntKind.u64 h.base,Value.int IntKind.i64 h.cap,Value.int IntKind.i64 h.to,Value.bool h.cycle,Value.int IntKind.i64 h.scan,Value.slice a0 (lsH h 0).length q0,Value.slice a1 (lsH h 1).length q1,Value.slice (some ⟨g,0,none⟩) (lsH h 2).length q2,Value.slice a3 (lsH h 3).length q3,Value.slice a4 (lsH h 4).length q4] 100)) (w.heap.size+1) w1.heap.size w4.heap.size w5.heap.size (w4.heap.size+1) 3 (at_:Nat) h x:=⟨z6 _,m6 _,k6 _,hN,hb05 _,by omega,by omega,by omega,by omega,by simp;omega⟩;have ST6:=Lib.hid st6;have EP:=Lib.hid e2;clear st6;have HB05:=Lib.hid hb05;have HN:=Lib.hid hN;have E0:=Lib.hid e0;have E1:=Lib.hid e1;have E2:=Lib.hid e2;have E3:=Lib.hid e3;have E4:=Lib.hid e4;clear hb05 hN nb e0 e1 e2 e3 e4 ho5 hb5 z4 p4 x4 m4 k4)))
 obtain⟨sm,hsm⟩: ∃sm:Nat,sz+1=sm:=⟨_,rfl⟩
 have hwr:IntKind.i64.wrap ((sz:Int)+1)=(sm:Int):=by rw[wrap_i ((sz:Int)+1) (by omega) (by omega)];omega
 have hrm2:roomL (layH h) < (sm:Int):=by omega
 have HSM:=Lib.hid hsm
 have HRM:=Lib.hid hrm
 have HLE:=Lib.hid hle
 clear hsm hrm hle
 have hbs:w9.heap.size< ((w9.alloc (.cells #[.int .i64 (sz:Nat),.int .i64 pt] 55))).heap.size:=by simp
 clear m7c m8c k10c k7c k8c y7 y8 f7 f8 n7c n8c c7 c8
 generalize (w9.alloc (.cells #[.int .i64 (sz:Nat),.int .i64 pt] 55))=w10 at*
 have S10:(fun w'=>w'.cell? ⟨w1.heap.size,0,none⟩=some (.int .u64 (layH h).base)∧w'.cell? ⟨w1.heap.size,1,none⟩=some (.int .i64 (layH h).cap)∧w'.cell? ⟨w1.heap.size,2,none⟩=some (.int .i64 (layH h).to)∧w'.cell? ⟨w1.heap.size,3,none⟩=some (.int .i64 (layH h).low)∧w'.cell? ⟨w1.heap.size,4,none⟩=some (.int .i64 (layH h).high)∧w'.cell? ⟨w1.heap.size,5,none⟩=some (.int .i64 (layH h).old)∧w'.cell? ⟨w1.heap.size,6,none⟩=some (.int .i64 (layH h).far)∧w'.cell? ⟨w9.heap.size,0,none⟩=some (.int .i64 (sz:Nat))∧FwSt w w' (w.heap.size+1) w1.heap.size w4.heap.size w5.heap.size (w4.heap.size+1) 3 (at_:Nat) h x∧w9.heap.size<w'.heap.size) w10.drew:=⟨m10c 0,m10c 1,m10c 2,m10c 3,m10c 4,m10c 5,m10c 6,s10c 0,ST10.out.drew,hbs⟩
 have SBel: ∀(u u':World),(fun w'=>w'.cell? ⟨w1.heap.size,0,none⟩=some (.int .u64 (layH h).base)∧w'.cell? ⟨w1.heap.size,1,none⟩=some (.int .i64 (layH h).cap)∧w'.cell? ⟨w1.heap.size,2,none⟩=some (.int .i64 (layH h).to)∧w'.cell? ⟨w1.heap.size,3,none⟩=some (.int .i64 (layH h).low)∧w'.cell? ⟨w1.heap.size,4,none⟩=some (.int .i64 (layH h).high)∧w'.cell? ⟨w1.heap.size,5,none⟩=some (.int .i64 (layH h).old)∧w'.cell? ⟨w1.heap.size,6,none⟩=some (.int .i64 (layH h).far)∧w'.cell? ⟨w9.heap.size,0,none⟩=some (.int .i64 (sz:Nat))∧FwSt w w' (w.heap.size+1) w1.heap.size w4.heap.size w5.heap.size (w4.heap.size+1) 3 (at_:Nat) h x∧w9.heap.size<w'.heap.size) u→Below u.heap.size u u'→(fun w'=>w'.cell? ⟨w1.heap.size,0,none⟩=some (.int .u64 (layH h).base)∧w'.cell? ⟨w1.heap.size,1,none⟩=some (.int .i64 (layH h).cap)∧w'.cell? ⟨w1.heap.size,2,none⟩=some (.int .i64 (layH h).to)∧w'.cell? ⟨w1.heap.size,3,none⟩=some (.int .i64 (layH h).low)∧w'.cell? ⟨w1.heap.size,4,none⟩=some (.int .i64 (layH h).high)∧w'.cell? ⟨w1.heap.size,5,none⟩=some (.int .i64 (layH h).old)∧w'.cell? ⟨w1.heap.size,6,none⟩=some (.int .i64 (layH h).far)∧w'.cell? ⟨w9.heap.size,0,none⟩=some (.int .i64 (sz:Nat))∧FwSt w w' (w.heap.size+1) w1.heap.size w4.heap.size w5.heap.size (w4.heap.size+1) 3 (at_:Nat) h x∧w9.heap.size<w'.heap.size) u':=by
  rintro u u' ⟨c0,c1,c2,c3,c4,c5,c6,c7,st,hs⟩ hb
  have hl:=st.lbB
  have hz:=st.sz
  exact⟨(hb.cell (by show w1.heap.size<u.heap.size;omega)).trans c0,(hb.cell (by show w1.heap.size<u.heap.size;omega)).trans c1,(hb.cell (by show w1.heap.size<u.heap.size;omega)).trans c2,(hb.cell (by show w1.heap.size<u.heap.size;omega)).trans c3,(hb.cell (by show w1.heap.size<u.heap.size;omega)).trans c4,(hb.cell (by show w1.heap.size<u.heap.size;omega)).trans c5,(hb.cell (by show w1.heap.size<u.heap.size;omega)).trans c6,(hb.cell hs).trans c7,st.below hb,by have:=hb.size;omega⟩
 go_region_held3 (fun w'=>w'.cell? ⟨w1.heap.size,0,none⟩=some (.int .u64 (layH h).base)∧w'.cell? ⟨w1.heap.size,1,none⟩=some (.int .i64 (layH h).cap)∧w'.cell? ⟨w1.heap.size,2,none⟩=some (.int .i64 (layH h).to)∧w'.cell? ⟨w1.heap.size,3,none⟩=some (.int .i64 (layH h).low)∧w'.cell? ⟨w1.heap.size,4,none⟩=some (.int .i64 (layH h).high)∧w'.cell? ⟨w1.heap.size,5,none⟩=some (.int .i64 (layH h).old)∧w'.cell? ⟨w1.heap.size,6,none⟩=some (.int .i64 (layH h).far)∧w'.cell? ⟨w9.heap.size,0,none⟩=some (.int .i64 (sz:Nat))∧FwSt w w' (w.heap.size+1) w1.heap.size w4.heap.size w5.heap.size (w4.heap.size+1) 3 (at_:Nat) h x∧w9.heap.size<w'.heap.size) (first|exact S10|assumption)
  (first| (go_at_call 61;refine(roomL_calls HH.out.lay _).mono ?_;rintro e w11 ⟨rfl,hb11⟩;have S11:=SBel _ _ S10 hb11))
 obtain⟨-,-,-,-,-,-,-,c11,st11,hs11⟩:=S11
 clear S10 SBel s10c y10 f10 n10c m10c hb11 hbs
 rename_i hHeld
 clear hHeld
 have res11:=st11.res
 have y11: ∀j,(w11).cell? ⟨w.heap.size+1,j,none⟩=zeroA[j]? :=fun j=>cell_of_row _ _ _ _ _ _ res11
 unfold zeroA at y11
 have f11: ∀j,(w11).frozen? ⟨w.heap.size+1,j,none⟩=false:=fun j=>frz_of res11
 have nb11:=st11.now.blk
 rw[E0.out,E1.out,E2.out,E3.out,E4.out]at nb11
 have n11c: ∀j,(w11).cell? ⟨w5.heap.size,j,none⟩=(#[Value.int IntKind.u64 h.base,Value.int IntKind.i64 h.cap,Value.int IntKind.i64 h.to,Value.bool h.cycle,Value.int IntKind.i64 h.scan,Value.slice a0 (lsH h 0).length q0,Value.slice a1 (lsH h 1).length q1,Value.slice (some ⟨g,0,none⟩) (lsH h 2).length q2,Value.slice a3 (lsH h 3).length q3,Value.slice a4 (lsH h 4).length q4]:Array Value)[j]? :=fun j=>cell_of_row _ _ _ _ _ _ nb11
 have k11c: ∀j,(w11).cell? ⟨w4.heap.size,j,none⟩=(#[.int .i64 3,.int .i64 (at_:Nat)]:Array Value)[j]? :=fun j=>cell_of_row _ _ _ _ _ _ st11.plc
 have m11c: ∀j,(w11).cell? ⟨w1.heap.size,j,none⟩=(#[Value.int IntKind.u64 (layH h).base,Value.int IntKind.i64 (layH h).cap,Value.int IntKind.i64 (layH h).to,Value.int IntKind.i64 (layH h).low,Value.int IntKind.i64 (layH h).high,Value.int IntKind.i64 (layH h).old,Value.int IntKind.i64 (layH h).far]:Array Value)[j]? :=fun j=>cell_of_row _ _ _ _ _ _ st11.lay
 have hop11:=st11.now.own.own 2 (by omega)
 rw[EP.out]at hop11
 have cw11:=own_cell hop11 hwd
 clear nb11 hop11 hm hqm hat2
 have ST11:=Lib.hid st11
 clear st11
 go_wp2
 have hrmz:roomL (layH h) < (sz:Int)+1:=by have:=HSM.out;omega
 have hpH:h.old.getD at_ 0=wd:=by show(lsH h 2).getD at_ 0=wd;simp[List.getD,hwd]
 have hpL:h.old.length=(lsH h 2).length:=rfl
 have hfw:fwd h v=(0,Hp.zero,7):=by simp[fwd,fwdC,hr,hv0,h1,hf,-List.getD_eq_getElem?_getD,hpH,hpL,hgo,hun,her,Nat.not_lt.2 HLE.out,hrmz]
 have y:=put10_cells ST11.out.res (.int .u64 0) (.int .i64 0) (.int .i64 0) (.bool false) (.int .i64 0) (.slice none 0 0) (.slice none 0 0) (.slice none 0 0) (.slice none 0 0) (.slice none 0 0)
 rw[hfw]
 refine bodyPost_ret (v:= .tuple #[.int .u64 0,.agg zeroA,.int .i64 7]) ?_ rfl ?_
 ·simp[results,Try.results20,go_sem,y,zeroA]
 ·refine⟨fun _=> .slice none 0 0,?_,?_,zero_rd _ _⟩
  ·simp[hpA,Hp.zero,zeroA]
  ·exact put10_below ST11.out.bel (by omega) _ _ _ _ _ _ _ _ _ _
theorem Forward_carry3(w:World)(G:Nat→Prop)(hG: ∀b,G b→b<w.heap.size)(h:Hp)(hh:h.ok)(src:Nat→Value)(hs: ∀j,j<5→Rd w G (.sl ((lsH h j).map vu)) (src j))(v:Int)(hv:U64 v)
  (hr:rightL (layH h)=true) (hv0: ¬v=0) (h1:(adr v).2=0) (part:Int) (at_:Nat) (hf:findL (layH h) (adr v).1=(part,(at_:Int),0)) (hp:part=3)
  (wd:Int) (hwd:(lsH h 2)[at_]? =some wd) (hat:at_< (lsH h 2).length) (hwu:U64 wd) (hgo: ¬(adr wd).2=0) (sz:Nat) (pt er:Int) (hun:unpk wd=((sz:Int),pt,er)) (hsz:sz≤255) (her:er=0) (hle:at_+(sz+1)≤(lsH h 2).length) (hrm: ¬roomL (layH h) < ((sz+1:Nat):Int)):
  Calls Try.prog 20 #[hpA h src,.int .u64 v] w (FwdPost w (fwd h v)):=by
 have HS:=Lib.hid hs
 have HH:=Lib.hid hh
 clear hs hh
 unfold hpA
 go_enter Try.func20,Try.ntmps20
 subst hp
 go_wp2_with (first
  | (go_at_call 59;go_loud (refine(from_walk _ (w4.heap.size+1) w5.heap.size h x ST6.out.now HH.out 2 at_ (by omega) g q2 EP.out (by omega)).mono ?_;rintro e w7 ⟨rfl,hb7⟩;obtain⟨m,hm⟩: ∃m,(lsH h 2).length-at_=m:=⟨_,rfl⟩;obtain⟨qm,hqm⟩: ∃qm,q2-at_=qm:=⟨_,rfl⟩;rw[hm,hqm];have hm0:0<m:=(by omega);have hm0i:(0:Int) < (m:Int):=(by omega);have hat2:at_+0=at_:=rfl;have st7:=ST6.out.below hb7;have hs7:=hb7.size;simp at hs7;have res7:=st7.res;have y7: ∀j,(w7).cell? ⟨w.heap.size+1,j,none⟩=zeroA[j]? :=fun j=>cell_of_row _ _ _ _ _ _ res7;unfold zeroA at y7;have f7: ∀j,(w7).frozen? ⟨w.heap.size+1,j,none⟩=false:=fun j=>frz_of res7;have nb7:=st7.now.blk;rw[E0.out,E1.out,E2.out,E3.out,E4.out]at nb7;have n7c: ∀j,(w7).cell? ⟨w5.heap.size,j,none⟩=(#[Value.int IntKind.u64 h.base,Value.int IntKind.i64 h.cap,Value.int IntKind.i64 h.to,Value.bool h.cycle,Value.int IntKind.i64 h.scan,Value.slice a0 (lsH h 0).length q0,Value.slice a1 (lsH h 1).length q1,Value.slice (some ⟨g,0,none⟩) (lsH h 2).length q2,Value.slice a3 (lsH h 3).length q3,Value.slice a4 (lsH h 4).length q4]:Array Value)[j]? :=fun j=>cell_of_row _ _ _ _ _ _ nb7;have k7c: ∀j,(w7).cell? ⟨w4.heap.size,j,none⟩=(#[.int .i64 3,.int .i64 (at_:Nat)]:Array Value)[j]? :=fun j=>cell_of_row _ _ _ _ _ _ st7.plc;have m7c: ∀j,(w7).cell? ⟨w1.heap.size,j,none⟩=(#[Value.int IntKind.u64 (layH h).base,Value.int IntKind.i64 (layH h).cap,Value.int IntKind.i64 (layH h).to,Value.int IntKind.i64 (layH h).low,Value.int IntKind.i64 (layH h).high,Value.int IntKind.i64 (layH h).old,Value.int IntKind.i64 (layH h).far]:Array Value)[j]? :=fun j=>cell_of_row _ _ _ _ _ _ st7.lay;have hop7:=st7.now.own.own 2 (by omega);rw[EP.out]at hop7;have c7:=own_cell hop7 hwd;clear nb7 hop7;have ST7:=Lib.hid st7;clear hb7 st7))
  | (go_at_call 57;go_loud (have st7:=ST7.out;refine(adr_calls hwu _).mono ?_;rintro e w8 ⟨rfl,hb8⟩;have st8:=st7.below hb8;have hs8:=hb8.size;have res8:=st8.res;have y8: ∀j,(w8).cell? ⟨w.heap.size+1,j,none⟩=zeroA[j]? :=fun j=>cell_of_row _ _ _ _ _ _ res8;unfold zeroA at y8;have f8: ∀j,(w8).frozen? ⟨w.heap.size+1,j,none⟩=false:=fun j=>frz_of res8;have nb8:=st8.now.blk;rw[E0.out,E1.out,E2.out,E3.out,E4.out]at nb8;have n8c: ∀j,(w8).cell? ⟨w5.heap.size,j,none⟩=(#[Value.int IntKind.u64 h.base,Value.int IntKind.i64 h.cap,Value.int IntKind.i64 h.to,Value.bool h.cycle,Value.int IntKind.i64 h.scan,Value.slice a0 (lsH h 0).length q0,Value.slice a1 (lsH h 1).length q1,Value.slice (some ⟨g,0,none⟩) (lsH h 2).length q2,Value.slice a3 (lsH h 3).length q3,Value.slice a4 (lsH h 4).length q4]:Array Value)[j]? :=fun j=>cell_of_row _ _ _ _ _ _ nb8;have k8c: ∀j,(w8).cell? ⟨w4.heap.size,j,none⟩=(#[.int .i64 3,.int .i64 (at_:Nat)]:Array Value)[j]? :=fun j=>cell_of_row _ _ _ _ _ _ st8.plc;have m8c: ∀j,(w8).cell? ⟨w1.heap.size,j,none⟩=(#[Value.int IntKind.u64 (layH h).base,Value.int IntKind.i64 (layH h).cap,Value.int IntKind.i64 (layH h).to,Value.int IntKind.i64 (layH h).low,Value.int IntKind.i64 (layH h).high,Value.int IntKind.i64 (layH h).old,Value.int IntKind.i64 (layH h).far]:Array Value)[j]? :=fun j=>cell_of_row _ _ _ _ _ _ st8.lay;have hop8:=st8.now.own.own 2 (by omega);rw[EP.out]at hop8;have c8:=own_cell hop8 hwd;clear nb8 hop8;have ST8:=Lib.hid st8;clear hb8 st8 st7))
  | (go_at_call 60;go_loud (refine(unpk_calls hwu _).mono ?_;rintro e w9 ⟨rfl,hb9⟩;rw[hun];dsimp only;have hs9:=hb9.size;have st10:FwSt w (w9.alloc (.cells #[.int .i64 (sz:Nat),.int .i64 pt] 55)) _ _ _ _ _ _ _ h x:=(ST8.out.below hb9).below ((Below.refl _ _).alloc (Nat.le_refl _) _);have res10:=st10.res;have y10: ∀j,((w9.alloc (.cells #[.int .i64 (sz:Nat),.int .i64 pt] 55))).cell? ⟨w.heap.size+1,j,none⟩=zeroA[j]? :=fun j=>cell_of_row _ _ _ _ _ _ res10;unfold zeroA at y10;have f10: ∀j,((w9.alloc (.cells #[.int .i64 (sz:Nat),.int .i64 pt] 55))).frozen? ⟨w.heap.size+1,j,none⟩=false:=fun j=>frz_of res10;have nb10:=st10.now.blk;rw[E0.out,E1.out,E2.out,E3.out,E4.out]at nb10;have n10c: ∀j,((w9.alloc (.cells #[.int .i64 (sz:Nat),.int .i64 pt] 55))).cell? ⟨w5.heap.size,j,none⟩=(#[Value.int IntKind.u64 h.base,Value.int IntKind.i64 h.cap,Value.int IntKind.i64 h.to,Value.bool h.cycle,Value.int IntKind.i64 h.scan,Value.slice a0 (lsH h 0).length q0,Value.slice a1 (lsH h 1).length q1,Value.slice (some ⟨g,0,none⟩) (lsH h 2).length q2,Value.slice a3 (lsH h 3).length q3,Value.slice a4 (lsH h 4).length q4]:Array Value)[j]? :=fun j=>cell_of_row _ _ _ _ _ _ nb10;have k10c: ∀j,((w9.alloc (.cells #[.int .i64 (sz:Nat),.int .i64 pt] 55))).cell? ⟨w4.heap.size,j,none⟩=(#[.int .i64 3,.int .i64 (at_:Nat)]:Array Value)[j]? :=fun j=>cell_of_row _ _ _ _ _ _ st10.plc;have m10c: ∀j,((w9.alloc (.cells #[.int .i64 (sz:Nat),.int .i64 pt] 55))).cell? ⟨w1.heap.size,j,none⟩=(#[Value.int IntKind.u64 (layH h).base,Value.int IntKind.i64 (layH h).cap,Value.int IntKind.i64 (layH h).to,Value.int IntKind.i64 (layH h).low,Value.int IntKind.i64 (layH h).high,Value.int IntKind.i64 (layH h).old,Value.int IntKind.i64 (layH h).far]:Array Value)[j]? :=fun j=>cell_of_row _ _ _ _ _ _ st10.lay;have hop10:=st10.now.own.own 2 (by omega);rw[EP.out]at hop10;have c10:=own_cell hop10 hwd;clear nb10 hop10;have s10c: ∀j,(w9.alloc (.cells #[.int .i64 (sz:Nat),.int .i64 pt] 55)).cell? ⟨w9.heap.size,j,none⟩=(#[.int .i64 (sz:Nat),.int .i64 pt]:Array Value)[j]? :=fun j=>cell_of_row _ _ _ _ _ _ (heap_alloc_new w9 _);have ST10:=Lib.hid st10;have hml:m≤1000000:=(by have:=lsH_len HH.out 2;omega);have hl10:at_+m=(lsH h 2).length:=(by omega);clear hb9 st10))
  | (go_at_call 54;go_loud (refine(Layout_calls (h:=h) (x:=src) (G:=G) (fun c hc=>by have:=hG c hc;simp;omega) (fun j hj=>(HS.out j hj).keep (fun b hb=>by have:=hG b hb;rw[Below.heap_alloc _ _ _ (by simp;omega),Below.heap_alloc _ _ _ (by omega)]) (fun _ h=>h))).mono ?_;rintro e w1 ⟨rfl,hb1⟩;unfold lyA;have z1:=(hb1.block (w.heap.size+1) (by simp)).trans (zero_new w _);have p1:=(hb1.block w.heap.size (by simp;omega)).trans ((Below.heap_alloc (w.alloc (.cells #[Value.int IntKind.u64 h.base,Value.int IntKind.i64 h.cap,Value.int IntKind.i64 h.to,Value.bool h.cycle,Value.int IntKind.i64 h.scan,src 0,src 1,src 2,src 3,src 4] 31)) _ w.heap.size (by simp)).trans (heap_alloc_new w _));have hs1:=hb1.size;simp at hs1;have HB1:=Lib.hid hb1;clear hb1))
  | (go_at_call 55;go_loud (refine(rightL_calls HH.out.lay _).mono ?_;rintro e w2 ⟨rfl,hb2⟩;rw[hr];have z2:=(hb2.block (w.heap.size+1) (by simp;omega)).trans ((Below.heap_alloc w1 _ (w.heap.size+1) (by omega)).trans z1);have p2:=(hb2.block w.heap.size (by simp;omega)).trans ((Below.heap_alloc w1 _ w.heap.size (by omega)).trans p1);have x2: ∀j,w2.cell? ⟨w.heap.size,j,none⟩=(#[Value.int IntKind.u64 h.base,Value.int IntKind.i64 h.cap,Value.int IntKind.i64 h.to,Value.bool h.cycle,Value.int IntKind.i64 h.scan,src 0,src 1,src 2,src 3,src 4]:Array Value)[j]? :=fun j=>cell_of_row _ _ _ _ _ _ p2;have hb02:Below w.heap.size w w2:=((((((Below.refl _ _).alloc (Nat.le_refl _) _).alloc (by simp) _).trans (HB1.out.mono (by simp;omega))).alloc (by omega) _).trans (hb2.mono (by simp;omega)));have hs2:=hb2.size;simp at hs2;have m2:=(hb2.block w1.heap.size (by simp)).trans (heap_alloc_new w1 _);have HB02:=Lib.hid hb02;clear hb2 hb02))
  | (go_at_call 57;go_loud (refine(adr_calls hv _).mono ?_;rintro e w3 ⟨rfl,hb3⟩;have z3:=(hb3.block (w.heap.size+1) (by omega)).trans z2;have p3:=(hb3.block w.heap.size (by omega)).trans p2;have m3:=(hb3.block w1.heap.size (by omega)).trans m2;have l3: ∀j,w3.cell? ⟨w1.heap.size,j,none⟩=(#[Value.int IntKind.u64 (layH h).base,Value.int IntKind.i64 (layH h).cap,Value.int IntKind.i64 (layH h).to,Value.int IntKind.i64 (layH h).low,Value.int IntKind.i64 (layH h).high,Value.int IntKind.i64 (layH h).old,Value.int IntKind.i64 (layH h).far]:Array Value)[j]? :=fun j=>cell_of_row _ _ _ _ _ _ m3;have hs3:=hb3.size;have HB3:=Lib.hid hb3;clear hb3))
  | (go_at_call 58;go_loud (refine(findL_calls HH.out.lay (adr_u hv) _).mono ?_;rintro e w4 ⟨rfl,hb4⟩;rw[hf];dsimp only;have hs4:=hb4.size;have z4: ∀o,(w4.alloc o).heap[w.heap.size+1]? =some (.cells zeroA 31 (0,0)):=fun o=>(Below.heap_alloc w4 o (w.heap.size+1) (by omega)).trans ((hb4.block (w.heap.size+1) (by omega)).trans z3);have p4: ∀o,(w4.alloc o).heap[w.heap.size]? =some (.cells #[Value.int IntKind.u64 h.base,Value.int IntKind.i64 h.cap,Value.int IntKind.i64 h.to,Value.bool h.cycle,Value.int IntKind.i64 h.scan,src 0,src 1,src 2,src 3,src 4] 31 (0,0)):=fun o=>(Below.heap_alloc w4 o w.heap.size (by omega)).trans ((hb4.block w.heap.size (by omega)).trans p3);have x4: ∀o j,(w4.alloc o).cell? ⟨w.heap.size,j,none⟩=(#[Value.int IntKind.u64 h.base,Value.int IntKind.i64 h.cap,Value.int IntKind.i64 h.to,Value.bool h.cycle,Value.int IntKind.i64 h.scan,src 0,src 1,src 2,src 3,src 4]:Array Value)[j]? :=fun o j=>cell_of_row _ _ _ _ _ _ (p4 o);have hb04: ∀o,Below w.heap.size w (w4.alloc o):=fun o=>((HB02.out.trans (HB3.out.mono (by omega))).trans (hb4.mono (by omega))).alloc (by omega) o;have m4: ∀o,(w4.alloc o).heap[w1.heap.size]? =some (.cells #[Value.int IntKind.u64 (layH h).base,Value.int IntKind.i64 (layH h).cap,Value.int IntKind.i64 (layH h).to,Value.int IntKind.i64 (layH h).low,Value.int IntKind.i64 (layH h).high,Value.int IntKind.i64 (layH h).old,Value.int IntKind.i64 (layH h).far] 62 (0,0)):=fun o=>(Below.heap_alloc w4 o w1.heap.size (by omega)).trans ((hb4.block w1.heap.size (by omega)).trans m3);have k4:=heap_alloc_new w4 (.cells #[.int .i64 3,.int .i64 (at_:Nat)] 65);have HB04:=Lib.hid hb04;clear hb4 hb04 z3 p3 m3 l3 z2 p2 x2 m2))
  | (go_at_call 56;go_loud (refine(Own_walk _ G (fun b hb=>by have:=hG b hb;simp;omega) h HH.out src (fun j hj=>(HS.out j hj).keep (fun b hb=>(HB04.out _).block b (hG b hb)) (fun _ h=>h))).mono ?_;rintro e w5 ⟨x,rfl,hb5,ho5⟩;obtain⟨a0,q0,e0⟩:=own_form (ho5.own 0 (by omega));obtain⟨a1,q1,e1⟩:=own_form (ho5.own 1 (by omega));obtain⟨a2,q2,e2⟩:=own_form (ho5.own 2 (by omega));obtain⟨a3,q3,e3⟩:=own_form (ho5.own 3 (by omega));obtain⟨a4,q4,e4⟩:=own_form (ho5.own 4 (by omega));obtain⟨g,hg⟩:=own_addr (ho5.own 2 (by omega)) e2 (by omega);subst hg;unfold hpA;rw[e0,e1,e2,e3,e4];have hs5:=hb5.size;simp at hs5;have hsz4: ∀o,(w4.alloc o).heap.size=w4.heap.size+1:=fun o=>(by simp);rw[hsz4]at ho5;have hN:=now_of_own ho5 (by omega);unfold workO at hN;rw[e0,e1,e2,e3,e4]at hN;have hb05: ∀o,Below w.heap.size w (w5.alloc o):=fun o=>((HB04.out _).trans (hb5.mono (by simp;omega))).alloc (by omega) o;have z6: ∀o,(w5.alloc o).heap[w.heap.size+1]? =some (.cells zeroA 31 (0,0)):=fun o=>(Below.heap_alloc w5 o (w.heap.size+1) (by omega)).trans ((hb5.block (w.heap.size+1) (by simp;omega)).trans (z4 _));have k6: ∀o,(w5.alloc o).heap[w4.heap.size]? =some (.cells #[.int .i64 3,.int .i64 (at_:Nat)] 65 (0,0)):=fun o=>(Below.heap_alloc w5 o w4.heap.size (by omega)).trans ((hb5.block w4.heap.size (by simp)).trans k4);have m6: ∀o,(w5.alloc o).heap[w1.heap.size]? =some (.cells #[Value.int IntKind.u64 (layH h).base,Value.int IntKind.i64 (layH h).cap,Value.int IntKind.i64 (layH h).to,Value.int IntKind.i64 (layH h).low,Value.int IntKind.i64 (layH h).high,Value.int IntKind.i64 (layH h).old,Value.int IntKind.i64 (layH h).far] 62 (0,0)):=fun o=>(Below.heap_alloc w5 o w1.heap.size (by omega)).trans ((hb5.block w1.heap.size (by simp;omega)).trans (m4 _));have k6c: ∀o j,(w5.alloc o).cell? ⟨w4.heap.size,j,none⟩=(#[.int .i64 3,.int .i64 (at_:Nat)]:Array Value)[j]? :=fun o j=>cell_of_row _ _ _ _ _ _ (k6 o);have m6c: ∀o j,(w5.alloc o).cell? ⟨w1.heap.size,j,none⟩=(#[Value.int IntKind.u64 (layH h).base,Value.int IntKind.i64 (layH h).cap,Value.int IntKind.i64 (layH h).to,Value.int IntKind.i64 (layH h).low,Value.int IntKind.i64 (layH h).high,Value.int IntKind.i64 (layH h).old,Value.int IntKind.i64 (layH h).far]:Array Value)[j]? :=fun o j=>cell_of_row _ _ _ _ _ _ (m6 o);have nb:=hN.blk;rw[e0,e1,e2,e3,e4]at nb;have n6c: ∀j,(w5.alloc (.cells #[Value.int IntKind.u64 h.base,Value.int IntKind.i64 h.cap,Value.int IntKind.i64 h.to,Value.bool h.cycle,Value.int IntKind.i64 h.scan,Value.slice a0 (lsH h 0).length q0,Value.slice a1 (lsH h 1).length q1,Value.slice (some ⟨g,0,none⟩) (lsH h 2).length q2,Value.slice a3 (lsH h 3).length q3,Value.slice a4 (lsH h 4).length q4] 100)).cell? ⟨w5.heap.size,j,none⟩=(#[Value.int IntKind.u64 h.base,Value.int IntKind.i64 h.cap,Value.int IntKind.i64 h.to,Value.bool h.cycle,Value.int IntKind.i64 h.scan,Value.slice a0 (lsH h 0).length q0,Value.slice a1 (lsH h 1).length q1,Value.slice (some ⟨g,0,none⟩) (lsH h 2).length q2,Value.slice a3 (lsH h 3).length q3,Value.slice a4 (lsH h 4).length q4]:Array Value)[j]? :=fun j=>cell_of_row _ _ _ _ _ _ nb;have y6: ∀o j,(w5.alloc o).cell? ⟨w.heap.size+1,j,none⟩=zeroA[j]? :=fun o j=>cell_of_row _ _ _ _ _ _ (z6 o);have f6: ∀o j,(w5.alloc o).frozen? ⟨w.heap.size+1,j,none⟩=false:=fun o j=>frz_of (z6 o);unfold zeroA at y6;have st6:FwSt w (w5.alloc (.cells #[Value.int IntKind.u64 h.base,Value.int IntKind.i64 h.cap,Value.int IntKind.i64 h.to,Value.bool h.cycle,Value.int IntKind.i64 h.scan,Value.slice a0 (lsH h 0).length q0,Value.slice a1 (lsH h 1).length q1,Value.slice (some ⟨g,0,none⟩) (lsH h 2).length q2,Value.slice a3 (lsH h 3).length q3,Value.slice a4 (lsH h 4).length q4] 100)) (w.heap.size+1) w1.heap.size w4.heap.size w5.heap.size (w4.heap.size+1) 3 (at_:Nat) h x:=⟨z6 _,m6 _,k6 _,hN,hb05 _,by omega,by omega,by omega,by omega,by simp;omega⟩;have ST6:=Lib.hid st6;have EP:=Lib.hid e2;clear st6;have HB05:=Lib.hid hb05;have HN:=Lib.hid hN;have E0:=Lib.hid e0;have E1:=Lib.hid e1;have E2:=Lib.hid e2;have E3:=Lib.hid e3;have E4:=Lib.hid e4;clear hb05 hN nb e0 e1 e2 e3 e4 ho5 hb5 z4 p4 x4 m4 k4)))
 obtain⟨sm,hsm⟩: ∃sm:Nat,sz+1=sm:=⟨_,rfl⟩
 have hwr:IntKind.i64.wrap ((sz:Int)+1)=(sm:Int):=by rw[wrap_i ((sz:Int)+1) (by omega) (by omega)];omega
 have hrm2: ¬(roomL (layH h) < (sm:Int)):=by omega
 have hopc:=ST10.out.now.own.own 2 (by omega)
 rw[EP.out]at hopc
 have hcap:=own_cap hopc (by omega)
 have hsm1:(sm:Int)≤(qm:Int):=by omega
 have hsm0:(0:Int)≤(sm:Int):=by omega
 clear hopc
 have HSM:=Lib.hid hsm
 have HRM:=Lib.hid hrm
 have HLE:=Lib.hid hle
 clear hsm hrm hle
 have hbs:w9.heap.size< ((w9.alloc (.cells #[.int .i64 (sz:Nat),.int .i64 pt] 55))).heap.size:=by simp
 clear m7c m8c k10c k7c k8c y7 y8 f7 f8 n7c n8c c7 c8
 generalize (w9.alloc (.cells #[.int .i64 (sz:Nat),.int .i64 pt] 55))=w10 at*
 have S10:(fun w'=>w'.cell? ⟨w1.heap.size,0,none⟩=some (.int .u64 (layH h).base)∧w'.cell? ⟨w1.heap.size,1,none⟩=some (.int .i64 (layH h).cap)∧w'.cell? ⟨w1.heap.size,2,none⟩=some (.int .i64 (layH h).to)∧w'.cell? ⟨w1.heap.size,3,none⟩=some (.int .i64 (layH h).low)∧w'.cell? ⟨w1.heap.size,4,none⟩=some (.int .i64 (layH h).high)∧w'.cell? ⟨w1.heap.size,5,none⟩=some (.int .i64 (layH h).old)∧w'.cell? ⟨w1.heap.size,6,none⟩=some (.int .i64 (layH h).far)∧w'.cell? ⟨w9.heap.size,0,none⟩=some (.int .i64 (sz:Nat))∧FwSt w w' (w.heap.size+1) w1.heap.size w4.heap.size w5.heap.size (w4.heap.size+1) 3 (at_:Nat) h x∧w9.heap.size<w'.heap.size) w10.drew:=⟨m10c 0,m10c 1,m10c 2,m10c 3,m10c 4,m10c 5,m10c 6,s10c 0,ST10.out.drew,hbs⟩
 have SBel: ∀(u u':World),(fun w'=>w'.cell? ⟨w1.heap.size,0,none⟩=some (.int .u64 (layH h).base)∧w'.cell? ⟨w1.heap.size,1,none⟩=some (.int .i64 (layH h).cap)∧w'.cell? ⟨w1.heap.size,2,none⟩=some (.int .i64 (layH h).to)∧w'.cell? ⟨w1.heap.size,3,none⟩=some (.int .i64 (layH h).low)∧w'.cell? ⟨w1.heap.size,4,none⟩=some (.int .i64 (layH h).high)∧w'.cell? ⟨w1.heap.size,5,none⟩=some (.int .i64 (layH h).old)∧w'.cell? ⟨w1.heap.size,6,none⟩=some (.int .i64 (layH h).far)∧w'.cell? ⟨w9.heap.size,0,none⟩=some (.int .i64 (sz:Nat))∧FwSt w w' (w.heap.size+1) w1.heap.size w4.heap.size w5.heap.size (w4.heap.size+1) 3 (at_:Nat) h x∧w9.heap.size<w'.heap.size) u→Below u.heap.size u u'→(fun w'=>w'.cell? ⟨w1.heap.size,0,none⟩=some (.int .u64 (layH h).base)∧w'.cell? ⟨w1.heap.size,1,none⟩=some (.int .i64 (layH h).cap)∧w'.cell? ⟨w1.heap.size,2,none⟩=some (.int .i64 (layH h).to)∧w'.cell? ⟨w1.heap.size,3,none⟩=some (.int .i64 (layH h).low)∧w'.cell? ⟨w1.heap.size,4,none⟩=some (.int .i64 (layH h).high)∧w'.cell? ⟨w1.heap.size,5,none⟩=some (.int .i64 (layH h).old)∧w'.cell? ⟨w1.heap.size,6,none⟩=some (.int .i64 (layH h).far)∧w'.cell? ⟨w9.heap.size,0,none⟩=some (.int .i64 (sz:Nat))∧FwSt w w' (w.heap.size+1) w1.heap.size w4.heap.size w5.heap.size (w4.heap.size+1) 3 (at_:Nat) h x∧w9.heap.size<w'.heap.size) u':=by
  rintro u u' ⟨c0,c1,c2,c3,c4,c5,c6,c7,st,hs⟩ hb
  have hl:=st.lbB
  have hz:=st.sz
  exact⟨(hb.cell (by show w1.heap.size<u.heap.size;omega)).trans c0,(hb.cell (by show w1.heap.size<u.heap.size;omega)).trans c1,(hb.cell (by show w1.heap.size<u.heap.size;omega)).trans c2,(hb.cell (by show w1.heap.size<u.heap.size;omega)).trans c3,(hb.cell (by show w1.heap.size<u.heap.size;omega)).trans c4,(hb.cell (by show w1.heap.size<u.heap.size;omega)).trans c5,(hb.cell (by show w1.heap.size<u.heap.size;omega)).trans c6,(hb.cell hs).trans c7,st.below hb,by have:=hb.size;omega⟩
 go_region_held3 (fun w'=>w'.cell? ⟨w1.heap.size,0,none⟩=some (.int .u64 (layH h).base)∧w'.cell? ⟨w1.heap.size,1,none⟩=some (.int .i64 (layH h).cap)∧w'.cell? ⟨w1.heap.size,2,none⟩=some (.int .i64 (layH h).to)∧w'.cell? ⟨w1.heap.size,3,none⟩=some (.int .i64 (layH h).low)∧w'.cell? ⟨w1.heap.size,4,none⟩=some (.int .i64 (layH h).high)∧w'.cell? ⟨w1.heap.size,5,none⟩=some (.int .i64 (layH h).old)∧w'.cell? ⟨w1.heap.size,6,none⟩=some (.int .i64 (layH h).far)∧w'.cell? ⟨w9.heap.size,0,none⟩=some (.int .i64 (sz:Nat))∧FwSt w w' (w.heap.size+1) w1.heap.size w4.heap.size w5.heap.size (w4.heap.size+1) 3 (at_:Nat) h x∧w9.heap.size<w'.heap.size) (first|exact S10|assumption)
  (first| (go_at_call 61;refine(roomL_calls HH.out.lay _).mono ?_;rintro e w11 ⟨rfl,hb11⟩;have S11:=SBel _ _ S10 hb11))
 obtain⟨-,-,-,-,-,-,-,c11,st11,hs11⟩:=S11
 clear S10 SBel s10c y10 f10 n10c m10c hb11 hbs
 rename_i hHeld
 clear hHeld
 have res11:=st11.res
 have y11: ∀j,(w11).cell? ⟨w.heap.size+1,j,none⟩=zeroA[j]? :=fun j=>cell_of_row _ _ _ _ _ _ res11
 unfold zeroA at y11
 have f11: ∀j,(w11).frozen? ⟨w.heap.size+1,j,none⟩=false:=fun j=>frz_of res11
 have nb11:=st11.now.blk
 rw[E0.out,E1.out,E2.out,E3.out,E4.out]at nb11
 have n11c: ∀j,(w11).cell? ⟨w5.heap.size,j,none⟩=(#[Value.int IntKind.u64 h.base,Value.int IntKind.i64 h.cap,Value.int IntKind.i64 h.to,Value.bool h.cycle,Value.int IntKind.i64 h.scan,Value.slice a0 (lsH h 0).length q0,Value.slice a1 (lsH h 1).length q1,Value.slice (some ⟨g,0,none⟩) (lsH h 2).length q2,Value.slice a3 (lsH h 3).length q3,Value.slice a4 (lsH h 4).length q4]:Array Value)[j]? :=fun j=>cell_of_row _ _ _ _ _ _ nb11
 have k11c: ∀j,(w11).cell? ⟨w4.heap.size,j,none⟩=(#[.int .i64 3,.int .i64 (at_:Nat)]:Array Value)[j]? :=fun j=>cell_of_row _ _ _ _ _ _ st11.plc
 have m11c: ∀j,(w11).cell? ⟨w1.heap.size,j,none⟩=(#[Value.int IntKind.u64 (layH h).base,Value.int IntKind.i64 (layH h).cap,Value.int IntKind.i64 (layH h).to,Value.int IntKind.i64 (layH h).low,Value.int IntKind.i64 (layH h).high,Value.int IntKind.i64 (layH h).old,Value.int IntKind.i64 (layH h).far]:Array Value)[j]? :=fun j=>cell_of_row _ _ _ _ _ _ st11.lay
 have hop11:=st11.now.own.own 2 (by omega)
 rw[EP.out]at hop11
 have cw11:=own_cell hop11 hwd
 clear nb11 hop11 hm hqm hat2
 have ST11:=Lib.hid st11
 clear st11
 have hsm:=HSM.out
 have hrm:=HRM.out
 have hle:=HLE.out
 have hpH:h.old.getD at_ 0=wd:=by show(lsH h 2).getD at_ 0=wd;simp[List.getD,hwd]
 have hpL:h.old.length=(lsH h 2).length:=rfl
 have hrmz: ¬roomL (layH h) < (sz:Int)+1:=by omega
 have hfw:fwd h v=(toOf h 3 at_ sm,withH (movedH h 3 at_ sm) 3 ((zr (lsH h 2) at_ sm).set at_ (toOf h 3 at_ sm)),0):=by
  subst hsm
  simp only[fwd,hr,hv0,h1,hf,if_false,if_true,Bool.true_eq_false,ne_eq,not_true_eq_false]
  simp[-List.getD_eq_getElem?_getD,hpH,hgo,hun,her,fwdC,hpL,Nat.not_lt.2 hle,hrmz]
  exact⟨rfl,rfl⟩
 have HC:=Lib.hid (carry_walk w11 (w4.heap.size+1) w5.heap.size h x ST11.out.now ST11.out.sz HH.out 2 at_ sm (by omega) (by omega) (by omega) (by omega) g q2 EP.out (by omega) qm)
 have HFW:=Lib.hid hfw
 clear hsm hrm hle hfw hpH hpL hrmz
 have HRES:=Lib.hid res11
 go_wp2_with (first| (go_at_call 62;go_loud (refine HC.out.mono ?_;rintro e w12 ⟨x',rfl,hb12,hN12⟩;have res12:=(hb12.block _ ST11.out.rbB).trans HRES.out;have hbel:=ST11.out.bel.trans (hb12.mono (by have:=ST11.out.old;have:=ST11.out.rbB;omega));obtain⟨b0,r0,g0⟩:=own_form (hN12.own.own 0 (by omega));obtain⟨b1,r1,g1⟩:=own_form (hN12.own.own 1 (by omega));obtain⟨b2,r2,g2⟩:=own_form (hN12.own.own 2 (by omega));obtain⟨b3,r3,g3⟩:=own_form (hN12.own.own 3 (by omega));obtain⟨b4,r4,g4⟩:=own_form (hN12.own.own 4 (by omega));have nb12:=hN12.blk;have e1:fwd h v=(toOf h 3 at_ sm,_,0):=HFW.out;have e2:toOf h (((2:Nat):Int)+1) at_ sm=toOf h 3 at_ sm:=rfl;rw[e2]at hN12 nb12 g0 g1 g2 g3 g4;rw[e2];generalize hto:toOf h 3 at_ sm=to at*;have e3:withH (movedH h (((2:Nat):Int)+1) at_ sm) (((2:Nat):Int)+1) ((zr (lsH h 2) at_ sm).set at_ to)=withH (movedH h 3 at_ sm) 3 ((zr (lsH h 2) at_ sm).set at_ to):=rfl;rw[e3]at hN12 nb12 g0 g1 g2 g3 g4;generalize withH (movedH h 3 at_ sm) 3 ((zr (lsH h 2) at_ sm).set at_ to)=h' at*;rw[g0,g1,g2,g3,g4]at nb12)))
 have y12: ∀j,w12.cell? ⟨w.heap.size+1,j,none⟩=zeroA[j]? :=fun j=>cell_of_row _ _ _ _ _ _ res12
 unfold zeroA at y12
 have f12: ∀j,w12.frozen? ⟨w.heap.size+1,j,none⟩=false:=fun j=>frz_of res12
 have n12c: ∀j,w12.cell? ⟨w5.heap.size,j,none⟩=(#[Value.int IntKind.u64 h'.base,Value.int IntKind.i64 h'.cap,Value.int IntKind.i64 h'.to,Value.bool h'.cycle,Value.int IntKind.i64 h'.scan,Value.slice b0 (lsH h' 0).length r0,Value.slice b1 (lsH h' 1).length r1,Value.slice b2 (lsH h' 2).length r2,Value.slice b3 (lsH h' 3).length r3,Value.slice b4 (lsH h' 4).length r4]:Array Value)[j]? :=fun j=>cell_of_row _ _ _ _ _ _ nb12
 have hs12:=hbel.size
 have hB12:w4.heap.size+1≤w12.heap.size:=by have:=hb12.size;have:=ST11.out.sz;omega
 have HN12:=Lib.hid hN12
 have HBEL:=Lib.hid hbel
 have RES12:=Lib.hid res12
 have G0:=Lib.hid g0
 have G1:=Lib.hid g1
 have G2:=Lib.hid g2
 have G3:=Lib.hid g3
 have G4:=Lib.hid g4
 clear nb12 hN12 hbel hb12 res12 g0 g1 g2 g3 g4 y11 f11 n11c k11c m11c
 go_region
 all_goals
  go_wp2
  try simp only[Exit.inBlock,Exit.then]
  have y:=put10_cells RES12.out (.int .u64 h'.base) (.int .i64 h'.cap) (.int .i64 h'.to) (.bool h'.cycle) (.int .i64 h'.scan) (.slice b0 (lsH h' 0).length r0) (.slice b1 (lsH h' 1).length r1) (.slice b2 (lsH h' 2).length r2) (.slice b3 (lsH h' 3).length r3) (.slice b4 (lsH h' 4).length r4)
  rw[HFW.out]
  refine bodyPost_ret (v:= .tuple #[.int .u64 to,hpA h' x',.int .i64 0]) ?_ rfl ?_
  ·unfold hpA;rw[G0.out,G1.out,G2.out,G3.out,G4.out];simp[results,Try.results20,go_sem,y]
  ·refine⟨x',rfl,?_,?_⟩
   ·exact(put10_below HBEL.out (by omega) _ _ _ _ _ _ _ _ _ _).drew
   ·intro j hj
    have ho:=HN12.out.own.own j hj
    refine own_rd (owns_block ho ?_) ?_
    ·intro c hc
     have hc1:=(ho.lt c hc).1
     exact put10_otherD (by omega) _ _ _ _ _ _ _ _ _ _
    ·intro c h1 h2
     exact⟨by omega,h2⟩
theorem Forward_form4(w:World)(G:Nat→Prop)(hG: ∀b,G b→b<w.heap.size)(h:Hp)(hh:h.ok)(src:Nat→Value)(hs: ∀j,j<5→Rd w G (.sl ((lsH h j).map vu)) (src j))(v:Int)(hv:U64 v)
  (hr:rightL (layH h)=true) (hv0: ¬v=0) (h1:(adr v).2=0) (part:Int) (at_:Nat) (hf:findL (layH h) (adr v).1=(part,(at_:Int),0)) (hp:part=4)
  (wd:Int) (hwd:(lsH h 3)[at_]? =some wd) (hat:at_< (lsH h 3).length) (hwu:U64 wd) (hgo: ¬(adr wd).2=0) (sz pt er:Int) (hun:unpk wd=(sz,pt,er)) (her: ¬er=0):
  Calls Try.prog 20 #[hpA h src,.int .u64 v] w (FwdPost w (fwd h v)):=by
 have HS:=Lib.hid hs
 have HH:=Lib.hid hh
 clear hs hh
 unfold hpA
 go_enter Try.func20,Try.ntmps20
 subst hp
 go_wp2_with (first
  | (go_at_call 59;go_loud (refine(from_walk _ (w4.heap.size+1) w5.heap.size h x ST6.out.now HH.out 3 at_ (by omega) g q3 EP.out (by omega)).mono ?_;rintro e w7 ⟨rfl,hb7⟩;obtain⟨m,hm⟩: ∃m,(lsH h 3).length-at_=m:=⟨_,rfl⟩;obtain⟨qm,hqm⟩: ∃qm,q3-at_=qm:=⟨_,rfl⟩;rw[hm,hqm];have hm0:0<m:=(by omega);have hm0i:(0:Int) < (m:Int):=(by omega);have hat2:at_+0=at_:=rfl;have st7:=ST6.out.below hb7;have hs7:=hb7.size;simp at hs7;have res7:=st7.res;have y7: ∀j,(w7).cell? ⟨w.heap.size+1,j,none⟩=zeroA[j]? :=fun j=>cell_of_row _ _ _ _ _ _ res7;unfold zeroA at y7;have f7: ∀j,(w7).frozen? ⟨w.heap.size+1,j,none⟩=false:=fun j=>frz_of res7;have nb7:=st7.now.blk;rw[E0.out,E1.out,E2.out,E3.out,E4.out]at nb7;have n7c: ∀j,(w7).cell? ⟨w5.heap.size,j,none⟩=(#[Value.int IntKind.u64 h.base,Value.int IntKind.i64 h.cap,Value.int IntKind.i64 h.to,Value.bool h.cycle,Value.int IntKind.i64 h.scan,Value.slice a0 (lsH h 0).length q0,Value.slice a1 (lsH h 1).length q1,Value.slice a2 (lsH h 2).length q2,Value.slice (some ⟨g,0,none⟩) (lsH h 3).length q3,Value.slice a4 (lsH h 4).length q4]:Array Value)[j]? :=fun j=>cell_of_row _ _ _ _ _ _ nb7;have k7c: ∀j,(w7).cell? ⟨w4.heap.size,j,none⟩=(#[.int .i64 4,.int .i64 (at_:Nat)]:Array Value)[j]? :=fun j=>cell_of_row _ _ _ _ _ _ st7.plc;have m7c: ∀j,(w7).cell? ⟨w1.heap.size,j,none⟩=(#[Value.int IntKind.u64 (layH h).base,Value.int IntKind.i64 (layH h).cap,Value.int IntKind.i64 (layH h).to,Value.int IntKind.i64 (layH h).low,Value.int IntKind.i64 (layH h).high,Value.int IntKind.i64 (layH h).old,Value.int IntKind.i64 (layH h).far]:Array Value)[j]? :=fun j=>cell_of_row _ _ _ _ _ _ st7.lay;have hop7:=st7.now.own.own 3 (by omega);rw[EP.out]at hop7;have c7:=own_cell hop7 hwd;clear nb7 hop7;have ST7:=Lib.hid st7;clear hb7 st7))
  | (go_at_call 57;go_loud (have st7:=ST7.out;refine(adr_calls hwu _).mono ?_;rintro e w8 ⟨rfl,hb8⟩;have st8:=st7.below hb8;have hs8:=hb8.size;have res8:=st8.res;have y8: ∀j,(w8).cell? ⟨w.heap.size+1,j,none⟩=zeroA[j]? :=fun j=>cell_of_row _ _ _ _ _ _ res8;unfold zeroA at y8;have f8: ∀j,(w8).frozen? ⟨w.heap.size+1,j,none⟩=false:=fun j=>frz_of res8;have nb8:=st8.now.blk;rw[E0.out,E1.out,E2.out,E3.out,E4.out]at nb8;have n8c: ∀j,(w8).cell? ⟨w5.heap.size,j,none⟩=(#[Value.int IntKind.u64 h.base,Value.int IntKind.i64 h.cap,Value.int IntKind.i64 h.to,Value.bool h.cycle,Value.int IntKind.i64 h.scan,Value.slice a0 (lsH h 0).length q0,Value.slice a1 (lsH h 1).length q1,Value.slice a2 (lsH h 2).length q2,Value.slice (some ⟨g,0,none⟩) (lsH h 3).length q3,Value.slice a4 (lsH h 4).length q4]:Array Value)[j]? :=fun j=>cell_of_row _ _ _ _ _ _ nb8;have k8c: ∀j,(w8).cell? ⟨w4.heap.size,j,none⟩=(#[.int .i64 4,.int .i64 (at_:Nat)]:Array Value)[j]? :=fun j=>cell_of_row _ _ _ _ _ _ st8.plc;have m8c: ∀j,(w8).cell? ⟨w1.heap.size,j,none⟩=(#[Value.int IntKind.u64 (layH h).base,Value.int IntKind.i64 (layH h).cap,Value.int IntKind.i64 (layH h).to,Value.int IntKind.i64 (layH h).low,Value.int IntKind.i64 (layH h).high,Value.int IntKind.i64 (layH h).old,Value.int IntKind.i64 (layH h).far]:Array Value)[j]? :=fun j=>cell_of_row _ _ _ _ _ _ st8.lay;have hop8:=st8.now.own.own 3 (by omega);rw[EP.out]at hop8;have c8:=own_cell hop8 hwd;clear nb8 hop8;have ST8:=Lib.hid st8;clear hb8 st8 st7))
  | (go_at_call 60;go_loud (refine(unpk_calls hwu _).mono ?_;rintro e w9 ⟨rfl,hb9⟩;rw[hun];dsimp only;have hs9:=hb9.size;have st10:FwSt w (w9.alloc (.cells #[.int .i64 sz,.int .i64 pt] 55)) _ _ _ _ _ _ _ h x:=(ST8.out.below hb9).below ((Below.refl _ _).alloc (Nat.le_refl _) _);have res10:=st10.res;have y10: ∀j,((w9.alloc (.cells #[.int .i64 sz,.int .i64 pt] 55))).cell? ⟨w.heap.size+1,j,none⟩=zeroA[j]? :=fun j=>cell_of_row _ _ _ _ _ _ res10;unfold zeroA at y10;have f10: ∀j,((w9.alloc (.cells #[.int .i64 sz,.int .i64 pt] 55))).frozen? ⟨w.heap.size+1,j,none⟩=false:=fun j=>frz_of res10;have nb10:=st10.now.blk;rw[E0.out,E1.out,E2.out,E3.out,E4.out]at nb10;have n10c: ∀j,((w9.alloc (.cells #[.int .i64 sz,.int .i64 pt] 55))).cell? ⟨w5.heap.size,j,none⟩=(#[Value.int IntKind.u64 h.base,Value.int IntKind.i64 h.cap,Value.int IntKind.i64 h.to,Value.bool h.cycle,Value.int IntKind.i64 h.scan,Value.slice a0 (lsH h 0).length q0,Value.slice a1 (lsH h 1).length q1,Value.slice a2 (lsH h 2).length q2,Value.slice (some ⟨g,0,none⟩) (lsH h 3).length q3,Value.slice a4 (lsH h 4).length q4]:Array Value)[j]? :=fun j=>cell_of_row _ _ _ _ _ _ nb10;have k10c: ∀j,((w9.alloc (.cells #[.int .i64 sz,.int .i64 pt] 55))).cell? ⟨w4.heap.size,j,none⟩=(#[.int .i64 4,.int .i64 (at_:Nat)]:Array Value)[j]? :=fun j=>cell_of_row _ _ _ _ _ _ st10.plc;have m10c: ∀j,((w9.alloc (.cells #[.int .i64 sz,.int .i64 pt] 55))).cell? ⟨w1.heap.size,j,none⟩=(#[Value.int IntKind.u64 (layH h).base,Value.int IntKind.i64 (layH h).cap,Value.int IntKind.i64 (layH h).to,Value.int IntKind.i64 (layH h).low,Value.int IntKind.i64 (layH h).high,Value.int IntKind.i64 (layH h).old,Value.int IntKind.i64 (layH h).far]:Array Value)[j]? :=fun j=>cell_of_row _ _ _ _ _ _ st10.lay;have hop10:=st10.now.own.own 3 (by omega);rw[EP.out]at hop10;have c10:=own_cell hop10 hwd;clear nb10 hop10;have s10c: ∀j,(w9.alloc (.cells #[.int .i64 sz,.int .i64 pt] 55)).cell? ⟨w9.heap.size,j,none⟩=(#[.int .i64 sz,.int .i64 pt]:Array Value)[j]? :=fun j=>cell_of_row _ _ _ _ _ _ (heap_alloc_new w9 _);have ST10:=Lib.hid st10;have hml:m≤1000000:=(by have:=lsH_len HH.out 3;omega);have hl10:at_+m=(lsH h 3).length:=(by omega);clear hb9 st10))
  | (go_at_call 54;go_loud (refine(Layout_calls (h:=h) (x:=src) (G:=G) (fun c hc=>by have:=hG c hc;simp;omega) (fun j hj=>(HS.out j hj).keep (fun b hb=>by have:=hG b hb;rw[Below.heap_alloc _ _ _ (by simp;omega),Below.heap_alloc _ _ _ (by omega)]) (fun _ h=>h))).mono ?_;rintro e w1 ⟨rfl,hb1⟩;unfold lyA;have z1:=(hb1.block (w.heap.size+1) (by simp)).trans (zero_new w _);have p1:=(hb1.block w.heap.size (by simp;omega)).trans ((Below.heap_alloc (w.alloc (.cells #[Value.int IntKind.u64 h.base,Value.int IntKind.i64 h.cap,Value.int IntKind.i64 h.to,Value.bool h.cycle,Value.int IntKind.i64 h.scan,src 0,src 1,src 2,src 3,src 4] 31)) _ w.heap.size (by simp)).trans (heap_alloc_new w _));have hs1:=hb1.size;simp at hs1;have HB1:=Lib.hid hb1;clear hb1))
  | (go_at_call 55;go_loud (refine(rightL_calls HH.out.lay _).mono ?_;rintro e w2 ⟨rfl,hb2⟩;rw[hr];have z2:=(hb2.block (w.heap.size+1) (by simp;omega)).trans ((Below.heap_alloc w1 _ (w.heap.size+1) (by omega)).trans z1);have p2:=(hb2.block w.heap.size (by simp;omega)).trans ((Below.heap_alloc w1 _ w.heap.size (by omega)).trans p1);have x2: ∀j,w2.cell? ⟨w.heap.size,j,none⟩=(#[Value.int IntKind.u64 h.base,Value.int IntKind.i64 h.cap,Value.int IntKind.i64 h.to,Value.bool h.cycle,Value.int IntKind.i64 h.scan,src 0,src 1,src 2,src 3,src 4]:Array Value)[j]? :=fun j=>cell_of_row _ _ _ _ _ _ p2;have hb02:Below w.heap.size w w2:=((((((Below.refl _ _).alloc (Nat.le_refl _) _).alloc (by simp) _).trans (HB1.out.mono (by simp;omega))).alloc (by omega) _).trans (hb2.mono (by simp;omega)));have hs2:=hb2.size;simp at hs2;have m2:=(hb2.block w1.heap.size (by simp)).trans (heap_alloc_new w1 _);have HB02:=Lib.hid hb02;clear hb2 hb02))
  | (go_at_call 57;go_loud (refine(adr_calls hv _).mono ?_;rintro e w3 ⟨rfl,hb3⟩;have z3:=(hb3.block (w.heap.size+1) (by omega)).trans z2;have p3:=(hb3.block w.heap.size (by omega)).trans p2;have m3:=(hb3.block w1.heap.size (by omega)).trans m2;have l3: ∀j,w3.cell? ⟨w1.heap.size,j,none⟩=(#[Value.int IntKind.u64 (layH h).base,Value.int IntKind.i64 (layH h).cap,Value.int IntKind.i64 (layH h).to,Value.int IntKind.i64 (layH h).low,Value.int IntKind.i64 (layH h).high,Value.int IntKind.i64 (layH h).old,Value.int IntKind.i64 (layH h).far]:Array Value)[j]? :=fun j=>cell_of_row _ _ _ _ _ _ m3;have hs3:=hb3.size;have HB3:=Lib.hid hb3;clear hb3))
  | (go_at_call 58;go_loud (refine(findL_calls HH.out.lay (adr_u hv) _).mono ?_;rintro e w4 ⟨rfl,hb4⟩;rw[hf];dsimp only;have hs4:=hb4.size;have z4: ∀o,(w4.alloc o).heap[w.heap.size+1]? =some (.cells zeroA 31 (0,0)):=fun o=>(Below.heap_alloc w4 o (w.heap.size+1) (by omega)).trans ((hb4.block (w.heap.size+1) (by omega)).trans z3);have p4: ∀o,(w4.alloc o).heap[w.heap.size]? =some (.cells #[Value.int IntKind.u64 h.base,Value.int IntKind.i64 h.cap,Value.int IntKind.i64 h.to,Value.bool h.cycle,Value.int IntKind.i64 h.scan,src 0,src 1,src 2,src 3,src 4] 31 (0,0)):=fun o=>(Below.heap_alloc w4 o w.heap.size (by omega)).trans ((hb4.block w.heap.size (by omega)).trans p3);have x4: ∀o j,(w4.alloc o).cell? ⟨w.heap.size,j,none⟩=(#[Value.int IntKind.u64 h.base,Value.int IntKind.i64 h.cap,Value.int IntKind.i64 h.to,Value.bool h.cycle,Value.int IntKind.i64 h.scan,src 0,src 1,src 2,src 3,src 4]:Array Value)[j]? :=fun o j=>cell_of_row _ _ _ _ _ _ (p4 o);have hb04: ∀o,Below w.heap.size w (w4.alloc o):=fun o=>((HB02.out.trans (HB3.out.mono (by omega))).trans (hb4.mono (by omega))).alloc (by omega) o;have m4: ∀o,(w4.alloc o).heap[w1.heap.size]? =some (.cells #[Value.int IntKind.u64 (layH h).base,Value.int IntKind.i64 (layH h).cap,Value.int IntKind.i64 (layH h).to,Value.int IntKind.i64 (layH h).low,Value.int IntKind.i64 (layH h).high,Value.int IntKind.i64 (layH h).old,Value.int IntKind.i64 (layH h).far] 62 (0,0)):=fun o=>(Below.heap_alloc w4 o w1.heap.size (by omega)).trans ((hb4.block w1.heap.size (by omega)).trans m3);have k4:=heap_alloc_new w4 (.cells #[.int .i64 4,.int .i64 (at_:Nat)] 65);have HB04:=Lib.hid hb04;clear hb4 hb04 z3 p3 m3 l3 z2 p2 x2 m2))
  | (go_at_call 56;go_loud (refine(Own_walk _ G (fun b hb=>by have:=hG b hb;simp;omega) h HH.out src (fun j hj=>(HS.out j hj).keep (fun b hb=>(HB04.out _).block b (hG b hb)) (fun _ h=>h))).mono ?_;rintro e w5 ⟨x,rfl,hb5,ho5⟩;obtain⟨a0,q0,e0⟩:=own_form (ho5.own 0 (by omega));obtain⟨a1,q1,e1⟩:=own_form (ho5.own 1 (by omega));obtain⟨a2,q2,e2⟩:=own_form (ho5.own 2 (by omega));obtain⟨a3,q3,e3⟩:=own_form (ho5.own 3 (by omega));obtain⟨a4,q4,e4⟩:=own_form (ho5.own 4 (by omega));obtain⟨g,hg⟩:=own_addr (ho5.own 3 (by omega)) e3 (by omega);subst hg;unfold hpA;rw[e0,e1,e2,e3,e4];have hs5:=hb5.size;simp at hs5;have hsz4: ∀o,(w4.alloc o).heap.size=w4.heap.size+1:=fun o=>(by simp);rw[hsz4]at ho5;have hN:=now_of_own ho5 (by omega);unfold workO at hN;rw[e0,e1,e2,e3,e4]at hN;have hb05: ∀o,Below w.heap.size w (w5.alloc o):=fun o=>((HB04.out _).trans (hb5.mono (by simp;omega))).alloc (by omega) o;have z6: ∀o,(w5.alloc o).heap[w.heap.size+1]? =some (.cells zeroA 31 (0,0)):=fun o=>(Below.heap_alloc w5 o (w.heap.size+1) (by omega)).trans ((hb5.block (w.heap.size+1) (by simp;omega)).trans (z4 _));have k6: ∀o,(w5.alloc o).heap[w4.heap.size]? =some (.cells #[.int .i64 4,.int .i64 (at_:Nat)] 65 (0,0)):=fun o=>(Below.heap_alloc w5 o w4.heap.size (by omega)).trans ((hb5.block w4.heap.size (by simp)).trans k4);have m6: ∀o,(w5.alloc o).heap[w1.heap.size]? =some (.cells #[Value.int IntKind.u64 (layH h).base,Value.int IntKind.i64 (layH h).cap,Value.int IntKind.i64 (layH h).to,Value.int IntKind.i64 (layH h).low,Value.int IntKind.i64 (layH h).high,Value.int IntKind.i64 (layH h).old,Value.int IntKind.i64 (layH h).far] 62 (0,0)):=fun o=>(Below.heap_alloc w5 o w1.heap.size (by omega)).trans ((hb5.block w1.heap.size (by simp;omega)).trans (m4 _));have k6c: ∀o j,(w5.alloc o).cell? ⟨w4.heap.size,j,none⟩=(#[.int .i64 4,.int .i64 (at_:Nat)]:Array Value)[j]? :=fun o j=>cell_of_row _ _ _ _ _ _ (k6 o);have m6c: ∀o j,(w5.alloc o).cell? ⟨w1.heap.size,j,none⟩=(#[Value.int IntKind.u64 (layH h).base,Value.int IntKind.i64 (layH h).cap,Value.int IntKind.i64 (layH h).to,Value.int IntKind.i64 (layH h).low,Value.int IntKind.i64 (layH h).high,Value.int IntKind.i64 (layH h).old,Value.int IntKind.i64 (layH h).far]:Array Value)[j]? :=fun o j=>cell_of_row _ _ _ _ _ _ (m6 o);have nb:=hN.blk;rw[e0,e1,e2,e3,e4]at nb;have n6c: ∀j,(w5.alloc (.cells #[Value.int IntKind.u64 h.base,Value.int IntKind.i64 h.cap,Value.int IntKind.i64 h.to,Value.bool h.cycle,Value.int IntKind.i64 h.scan,Value.slice a0 (lsH h 0).length q0,Value.slice a1 (lsH h 1).length q1,Value.slice a2 (lsH h 2).length q2,Value.slice (some ⟨g,0,none⟩) (lsH h 3).length q3,Value.slice a4 (lsH h 4).length q4] 100)).cell? ⟨w5.heap.size,j,none⟩=(#[Value.int IntKind.u64 h.base,Value.int IntKind.i64 h.cap,Value.int IntKind.i64 h.to,Value.bool h.cycle,Value.int IntKind.i64 h.scan,Value.slice a0 (lsH h 0).length q0,Value.slice a1 (lsH h 1).length q1,Value.slice a2 (lsH h 2).length q2,Value.slice (some ⟨g,0,none⟩) (lsH h 3).length q3,Value.slice a4 (lsH h 4).length q4]:Array Value)[j]? :=fun j=>cell_of_row _ _ _ _ _ _ nb;have y6: ∀o j,(w5.alloc o).cell? ⟨w.heap.size+1,j,none⟩=zeroA[j]? :=fun o j=>cell_of_row _ _ _ _ _ _ (z6 o);have f6: ∀o j,(w5.alloc o).frozen? ⟨w.heap.size+1,j,none⟩=false:=fun o j=>frz_of (z6 o);unfold zeroA at y6;have st6:FwSt w (w5.alloc (.cells #[Value.int IntKind.u64 h.base,Value.int IntKind.i64 h.cap,Value.int IntKind.i64 h.to,Value.bool h.cycle,Value.int IntKind.i64 h.scan,Value.slice a0 (lsH h 0).length q0,Value.slice a1 (lsH h 1).length q1,Value.slice a2 (lsH h 2).length q2,Value.slice (some ⟨g,0,none⟩) (lsH h 3).length q3,Value.slice a4 (lsH h 4).length q4] 100)) (w.heap.size+1) w1.heap.size w4.heap.size w5.heap.size (w4.heap.size+1) 4 (at_:Nat) h x:=⟨z6 _,m6 _,k6 _,hN,hb05 _,by omega,by omega,by omega,by omega,by simp;omega⟩;have ST6:=Lib.hid st6;have EP:=Lib.hid e3;clear st6;have HB05:=Lib.hid hb05;have HN:=Lib.hid hN;have E0:=Lib.hid e0;have E1:=Lib.hid e1;have E2:=Lib.hid e2;have E3:=Lib.hid e3;have E4:=Lib.hid e4;clear hb05 hN nb e0 e1 e2 e3 e4 ho5 hb5 z4 p4 x4 m4 k4)))
 have hpH:h.far.getD at_ 0=wd:=by show(lsH h 3).getD at_ 0=wd;simp[List.getD,hwd]
 have hpL:h.far.length=(lsH h 3).length:=rfl
 have hfw:fwd h v=(0,Hp.zero,3):=by simp[fwd,fwdC,hr,hv0,h1,hf,-List.getD_eq_getElem?_getD,hpH,hpL,hgo,hun,her]
 have y:=put10_cells ST10.out.res (.int .u64 0) (.int .i64 0) (.int .i64 0) (.bool false) (.int .i64 0) (.slice none 0 0) (.slice none 0 0) (.slice none 0 0) (.slice none 0 0) (.slice none 0 0)
 rw[hfw]
 refine bodyPost_ret (v:= .tuple #[.int .u64 0,.agg zeroA,.int .i64 3]) ?_ rfl ?_
 ·simp[results,Try.results20,go_sem,y,zeroA]
 ·refine⟨fun _=> .slice none 0 0,?_,?_,zero_rd _ _⟩
  ·simp[hpA,Hp.zero,zeroA]
  ·exact put10_below ST10.out.bel (by omega) _ _ _ _ _ _ _ _ _ _
theorem Forward_short4(w:World)(G:Nat→Prop)(hG: ∀b,G b→b<w.heap.size)(h:Hp)(hh:h.ok)(src:Nat→Value)(hs: ∀j,j<5→Rd w G (.sl ((lsH h j).map vu)) (src j))(v:Int)(hv:U64 v)
  (hr:rightL (layH h)=true) (hv0: ¬v=0) (h1:(adr v).2=0) (part:Int) (at_:Nat) (hf:findL (layH h) (adr v).1=(part,(at_:Int),0)) (hp:part=4)
  (wd:Int) (hwd:(lsH h 3)[at_]? =some wd) (hat:at_< (lsH h 3).length) (hwu:U64 wd) (hgo: ¬(adr wd).2=0) (sz:Nat) (pt er:Int) (hun:unpk wd=((sz:Int),pt,er)) (hsz:sz≤255) (her:er=0) (hlt:(lsH h 3).length<at_+(sz+1)):
  Calls Try.prog 20 #[hpA h src,.int .u64 v] w (FwdPost w (fwd h v)):=by
 have HS:=Lib.hid hs
 have HH:=Lib.hid hh
 clear hs hh
 unfold hpA
 go_enter Try.func20,Try.ntmps20
 subst hp
 go_wp2_with (first
  | (go_at_call 59;go_loud (refine(from_walk _ (w4.heap.size+1) w5.heap.size h x ST6.out.now HH.out 3 at_ (by omega) g q3 EP.out (by omega)).mono ?_;rintro e w7 ⟨rfl,hb7⟩;obtain⟨m,hm⟩: ∃m,(lsH h 3).length-at_=m:=⟨_,rfl⟩;obtain⟨qm,hqm⟩: ∃qm,q3-at_=qm:=⟨_,rfl⟩;rw[hm,hqm];have hm0:0<m:=(by omega);have hm0i:(0:Int) < (m:Int):=(by omega);have hat2:at_+0=at_:=rfl;have st7:=ST6.out.below hb7;have hs7:=hb7.size;simp at hs7;have res7:=st7.res;have y7: ∀j,(w7).cell? ⟨w.heap.size+1,j,none⟩=zeroA[j]? :=fun j=>cell_of_row _ _ _ _ _ _ res7;unfold zeroA at y7;have f7: ∀j,(w7).frozen? ⟨w.heap.size+1,j,none⟩=false:=fun j=>frz_of res7;have nb7:=st7.now.blk;rw[E0.out,E1.out,E2.out,E3.out,E4.out]at nb7;have n7c: ∀j,(w7).cell? ⟨w5.heap.size,j,none⟩=(#[Value.int IntKind.u64 h.base,Value.int IntKind.i64 h.cap,Value.int IntKind.i64 h.to,Value.bool h.cycle,Value.int IntKind.i64 h.scan,Value.slice a0 (lsH h 0).length q0,Value.slice a1 (lsH h 1).length q1,Value.slice a2 (lsH h 2).length q2,Value.slice (some ⟨g,0,none⟩) (lsH h 3).length q3,Value.slice a4 (lsH h 4).length q4]:Array Value)[j]? :=fun j=>cell_of_row _ _ _ _ _ _ nb7;have k7c: ∀j,(w7).cell? ⟨w4.heap.size,j,none⟩=(#[.int .i64 4,.int .i64 (at_:Nat)]:Array Value)[j]? :=fun j=>cell_of_row _ _ _ _ _ _ st7.plc;have m7c: ∀j,(w7).cell? ⟨w1.heap.size,j,none⟩=(#[Value.int IntKind.u64 (layH h).base,Value.int IntKind.i64 (layH h).cap,Value.int IntKind.i64 (layH h).to,Value.int IntKind.i64 (layH h).low,Value.int IntKind.i64 (layH h).high,Value.int IntKind.i64 (layH h).old,Value.int IntKind.i64 (layH h).far]:Array Value)[j]? :=fun j=>cell_of_row _ _ _ _ _ _ st7.lay;have hop7:=st7.now.own.own 3 (by omega);rw[EP.out]at hop7;have c7:=own_cell hop7 hwd;clear nb7 hop7;have ST7:=Lib.hid st7;clear hb7 st7))
  | (go_at_call 57;go_loud (have st7:=ST7.out;refine(adr_calls hwu _).mono ?_;rintro e w8 ⟨rfl,hb8⟩;have st8:=st7.below hb8;have hs8:=hb8.size;have res8:=st8.res;have y8: ∀j,(w8).cell? ⟨w.heap.size+1,j,none⟩=zeroA[j]? :=fun j=>cell_of_row _ _ _ _ _ _ res8;unfold zeroA at y8;have f8: ∀j,(w8).frozen? ⟨w.heap.size+1,j,none⟩=false:=fun j=>frz_of res8;have nb8:=st8.now.blk;rw[E0.out,E1.out,E2.out,E3.out,E4.out]at nb8;have n8c: ∀j,(w8).cell? ⟨w5.heap.size,j,none⟩=(#[Value.int IntKind.u64 h.base,Value.int IntKind.i64 h.cap,Value.int IntKind.i64 h.to,Value.bool h.cycle,Value.int IntKind.i64 h.scan,Value.slice a0 (lsH h 0).length q0,Value.slice a1 (lsH h 1).length q1,Value.slice a2 (lsH h 2).length q2,Value.slice (some ⟨g,0,none⟩) (lsH h 3).length q3,Value.slice a4 (lsH h 4).length q4]:Array Value)[j]? :=fun j=>cell_of_row _ _ _ _ _ _ nb8;have k8c: ∀j,(w8).cell? ⟨w4.heap.size,j,none⟩=(#[.int .i64 4,.int .i64 (at_:Nat)]:Array Value)[j]? :=fun j=>cell_of_row _ _ _ _ _ _ st8.plc;have m8c: ∀j,(w8).cell? ⟨w1.heap.size,j,none⟩=(#[Value.int IntKind.u64 (layH h).base,Value.int IntKind.i64 (layH h).cap,Value.int IntKind.i64 (layH h).to,Value.int IntKind.i64 (layH h).low,Value.int IntKind.i64 (layH h).high,Value.int IntKind.i64 (layH h).old,Value.int IntKind.i64 (layH h).far]:Array Value)[j]? :=fun j=>cell_of_row _ _ _ _ _ _ st8.lay;have hop8:=st8.now.own.own 3 (by omega);rw[EP.out]at hop8;have c8:=own_cell hop8 hwd;clear nb8 hop8;have ST8:=Lib.hid st8;clear hb8 st8 st7))
  | (go_at_call 60;go_loud (refine(unpk_calls hwu _).mono ?_;rintro e w9 ⟨rfl,hb9⟩;rw[hun];dsimp only;have hs9:=hb9.size;have st10:FwSt w (w9.alloc (.cells #[.int .i64 (sz:Nat),.int .i64 pt] 55)) _ _ _ _ _ _ _ h x:=(ST8.out.below hb9).below ((Below.refl _ _).alloc (Nat.le_refl _) _);have res10:=st10.res;have y10: ∀j,((w9.alloc (.cells #[.int .i64 (sz:Nat),.int .i64 pt] 55))).cell? ⟨w.heap.size+1,j,none⟩=zeroA[j]? :=fun j=>cell_of_row _ _ _ _ _ _ res10;unfold zeroA at y10;have f10: ∀j,((w9.alloc (.cells #[.int .i64 (sz:Nat),.int .i64 pt] 55))).frozen? ⟨w.heap.size+1,j,none⟩=false:=fun j=>frz_of res10;have nb10:=st10.now.blk;rw[E0.out,E1.out,E2.out,E3.out,E4.out]at nb10;have n10c: ∀j,((w9.alloc (.cells #[.int .i64 (sz:Nat),.int .i64 pt] 55))).cell? ⟨w5.heap.size,j,none⟩=(#[Value.int IntKind.u64 h.base,Value.int IntKind.i64 h.cap,Value.int IntKind.i64 h.to,Value.bool h.cycle,Value.int IntKind.i64 h.scan,Value.slice a0 (lsH h 0).length q0,Value.slice a1 (lsH h 1).length q1,Value.slice a2 (lsH h 2).length q2,Value.slice (some ⟨g,0,none⟩) (lsH h 3).length q3,Value.slice a4 (lsH h 4).length q4]:Array Value)[j]? :=fun j=>cell_of_row _ _ _ _ _ _ nb10;have k10c: ∀j,((w9.alloc (.cells #[.int .i64 (sz:Nat),.int .i64 pt] 55))).cell? ⟨w4.heap.size,j,none⟩=(#[.int .i64 4,.int .i64 (at_:Nat)]:Array Value)[j]? :=fun j=>cell_of_row _ _ _ _ _ _ st10.plc;have m10c: ∀j,((w9.alloc (.cells #[.int .i64 (sz:Nat),.int .i64 pt] 55))).cell? ⟨w1.heap.size,j,none⟩=(#[Value.int IntKind.u64 (layH h).base,Value.int IntKind.i64 (layH h).cap,Value.int IntKind.i64 (layH h).to,Value.int IntKind.i64 (layH h).low,Value.int IntKind.i64 (layH h).high,Value.int IntKind.i64 (layH h).old,Value.int IntKind.i64 (layH h).far]:Array Value)[j]? :=fun j=>cell_of_row _ _ _ _ _ _ st10.lay;have hop10:=st10.now.own.own 3 (by omega);rw[EP.out]at hop10;have c10:=own_cell hop10 hwd;clear nb10 hop10;have s10c: ∀j,(w9.alloc (.cells #[.int .i64 (sz:Nat),.int .i64 pt] 55)).cell? ⟨w9.heap.size,j,none⟩=(#[.int .i64 (sz:Nat),.int .i64 pt]:Array Value)[j]? :=fun j=>cell_of_row _ _ _ _ _ _ (heap_alloc_new w9 _);have ST10:=Lib.hid st10;have hml:m≤1000000:=(by have:=lsH_len HH.out 3;omega);have hl10:at_+m=(lsH h 3).length:=(by omega);clear hb9 st10))
  | (go_at_call 54;go_loud (refine(Layout_calls (h:=h) (x:=src) (G:=G) (fun c hc=>by have:=hG c hc;simp;omega) (fun j hj=>(HS.out j hj).keep (fun b hb=>by have:=hG b hb;rw[Below.heap_alloc _ _ _ (by simp;omega),Below.heap_alloc _ _ _ (by omega)]) (fun _ h=>h))).mono ?_;rintro e w1 ⟨rfl,hb1⟩;unfold lyA;have z1:=(hb1.block (w.heap.size+1) (by simp)).trans (zero_new w _);have p1:=(hb1.block w.heap.size (by simp;omega)).trans ((Below.heap_alloc (w.alloc (.cells #[Value.int IntKind.u64 h.base,Value.int IntKind.i64 h.cap,Value.int IntKind.i64 h.to,Value.bool h.cycle,Value.int IntKind.i64 h.scan,src 0,src 1,src 2,src 3,src 4] 31)) _ w.heap.size (by simp)).trans (heap_alloc_new w _));have hs1:=hb1.size;simp at hs1;have HB1:=Lib.hid hb1;clear hb1))
  | (go_at_call 55;go_loud (refine(rightL_calls HH.out.lay _).mono ?_;rintro e w2 ⟨rfl,hb2⟩;rw[hr];have z2:=(hb2.block (w.heap.size+1) (by simp;omega)).trans ((Below.heap_alloc w1 _ (w.heap.size+1) (by omega)).trans z1);have p2:=(hb2.block w.heap.size (by simp;omega)).trans ((Below.heap_alloc w1 _ w.heap.size (by omega)).trans p1);have x2: ∀j,w2.cell? ⟨w.heap.size,j,none⟩=(#[Value.int IntKind.u64 h.base,Value.int IntKind.i64 h.cap,Value.int IntKind.i64 h.to,Value.bool h.cycle,Value.int IntKind.i64 h.scan,src 0,src 1,src 2,src 3,src 4]:Array Value)[j]? :=fun j=>cell_of_row _ _ _ _ _ _ p2;have hb02:Below w.heap.size w w2:=((((((Below.refl _ _).alloc (Nat.le_refl _) _).alloc (by simp) _).trans (HB1.out.mono (by simp;omega))).alloc (by omega) _).trans (hb2.mono (by simp;omega)));have hs2:=hb2.size;simp at hs2;have m2:=(hb2.block w1.heap.size (by simp)).trans (heap_alloc_new w1 _);have HB02:=Lib.hid hb02;clear hb2 hb02))
  | (go_at_call 57;go_loud (refine(adr_calls hv _).mono ?_;rintro e w3 ⟨rfl,hb3⟩;have z3:=(hb3.block (w.heap.size+1) (by omega)).trans z2;have p3:=(hb3.block w.heap.size (by omega)).trans p2;have m3:=(hb3.block w1.heap.size (by omega)).trans m2;have l3: ∀j,w3.cell? ⟨w1.heap.size,j,none⟩=(#[Value.int IntKind.u64 (layH h).base,Value.int IntKind.i64 (layH h).cap,Value.int IntKind.i64 (layH h).to,Value.int IntKind.i64 (layH h).low,Value.int IntKind.i64 (layH h).high,Value.int IntKind.i64 (layH h).old,Value.int IntKind.i64 (layH h).far]:Array Value)[j]? :=fun j=>cell_of_row _ _ _ _ _ _ m3;have hs3:=hb3.size;have HB3:=Lib.hid hb3;clear hb3))
  | (go_at_call 58;go_loud (refine(findL_calls HH.out.lay (adr_u hv) _).mono ?_;rintro e w4 ⟨rfl,hb4⟩;rw[hf];dsimp only;have hs4:=hb4.size;have z4: ∀o,(w4.alloc o).heap[w.heap.size+1]? =some (.cells zeroA 31 (0,0)):=fun o=>(Below.heap_alloc w4 o (w.heap.size+1) (by omega)).trans ((hb4.block (w.heap.size+1) (by omega)).trans z3);have p4: ∀o,(w4.alloc o).heap[w.heap.size]? =some (.cells #[Value.int IntKind.u64 h.base,Value.int IntKind.i64 h.cap,Value.int IntKind.i64 h.to,Value.bool h.cycle,Value.int IntKind.i64 h.scan,src 0,src 1,src 2,src 3,src 4] 31 (0,0)):=fun o=>(Below.heap_alloc w4 o w.heap.size (by omega)).trans ((hb4.block w.heap.size (by omega)).trans p3);have x4: ∀o j,(w4.alloc o).cell? ⟨w.heap.size,j,none⟩=(#[Value.int IntKind.u64 h.base,Value.int IntKind.i64 h.cap,Value.int IntKind.i64 h.to,Value.bool h.cycle,Value.int IntKind.i64 h.scan,src 0,src 1,src 2,src 3,src 4]:Array Value)[j]? :=fun o j=>cell_of_row _ _ _ _ _ _ (p4 o);have hb04: ∀o,Below w.heap.size w (w4.alloc o):=fun o=>((HB02.out.trans (HB3.out.mono (by omega))).trans (hb4.mono (by omega))).alloc (by omega) o;have m4: ∀o,(w4.alloc o).heap[w1.heap.size]? =some (.cells #[Value.int IntKind.u64 (layH h).base,Value.int IntKind.i64 (layH h).cap,Value.int IntKind.i64 (layH h).to,Value.int IntKind.i64 (layH h).low,Value.int IntKind.i64 (layH h).high,Value.int IntKind.i64 (layH h).old,Value.int IntKind.i64 (layH h).far] 62 (0,0)):=fun o=>(Below.heap_alloc w4 o w1.heap.size (by omega)).trans ((hb4.block w1.heap.size (by omega)).trans m3);have k4:=heap_alloc_new w4 (.cells #[.int .i64 4,.int .i64 (at_:Nat)] 65);have HB04:=Lib.hid hb04;clear hb4 hb04 z3 p3 m3 l3 z2 p2 x2 m2))
  | (go_at_call 56;go_loud (refine(Own_walk _ G (fun b hb=>by have:=hG b hb;simp;omega) h HH.out src (fun j hj=>(HS.out j hj).keep (fun b hb=>(HB04.out _).block b (hG b hb)) (fun _ h=>h))).mono ?_;rintro e w5 ⟨x,rfl,hb5,ho5⟩;obtain⟨a0,q0,e0⟩:=own_form (ho5.own 0 (by omega));obtain⟨a1,q1,e1⟩:=own_form (ho5.own 1 (by omega));obtain⟨a2,q2,e2⟩:=own_form (ho5.own 2 (by omega));obtain⟨a3,q3,e3⟩:=own_form (ho5.own 3 (by omega));obtain⟨a4,q4,e4⟩:=own_form (ho5.own 4 (by omega));obtain⟨g,hg⟩:=own_addr (ho5.own 3 (by omega)) e3 (by omega);subst hg;unfold hpA;rw[e0,e1,e2,e3,e4];have hs5:=hb5.size;simp at hs5;have hsz4: ∀o,(w4.alloc o).heap.size=w4.heap.size+1:=fun o=>(by simp);rw[hsz4]at ho5;have hN:=now_of_own ho5 (by omega);unfold workO at hN;rw[e0,e1,e2,e3,e4]at hN;have hb05: ∀o,Below w.heap.size w (w5.alloc o):=fun o=>((HB04.out _).trans (hb5.mono (by simp;omega))).alloc (by omega) o;have z6: ∀o,(w5.alloc o).heap[w.heap.size+1]? =some (.cells zeroA 31 (0,0)):=fun o=>(Below.heap_alloc w5 o (w.heap.size+1) (by omega)).trans ((hb5.block (w.heap.size+1) (by simp;omega)).trans (z4 _));have k6: ∀o,(w5.alloc o).heap[w4.heap.size]? =some (.cells #[.int .i64 4,.int .i64 (at_:Nat)] 65 (0,0)):=fun o=>(Below.heap_alloc w5 o w4.heap.size (by omega)).trans ((hb5.block w4.heap.size (by simp)).trans k4);have m6: ∀o,(w5.alloc o).heap[w1.heap.size]? =some (.cells #[Value.int IntKind.u64 (layH h).base,Value.int IntKind.i64 (layH h).cap,Value.int IntKind.i64 (layH h).to,Value.int IntKind.i64 (layH h).low,Value.int IntKind.i64 (layH h).high,Value.int IntKind.i64 (layH h).old,Value.int IntKind.i64 (layH h).far] 62 (0,0)):=fun o=>(Below.heap_alloc w5 o w1.heap.size (by omega)).trans ((hb5.block w1.heap.size (by simp;omega)).trans (m4 _));have k6c: ∀o j,(w5.alloc o).cell? ⟨w4.heap.size,j,none⟩=(#[.int .i64 4,.int .i64 (at_:Nat)]:Array Value)[j]? :=fun o j=>cell_of_row _ _ _ _ _ _ (k6 o);have m6c: ∀o j,(w5.alloc o).cell? ⟨w1.heap.size,j,none⟩=(#[Value.int IntKind.u64 (layH h).base,Value.int IntKind.i64 (layH h).cap,Value.int IntKind.i64 (layH h).to,Value.int IntKind.i64 (layH h).low,Value.int IntKind.i64 (layH h).high,Value.int IntKind.i64 (layH h).old,Value.int IntKind.i64 (layH h).far]:Array Value)[j]? :=fun o j=>cell_of_row _ _ _ _ _ _ (m6 o);have nb:=hN.blk;rw[e0,e1,e2,e3,e4]at nb;have n6c: ∀j,(w5.alloc (.cells #[Value.int IntKind.u64 h.base,Value.int IntKind.i64 h.cap,Value.int IntKind.i64 h.to,Value.bool h.cycle,Value.int IntKind.i64 h.scan,Value.slice a0 (lsH h 0).length q0,Value.slice a1 (lsH h 1).length q1,Value.slice a2 (lsH h 2).length q2,Value.slice (some ⟨g,0,none⟩) (lsH h 3).length q3,Value.slice a4 (lsH h 4).length q4] 100)).cell? ⟨w5.heap.size,j,none⟩=(#[Value.int IntKind.u64 h.base,Value.int IntKind.i64 h.cap,Value.int IntKind.i64 h.to,Value.bool h.cycle,Value.int IntKind.i64 h.scan,Value.slice a0 (lsH h 0).length q0,Value.slice a1 (lsH h 1).length q1,Value.slice a2 (lsH h 2).length q2,Value.slice (some ⟨g,0,none⟩) (lsH h 3).length q3,Value.slice a4 (lsH h 4).length q4]:Array Value)[j]? :=fun j=>cell_of_row _ _ _ _ _ _ nb;have y6: ∀o j,(w5.alloc o).cell? ⟨w.heap.size+1,j,none⟩=zeroA[j]? :=fun o j=>cell_of_row _ _ _ _ _ _ (z6 o);have f6: ∀o j,(w5.alloc o).frozen? ⟨w.heap.size+1,j,none⟩=false:=fun o j=>frz_of (z6 o);unfold zeroA at y6;have st6:FwSt w (w5.alloc (.cells #[Value.int IntKind.u64 h.base,Value.int IntKind.i64 h.cap,Value.int IntKind.i64 h.to,Value.bool h.cycle,Value.int IntKind.i64 h.scan,Value.slice a0 (lsH h 0).length q0,Value.slice a1 (lsH h 1).length q1,Value.slice a2 (lsH h 2).length q2,Value.slice (some ⟨g,0,none⟩) (lsH h 3).length q3,Value.slice a4 (lsH h 4).length q4] 100)) (w.heap.size+1) w1.heap.size w4.heap.size w5.heap.size (w4.heap.size+1) 4 (at_:Nat) h x:=⟨z6 _,m6 _,k6 _,hN,hb05 _,by omega,by omega,by omega,by omega,by simp;omega⟩;have ST6:=Lib.hid st6;have EP:=Lib.hid e3;clear st6;have HB05:=Lib.hid hb05;have HN:=Lib.hid hN;have E0:=Lib.hid e0;have E1:=Lib.hid e1;have E2:=Lib.hid e2;have E3:=Lib.hid e3;have E4:=Lib.hid e4;clear hb05 hN nb e0 e1 e2 e3 e4 ho5 hb5 z4 p4 x4 m4 k4)))
 have hpH:h.far.getD at_ 0=wd:=by show(lsH h 3).getD at_ 0=wd;simp[List.getD,hwd]
 have hpL:h.far.length=(lsH h 3).length:=rfl
 have hfw:fwd h v=(0,Hp.zero,2):=by simp[fwd,fwdC,hr,hv0,h1,hf,-List.getD_eq_getElem?_getD,hpH,hpL,hgo,hun,her,hlt]
 have y:=put10_cells ST10.out.res (.int .u64 0) (.int .i64 0) (.int .i64 0) (.bool false) (.int .i64 0) (.slice none 0 0) (.slice none 0 0) (.slice none 0 0) (.slice none 0 0) (.slice none 0 0)
 rw[hfw]
 refine bodyPost_ret (v:= .tuple #[.int .u64 0,.agg zeroA,.int .i64 2]) ?_ rfl ?_
 ·simp[results,Try.results20,go_sem,y,zeroA]
 ·refine⟨fun _=> .slice none 0 0,?_,?_,zero_rd _ _⟩
  ·simp[hpA,Hp.zero,zeroA]
  ·exact put10_below ST10.out.bel (by omega) _ _ _ _ _ _ _ _ _ _
theorem Forward_mem4(w:World)(G:Nat→Prop)(hG: ∀b,G b→b<w.heap.size)(h:Hp)(hh:h.ok)(src:Nat→Value)(hs: ∀j,j<5→Rd w G (.sl ((lsH h j).map vu)) (src j))(v:Int)(hv:U64 v)
  (hr:rightL (layH h)=true) (hv0: ¬v=0) (h1:(adr v).2=0) (part:Int) (at_:Nat) (hf:findL (layH h) (adr v).1=(part,(at_:Int),0)) (hp:part=4)
  (wd:Int) (hwd:(lsH h 3)[at_]? =some wd) (hat:at_< (lsH h 3).length) (hwu:U64 wd) (hgo: ¬(adr wd).2=0) (sz:Nat) (pt er:Int) (hun:unpk wd=((sz:Int),pt,er)) (hsz:sz≤255) (her:er=0) (hle:at_+(sz+1)≤(lsH h 3).length) (hrm:roomL (layH h) < ((sz+1:Nat):Int)):
  Calls Try.prog 20 #[hpA h src,.int .u64 v] w (FwdPost w (fwd h v)):=by
 have HS:=Lib.hid hs
 have HH:=Lib.hid hh
 clear hs hh
 unfold hpA
 go_enter Try.func20,Try.ntmps20
 subst hp
 go_wp2_with (first
  | (go_at_call 59;go_loud (refine(from_walk _ (w4.heap.size+1) w5.heap.size h x ST6.out.now HH.out 3 at_ (by omega) g q3 EP.out (by omega)).mono ?_;rintro e w7 ⟨rfl,hb7⟩;obtain⟨m,hm⟩: ∃m,(lsH h 3).length-at_=m:=⟨_,rfl⟩;obtain⟨qm,hqm⟩: ∃qm,q3-at_=qm:=⟨_,rfl⟩;rw[hm,hqm];have hm0:0<m:=(by omega);have hm0i:(0:Int) < (m:Int):=(by omega);have hat2:at_+0=at_:=rfl;have st7:=ST6.out.below hb7;have hs7:=hb7.size;simp at hs7;have res7:=st7.res;have y7: ∀j,(w7).cell? ⟨w.heap.size+1,j,none⟩=zeroA[j]? :=fun j=>cell_of_row _ _ _ _ _ _ res7;unfold zeroA at y7;have f7: ∀j,(w7).frozen? ⟨w.heap.size+1,j,none⟩=false:=fun j=>frz_of res7;have nb7:=st7.now.blk;rw[E0.out,E1.out,E2.out,E3.out,E4.out]at nb7;have n7c: ∀j,(w7).cell? ⟨w5.heap.size,j,none⟩=(#[Value.int IntKind.u64 h.base,Value.int IntKind.i64 h.cap,Value.int IntKind.i64 h.to,Value.bool h.cycle,Value.int IntKind.i64 h.scan,Value.slice a0 (lsH h 0).length q0,Value.slice a1 (lsH h 1).length q1,Value.slice a2 (lsH h 2).length q2,Value.slice (some ⟨g,0,none⟩) (lsH h 3).length q3,Value.slice a4 (lsH h 4).length q4]:Array Value)[j]? :=fun j=>cell_of_row _ _ _ _ _ _ nb7;have k7c: ∀j,(w7).cell? ⟨w4.heap.size,j,none⟩=(#[.int .i64 4,.int .i64 (at_:Nat)]:Array Value)[j]? :=fun j=>cell_of_row _ _ _ _ _ _ st7.plc;have m7c: ∀j,(w7).cell? ⟨w1.heap.size,j,none⟩=(#[Value.int IntKind.u64 (layH h).base,Value.int IntKind.i64 (layH h).cap,Value.int IntKind.i64 (layH h).to,Value.int IntKind.i64 (layH h).low,Value.int IntKind.i64 (layH h).high,Value.int IntKind.i64 (layH h).old,Value.int IntKind.i64 (layH h).far]:Array Value)[j]? :=fun j=>cell_of_row _ _ _ _ _ _ st7.lay;have hop7:=st7.now.own.own 3 (by omega);rw[EP.out]at hop7;have c7:=own_cell hop7 hwd;clear nb7 hop7;have ST7:=Lib.hid st7;clear hb7 st7))
  | (go_at_call 57;go_loud (have st7:=ST7.out;refine(adr_calls hwu _).mono ?_;rintro e w8 ⟨rfl,hb8⟩;have st8:=st7.below hb8;have hs8:=hb8.size;have res8:=st8.res;have y8: ∀j,(w8).cell? ⟨w.heap.size+1,j,none⟩=zeroA[j]? :=fun j=>cell_of_row _ _ _ _ _ _ res8;unfold zeroA at y8;have f8: ∀j,(w8).frozen? ⟨w.heap.size+1,j,none⟩=false:=fun j=>frz_of res8;have nb8:=st8.now.blk;rw[E0.out,E1.out,E2.out,E3.out,E4.out]at nb8;have n8c: ∀j,(w8).cell? ⟨w5.heap.size,j,none⟩=(#[Value.int IntKind.u64 h.base,Value.int IntKind.i64 h.cap,Value.int IntKind.i64 h.to,Value.bool h.cycle,Value.int IntKind.i64 h.scan,Value.slice a0 (lsH h 0).length q0,Value.slice a1 (lsH h 1).length q1,Value.slice a2 (lsH h 2).length q2,Value.slice (some ⟨g,0,none⟩) (lsH h 3).length q3,Value.slice a4 (lsH h 4).length q4]:Array Value)[j]? :=fun j=>cell_of_row _ _ _ _ _ _ nb8;have k8c: ∀j,(w8).cell? ⟨w4.heap.size,j,none⟩=(#[.int .i64 4,.int .i64 (at_:Nat)]:Array Value)[j]? :=fun j=>cell_of_row _ _ _ _ _ _ st8.plc;have m8c: ∀j,(w8).cell? ⟨w1.heap.size,j,none⟩=(#[Value.int IntKind.u64 (layH h).base,Value.int IntKind.i64 (layH h).cap,Value.int IntKind.i64 (layH h).to,Value.int IntKind.i64 (layH h).low,Value.int IntKind.i64 (layH h).high,Value.int IntKind.i64 (layH h).old,Value.int IntKind.i64 (layH h).far]:Array Value)[j]? :=fun j=>cell_of_row _ _ _ _ _ _ st8.lay;have hop8:=st8.now.own.own 3 (by omega);rw[EP.out]at hop8;have c8:=own_cell hop8 hwd;clear nb8 hop8;have ST8:=Lib.hid st8;clear hb8 st8 st7))
  | (go_at_call 60;go_loud (refine(unpk_calls hwu _).mono ?_;rintro e w9 ⟨rfl,hb9⟩;rw[hun];dsimp only;have hs9:=hb9.size;have st10:FwSt w (w9.alloc (.cells #[.int .i64 (sz:Nat),.int .i64 pt] 55)) _ _ _ _ _ _ _ h x:=(ST8.out.below hb9).below ((Below.refl _ _).alloc (Nat.le_refl _) _);have res10:=st10.res;have y10: ∀j,((w9.alloc (.cells #[.int .i64 (sz:Nat),.int .i64 pt] 55))).cell? ⟨w.heap.size+1,j,none⟩=zeroA[j]? :=fun j=>cell_of_row _ _ _ _ _ _ res10;unfold zeroA at y10;have f10: ∀j,((w9.alloc (.cells #[.int .i64 (sz:Nat),.int .i64 pt] 55))).frozen? ⟨w.heap.size+1,j,none⟩=false:=fun j=>frz_of res10;have nb10:=st10.now.blk;rw[E0.out,E1.out,E2.out,E3.out,E4.out]at nb10;have n10c: ∀j,((w9.alloc (.cells #[.int .i64 (sz:Nat),.int .i64 pt] 55))).cell? ⟨w5.heap.size,j,none⟩=(#[Value.int IntKind.u64 h.base,Value.int IntKind.i64 h.cap,Value.int IntKind.i64 h.to,Value.bool h.cycle,Value.int IntKind.i64 h.scan,Value.slice a0 (lsH h 0).length q0,Value.slice a1 (lsH h 1).length q1,Value.slice a2 (lsH h 2).length q2,Value.slice (some ⟨g,0,none⟩) (lsH h 3).length q3,Value.slice a4 (lsH h 4).length q4]:Array Value)[j]? :=fun j=>cell_of_row _ _ _ _ _ _ nb10;have k10c: ∀j,((w9.alloc (.cells #[.int .i64 (sz:Nat),.int .i64 pt] 55))).cell? ⟨w4.heap.size,j,none⟩=(#[.int .i64 4,.int .i64 (at_:Nat)]:Array Value)[j]? :=fun j=>cell_of_row _ _ _ _ _ _ st10.plc;have m10c: ∀j,((w9.alloc (.cells #[.int .i64 (sz:Nat),.int .i64 pt] 55))).cell? ⟨w1.heap.size,j,none⟩=(#[Value.int IntKind.u64 (layH h).base,Value.int IntKind.i64 (layH h).cap,Value.int IntKind.i64 (layH h).to,Value.int IntKind.i64 (layH h).low,Value.int IntKind.i64 (layH h).high,Value.int IntKind.i64 (layH h).old,Value.int IntKind.i64 (layH h).far]:Array Value)[j]? :=fun j=>cell_of_row _ _ _ _ _ _ st10.lay;have hop10:=st10.now.own.own 3 (by omega);rw[EP.out]at hop10;have c10:=own_cell hop10 hwd;clear nb10 hop10;have s10c: ∀j,(w9.alloc (.cells #[.int .i64 (sz:Nat),.int .i64 pt] 55)).cell? ⟨w9.heap.size,j,none⟩=(#[.int .i64 (sz:Nat),.int .i64 pt]:Array Value)[j]? :=fun j=>cell_of_row _ _ _ _ _ _ (heap_alloc_new w9 _);have ST10:=Lib.hid st10;have hml:m≤1000000:=(by have:=lsH_len HH.out 3;omega);have hl10:at_+m=(lsH h 3).length:=(by omega);clear hb9 st10))
  | (go_at_call 54;go_loud (refine(Layout_calls (h:=h) (x:=src) (G:=G) (fun c hc=>by have:=hG c hc;simp;omega) (fun j hj=>(HS.out j hj).keep (fun b hb=>by have:=hG b hb;rw[Below.heap_alloc _ _ _ (by simp;omega),Below.heap_alloc _ _ _ (by omega)]) (fun _ h=>h))).mono ?_;rintro e w1 ⟨rfl,hb1⟩;unfold lyA;have z1:=(hb1.block (w.heap.size+1) (by simp)).trans (zero_new w _);have p1:=(hb1.block w.heap.size (by simp;omega)).trans ((Below.heap_alloc (w.alloc (.cells #[Value.int IntKind.u64 h.base,Value.int IntKind.i64 h.cap,Value.int IntKind.i64 h.to,Value.bool h.cycle,Value.int IntKind.i64 h.scan,src 0,src 1,src 2,src 3,src 4] 31)) _ w.heap.size (by simp)).trans (heap_alloc_new w _));have hs1:=hb1.size;simp at hs1;have HB1:=Lib.hid hb1;clear hb1))
  | (go_at_call 55;go_loud (refine(rightL_calls HH.out.lay _).mono ?_;rintro e w2 ⟨rfl,hb2⟩;rw[hr];have z2:=(hb2.block (w.heap.size+1) (by simp;omega)).trans ((Below.heap_alloc w1 _ (w.heap.size+1) (by omega)).trans z1);have p2:=(hb2.block w.heap.size (by simp;omega)).trans ((Below.heap_alloc w1 _ w.heap.size (by omega)).trans p1);have x2: ∀j,w2.cell? ⟨w.heap.size,j,none⟩=(#[Value.int IntKind.u64 h.base,Value.int IntKind.i64 h.cap,Value.int IntKind.i64 h.to,Value.bool h.cycle,Value.int IntKind.i64 h.scan,src 0,src 1,src 2,src 3,src 4]:Array Value)[j]? :=fun j=>cell_of_row _ _ _ _ _ _ p2;have hb02:Below w.heap.size w w2:=((((((Below.refl _ _).alloc (Nat.le_refl _) _).alloc (by simp) _).trans (HB1.out.mono (by simp;omega))).alloc (by omega) _).trans (hb2.mono (by simp;omega)));have hs2:=hb2.size;simp at hs2;have m2:=(hb2.block w1.heap.size (by simp)).trans (heap_alloc_new w1 _);have HB02:=Lib.hid hb02;clear hb2 hb02))
  | (go_at_call 57;go_loud (refine(adr_calls hv _).mono ?_;rintro e w3 ⟨rfl,hb3⟩;have z3:=(hb3.block (w.heap.size+1) (by omega)).trans z2;have p3:=(hb3.block w.heap.size (by omega)).trans p2;have m3:=(hb3.block w1.heap.size (by omega)).trans m2;have l3: ∀j,w3.cell? ⟨w1.heap.size,j,none⟩=(#[Value.int IntKind.u64 (layH h).base,Value.int IntKind.i64 (layH h).cap,Value.int IntKind.i64 (layH h).to,Value.int IntKind.i64 (layH h).low,Value.int IntKind.i64 (layH h).high,Value.int IntKind.i64 (layH h).old,Value.int IntKind.i64 (layH h).far]:Array Value)[j]? :=fun j=>cell_of_row _ _ _ _ _ _ m3;have hs3:=hb3.size;have HB3:=Lib.hid hb3;clear hb3))
  | (go_at_call 58;go_loud (refine(findL_calls HH.out.lay (adr_u hv) _).mono ?_;rintro e w4 ⟨rfl,hb4⟩;rw[hf];dsimp only;have hs4:=hb4.size;have z4: ∀o,(w4.alloc o).heap[w.heap.size+1]? =some (.cells zeroA 31 (0,0)):=fun o=>(Below.heap_alloc w4 o (w.heap.size+1) (by omega)).trans ((hb4.block (w.heap.size+1) (by omega)).trans z3);have p4: ∀o,(w4.alloc o).heap[w.heap.size]? =some (.cells #[Value.int IntKind.u64 h.base,Value.int IntKind.i64 h.cap,Value.int IntKind.i64 h.to,Value.bool h.cycle,Value.int IntKind.i64 h.scan,src 0,src 1,src 2,src 3,src 4] 31 (0,0)):=fun o=>(Below.heap_alloc w4 o w.heap.size (by omega)).trans ((hb4.block w.heap.size (by omega)).trans p3);have x4: ∀o j,(w4.alloc o).cell? ⟨w.heap.size,j,none⟩=(#[Value.int IntKind.u64 h.base,Value.int IntKind.i64 h.cap,Value.int IntKind.i64 h.to,Value.bool h.cycle,Value.int IntKind.i64 h.scan,src 0,src 1,src 2,src 3,src 4]:Array Value)[j]? :=fun o j=>cell_of_row _ _ _ _ _ _ (p4 o);have hb04: ∀o,Below w.heap.size w (w4.alloc o):=fun o=>((HB02.out.trans (HB3.out.mono (by omega))).trans (hb4.mono (by omega))).alloc (by omega) o;have m4: ∀o,(w4.alloc o).heap[w1.heap.size]? =some (.cells #[Value.int IntKind.u64 (layH h).base,Value.int IntKind.i64 (layH h).cap,Value.int IntKind.i64 (layH h).to,Value.int IntKind.i64 (layH h).low,Value.int IntKind.i64 (layH h).high,Value.int IntKind.i64 (layH h).old,Value.int IntKind.i64 (layH h).far] 62 (0,0)):=fun o=>(Below.heap_alloc w4 o w1.heap.size (by omega)).trans ((hb4.block w1.heap.size (by omega)).trans m3);have k4:=heap_alloc_new w4 (.cells #[.int .i64 4,.int .i64 (at_:Nat)] 65);have HB04:=Lib.hid hb04;clear hb4 hb04 z3 p3 m3 l3 z2 p2 x2 m2))
  | (go_at_call 56;go_loud (refine(Own_walk _ G (fun b hb=>by have:=hG b hb;simp;omega) h HH.out src (fun j hj=>(HS.out j hj).keep (fun b hb=>(HB04.out _).block b (hG b hb)) (fun _ h=>h))).mono ?_;rintro e w5 ⟨x,rfl,hb5,ho5⟩;obtain⟨a0,q0,e0⟩:=own_form (ho5.own 0 (by omega));obtain⟨a1,q1,e1⟩:=own_form (ho5.own 1 (by omega));obtain⟨a2,q2,e2⟩:=own_form (ho5.own 2 (by omega));obtain⟨a3,q3,e3⟩:=own_form (ho5.own 3 (by omega));obtain⟨a4,q4,e4⟩:=own_form (ho5.own 4 (by omega));obtain⟨g,hg⟩:=own_addr (ho5.own 3 (by omega)) e3 (by omega);subst hg;unfold hpA;rw[e0,e1,e2,e3,e4];have hs5:=hb5.size;simp at hs5;have hsz4: ∀o,(w4.alloc o).heap.size=w4.heap.size+1:=fun o=>(by simp);rw[hsz4]at ho5;have hN:=now_of_own ho5 (by omega);unfold workO at hN;rw[e0,e1,e2,e3,e4]at hN;have hb05: ∀o,Below w.heap.size w (w5.alloc o):=fun o=>((HB04.out _).trans (hb5.mono (by simp;omega))).alloc (by omega) o;have z6: ∀o,(w5.alloc o).heap[w.heap.size+1]? =some (.cells zeroA 31 (0,0)):=fun o=>(Below.heap_alloc w5 o (w.heap.size+1) (by omega)).trans ((hb5.block (w.heap.size+1) (by simp;omega)).trans (z4 _));have k6: ∀o,(w5.alloc o).heap[w4.heap.size]? =some (.cells #[.int .i64 4,.int .i64 (at_:Nat)] 65 (0,0)):=fun o=>(Below.heap_alloc w5 o w4.heap.size (by omega)).trans ((hb5.block w4.heap.size (by simp)).trans k4);have m6: ∀o,(w5.alloc o).heap[w1.heap.size]? =some (.cells #[Value.int IntKind.u64 (layH h).base,Value.int IntKind.i64 (layH h).cap,Value.int IntKind.i64 (layH h).to,Value.int IntKind.i64 (layH h).low,Value.int IntKind.i64 (layH h).high,Value.int IntKind.i64 (layH h).old,Value.int IntKind.i64 (layH h).far] 62 (0,0)):=fun o=>(Below.heap_alloc w5 o w1.heap.size (by omega)).trans ((hb5.block w1.heap.size (by simp;omega)).trans (m4 _));have k6c: ∀o j,(w5.alloc o).cell? ⟨w4.heap.size,j,none⟩=(#[.int .i64 4,.int .i64 (at_:Nat)]:Array Value)[j]? :=fun o j=>cell_of_row _ _ _ _ _ _ (k6 o);have m6c: ∀o j,(w5.alloc o).cell? ⟨w1.heap.size,j,none⟩=(#[Value.int IntKind.u64 (layH h).base,Value.int IntKind.i64 (layH h).cap,Value.int IntKind.i64 (layH h).to,Value.int IntKind.i64 (layH h).low,Value.int IntKind.i64 (layH h).high,Value.int IntKind.i64 (layH h).old,Value.int IntKind.i64 (layH h).far]:Array Value)[j]? :=fun o j=>cell_of_row _ _ _ _ _ _ (m6 o);have nb:=hN.blk;rw[e0,e1,e2,e3,e4]at nb;have n6c: ∀j,(w5.alloc (.cells #[Value.int IntKind.u64 h.base,Value.int IntKind.i64 h.cap,Value.int IntKind.i64 h.to,Value.bool h.cycle,Value.int IntKind.i64 h.scan,Value.slice a0 (lsH h 0).length q0,Value.slice a1 (lsH h 1).length q1,Value.slice a2 (lsH h 2).length q2,Value.slice (some ⟨g,0,none⟩) (lsH h 3).length q3,Value.slice a4 (lsH h 4).length q4] 100)).cell? ⟨w5.heap.size,j,none⟩=(#[Value.int IntKind.u64 h.base,Value.int IntKind.i64 h.cap,Value.int IntKind.i64 h.to,Value.bool h.cycle,Value.int IntKind.i64 h.scan,Value.slice a0 (lsH h 0).length q0,Value.slice a1 (lsH h 1).length q1,Value.slice a2 (lsH h 2).length q2,Value.slice (some ⟨g,0,none⟩) (lsH h 3).length q3,Value.slice a4 (lsH h 4).length q4]:Array Value)[j]? :=fun j=>cell_of_row _ _ _ _ _ _ nb;have y6: ∀o j,(w5.alloc o).cell? ⟨w.heap.size+1,j,none⟩=zeroA[j]? :=fun o j=>cell_of_row _ _ _ _ _ _ (z6 o);have f6: ∀o j,(w5.alloc o).frozen? ⟨w.heap.size+1,j,none⟩=false:=fun o j=>frz_of (z6 o);unfold zeroA at y6;have st6:FwSt w (w5.alloc (.cells #[Value.int IntKind.u64 h.base,Value.int IntKind.i64 h.cap,Value.int IntKind.i64 h.to,Value.bool h.cycle,Value.int IntKind.i64 h.scan,Value.slice a0 (lsH h 0).length q0,Value.slice a1 (lsH h 1).length q1,Value.slice a2 (lsH h 2).length q2,Value.slice (some ⟨g,0,none⟩) (lsH h 3).length q3,Value.slice a4 (lsH h 4).length q4] 100)) (w.heap.size+1) w1.heap.size w4.heap.size w5.heap.size (w4.heap.size+1) 4 (at_:Nat) h x:=⟨z6 _,m6 _,k6 _,hN,hb05 _,by omega,by omega,by omega,by omega,by simp;omega⟩;have ST6:=Lib.hid st6;have EP:=Lib.hid e3;clear st6;have HB05:=Lib.hid hb05;have HN:=Lib.hid hN;have E0:=Lib.hid e0;have E1:=Lib.hid e1;have E2:=Lib.hid e2;have E3:=Lib.hid e3;have E4:=Lib.hid e4;clear hb05 hN nb e0 e1 e2 e3 e4 ho5 hb5 z4 p4 x4 m4 k4)))
 obtain⟨sm,hsm⟩: ∃sm:Nat,sz+1=sm:=⟨_,rfl⟩
 have hwr:IntKind.i64.wrap ((sz:Int)+1)=(sm:Int):=by rw[wrap_i ((sz:Int)+1) (by omega) (by omega)];omega
 have hrm2:roomL (layH h) < (sm:Int):=by omega
 have HSM:=Lib.hid hsm
 have HRM:=Lib.hid hrm
 have HLE:=Lib.hid hle
 clear hsm hrm hle
 have hbs:w9.heap.size< ((w9.alloc (.cells #[.int .i64 (sz:Nat),.int .i64 pt] 55))).heap.size:=by simp
 clear m7c m8c k10c k7c k8c y7 y8 f7 f8 n7c n8c c7 c8
 generalize (w9.alloc (.cells #[.int .i64 (sz:Nat),.int .i64 pt] 55))=w10 at*
 have S10:(fun w'=>w'.cell? ⟨w1.heap.size,0,none⟩=some (.int .u64 (layH h).base)∧w'.cell? ⟨w1.heap.size,1,none⟩=some (.int .i64 (layH h).cap)∧w'.cell? ⟨w1.heap.size,2,none⟩=some (.int .i64 (layH h).to)∧w'.cell? ⟨w1.heap.size,3,none⟩=some (.int .i64 (layH h).low)∧w'.cell? ⟨w1.heap.size,4,none⟩=some (.int .i64 (layH h).high)∧w'.cell? ⟨w1.heap.size,5,none⟩=some (.int .i64 (layH h).old)∧w'.cell? ⟨w1.heap.size,6,none⟩=some (.int .i64 (layH h).far)∧w'.cell? ⟨w9.heap.size,0,none⟩=some (.int .i64 (sz:Nat))∧FwSt w w' (w.heap.size+1) w1.heap.size w4.heap.size w5.heap.size (w4.heap.size+1) 4 (at_:Nat) h x∧w9.heap.size<w'.heap.size) w10.drew:=⟨m10c 0,m10c 1,m10c 2,m10c 3,m10c 4,m10c 5,m10c 6,s10c 0,ST10.out.drew,hbs⟩
 have SBel: ∀(u u':World),(fun w'=>w'.cell? ⟨w1.heap.size,0,none⟩=some (.int .u64 (layH h).base)∧w'.cell? ⟨w1.heap.size,1,none⟩=some (.int .i64 (layH h).cap)∧w'.cell? ⟨w1.heap.size,2,none⟩=some (.int .i64 (layH h).to)∧w'.cell? ⟨w1.heap.size,3,none⟩=some (.int .i64 (layH h).low)∧w'.cell? ⟨w1.heap.size,4,none⟩=some (.int .i64 (layH h).high)∧w'.cell? ⟨w1.heap.size,5,none⟩=some (.int .i64 (layH h).old)∧w'.cell? ⟨w1.heap.size,6,none⟩=some (.int .i64 (layH h).far)∧w'.cell? ⟨w9.heap.size,0,none⟩=some (.int .i64 (sz:Nat))∧FwSt w w' (w.heap.size+1) w1.heap.size w4.heap.size w5.heap.size (w4.heap.size+1) 4 (at_:Nat) h x∧w9.heap.size<w'.heap.size) u→Below u.heap.size u u'→(fun w'=>w'.cell? ⟨w1.heap.size,0,none⟩=some (.int .u64 (layH h).base)∧w'.cell? ⟨w1.heap.size,1,none⟩=some (.int .i64 (layH h).cap)∧w'.cell? ⟨w1.heap.size,2,none⟩=some (.int .i64 (layH h).to)∧w'.cell? ⟨w1.heap.size,3,none⟩=some (.int .i64 (layH h).low)∧w'.cell? ⟨w1.heap.size,4,none⟩=some (.int .i64 (layH h).high)∧w'.cell? ⟨w1.heap.size,5,none⟩=some (.int .i64 (layH h).old)∧w'.cell? ⟨w1.heap.size,6,none⟩=some (.int .i64 (layH h).far)∧w'.cell? ⟨w9.heap.size,0,none⟩=some (.int .i64 (sz:Nat))∧FwSt w w' (w.heap.size+1) w1.heap.size w4.heap.size w5.heap.size (w4.heap.size+1) 4 (at_:Nat) h x∧w9.heap.size<w'.heap.size) u':=by
  rintro u u' ⟨c0,c1,c2,c3,c4,c5,c6,c7,st,hs⟩ hb
  have hl:=st.lbB
  have hz:=st.sz
  exact⟨(hb.cell (by show w1.heap.size<u.heap.size;omega)).trans c0,(hb.cell (by show w1.heap.size<u.heap.size;omega)).trans c1,(hb.cell (by show w1.heap.size<u.heap.size;omega)).trans c2,(hb.cell (by show w1.heap.size<u.heap.size;omega)).trans c3,(hb.cell (by show w1.heap.size<u.heap.size;omega)).trans c4,(hb.cell (by show w1.heap.size<u.heap.size;omega)).trans c5,(hb.cell (by show w1.heap.size<u.heap.size;omega)).trans c6,(hb.cell hs).trans c7,st.below hb,by have:=hb.size;omega⟩
 go_region_held3 (fun w'=>w'.cell? ⟨w1.heap.size,0,none⟩=some (.int .u64 (layH h).base)∧w'.cell? ⟨w1.heap.size,1,none⟩=some (.int .i64 (layH h).cap)∧w'.cell? ⟨w1.heap.size,2,none⟩=some (.int .i64 (layH h).to)∧w'.cell? ⟨w1.heap.size,3,none⟩=some (.int .i64 (layH h).low)∧w'.cell? ⟨w1.heap.size,4,none⟩=some (.int .i64 (layH h).high)∧w'.cell? ⟨w1.heap.size,5,none⟩=some (.int .i64 (layH h).old)∧w'.cell? ⟨w1.heap.size,6,none⟩=some (.int .i64 (layH h).far)∧w'.cell? ⟨w9.heap.size,0,none⟩=some (.int .i64 (sz:Nat))∧FwSt w w' (w.heap.size+1) w1.heap.size w4.heap.size w5.heap.size (w4.heap.size+1) 4 (at_:Nat) h x∧w9.heap.size<w'.heap.size) (first|exact S10|assumption)
  (first| (go_at_call 61;refine(roomL_calls HH.out.lay _).mono ?_;rintro e w11 ⟨rfl,hb11⟩;have S11:=SBel _ _ S10 hb11))
 obtain⟨-,-,-,-,-,-,-,c11,st11,hs11⟩:=S11
 clear S10 SBel s10c y10 f10 n10c m10c hb11 hbs
 rename_i hHeld
 clear hHeld
 have res11:=st11.res
 have y11: ∀j,(w11).cell? ⟨w.heap.size+1,j,none⟩=zeroA[j]? :=fun j=>cell_of_row _ _ _ _ _ _ res11
 unfold zeroA at y11
 have f11: ∀j,(w11).frozen? ⟨w.heap.size+1,j,none⟩=false:=fun j=>frz_of res11
 have nb11:=st11.now.blk
 rw[E0.out,E1.out,E2.out,E3.out,E4.out]at nb11
 have n11c: ∀j,(w11).cell? ⟨w5.heap.size,j,none⟩=(#[Value.int IntKind.u64 h.base,Value.int IntKind.i64 h.cap,Value.int IntKind.i64 h.to,Value.bool h.cycle,Value.int IntKind.i64 h.scan,Value.slice a0 (lsH h 0).length q0,Value.slice a1 (lsH h 1).length q1,Value.slice a2 (lsH h 2).length q2,Value.slice (some ⟨g,0,none⟩) (lsH h 3).length q3,Value.slice a4 (lsH h 4).length q4]:Array Value)[j]? :=fun j=>cell_of_row _ _ _ _ _ _ nb11
 have k11c: ∀j,(w11).cell? ⟨w4.heap.size,j,none⟩=(#[.int .i64 4,.int .i64 (at_:Nat)]:Array Value)[j]? :=fun j=>cell_of_row _ _ _ _ _ _ st11.plc
 have m11c: ∀j,(w11).cell? ⟨w1.heap.size,j,none⟩=(#[Value.int IntKind.u64 (layH h).base,Value.int IntKind.i64 (layH h).cap,Value.int IntKind.i64 (layH h).to,Value.int IntKind.i64 (layH h).low,Value.int IntKind.i64 (layH h).high,Value.int IntKind.i64 (layH h).old,Value.int IntKind.i64 (layH h).far]:Array Value)[j]? :=fun j=>cell_of_row _ _ _ _ _ _ st11.lay
 have hop11:=st11.now.own.own 3 (by omega)
 rw[EP.out]at hop11
 have cw11:=own_cell hop11 hwd
 clear nb11 hop11 hm hqm hat2
 have ST11:=Lib.hid st11
 clear st11
 go_wp2
 have hrmz:roomL (layH h) < (sz:Int)+1:=by have:=HSM.out;omega
 have hpH:h.far.getD at_ 0=wd:=by show(lsH h 3).getD at_ 0=wd;simp[List.getD,hwd]
 have hpL:h.far.length=(lsH h 3).length:=rfl
 have hfw:fwd h v=(0,Hp.zero,7):=by simp[fwd,fwdC,hr,hv0,h1,hf,-List.getD_eq_getElem?_getD,hpH,hpL,hgo,hun,her,Nat.not_lt.2 HLE.out,hrmz]
 have y:=put10_cells ST11.out.res (.int .u64 0) (.int .i64 0) (.int .i64 0) (.bool false) (.int .i64 0) (.slice none 0 0) (.slice none 0 0) (.slice none 0 0) (.slice none 0 0) (.slice none 0 0)
 rw[hfw]
 refine bodyPost_ret (v:= .tuple #[.int .u64 0,.agg zeroA,.int .i64 7]) ?_ rfl ?_
 ·simp[results,Try.results20,go_sem,y,zeroA]
 ·refine⟨fun _=> .slice none 0 0,?_,?_,zero_rd _ _⟩
  ·simp[hpA,Hp.zero,zeroA]
  ·exact put10_below ST11.out.bel (by omega) _ _ _ _ _ _ _ _ _ _
theorem Forward_carry4(w:World)(G:Nat→Prop)(hG: ∀b,G b→b<w.heap.size)(h:Hp)(hh:h.ok)(src:Nat→Value)(hs: ∀j,j<5→Rd w G (.sl ((lsH h j).map vu)) (src j))(v:Int)(hv:U64 v)
  (hr:rightL (layH h)=true) (hv0: ¬v=0) (h1:(adr v).2=0) (part:Int) (at_:Nat) (hf:findL (layH h) (adr v).1=(part,(at_:Int),0)) (hp:part=4)
  (wd:Int) (hwd:(lsH h 3)[at_]? =some wd) (hat:at_< (lsH h 3).length) (hwu:U64 wd) (hgo: ¬(adr wd).2=0) (sz:Nat) (pt er:Int) (hun:unpk wd=((sz:Int),pt,er)) (hsz:sz≤255) (her:er=0) (hle:at_+(sz+1)≤(lsH h 3).length) (hrm: ¬roomL (layH h) < ((sz+1:Nat):Int)):
  Calls Try.prog 20 #[hpA h src,.int .u64 v] w (FwdPost w (fwd h v)):=by
 have HS:=Lib.hid hs
 have HH:=Lib.hid hh
 clear hs hh
 unfold hpA
 go_enter Try.func20,Try.ntmps20
 subst hp
 go_wp2_with (first
  | (go_at_call 59;go_loud (refine(from_walk _ (w4.heap.size+1) w5.heap.size h x ST6.out.now HH.out 3 at_ (by omega) g q3 EP.out (by omega)).mono ?_;rintro e w7 ⟨rfl,hb7⟩;obtain⟨m,hm⟩: ∃m,(lsH h 3).length-at_=m:=⟨_,rfl⟩;obtain⟨qm,hqm⟩: ∃qm,q3-at_=qm:=⟨_,rfl⟩;rw[hm,hqm];have hm0:0<m:=(by omega);have hm0i:(0:Int) < (m:Int):=(by omega);have hat2:at_+0=at_:=rfl;have st7:=ST6.out.below hb7;have hs7:=hb7.size;simp at hs7;have res7:=st7.res;have y7: ∀j,(w7).cell? ⟨w.heap.size+1,j,none⟩=zeroA[j]? :=fun j=>cell_of_row _ _ _ _ _ _ res7;unfold zeroA at y7;have f7: ∀j,(w7).frozen? ⟨w.heap.size+1,j,none⟩=false:=fun j=>frz_of res7;have nb7:=st7.now.blk;rw[E0.out,E1.out,E2.out,E3.out,E4.out]at nb7;have n7c: ∀j,(w7).cell? ⟨w5.heap.size,j,none⟩=(#[Value.int IntKind.u64 h.base,Value.int IntKind.i64 h.cap,Value.int IntKind.i64 h.to,Value.bool h.cycle,Value.int IntKind.i64 h.scan,Value.slice a0 (lsH h 0).length q0,Value.slice a1 (lsH h 1).length q1,Value.slice a2 (lsH h 2).length q2,Value.slice (some ⟨g,0,none⟩) (lsH h 3).length q3,Value.slice a4 (lsH h 4).length q4]:Array Value)[j]? :=fun j=>cell_of_row _ _ _ _ _ _ nb7;have k7c: ∀j,(w7).cell? ⟨w4.heap.size,j,none⟩=(#[.int .i64 4,.int .i64 (at_:Nat)]:Array Value)[j]? :=fun j=>cell_of_row _ _ _ _ _ _ st7.plc;have m7c: ∀j,(w7).cell? ⟨w1.heap.size,j,none⟩=(#[Value.int IntKind.u64 (layH h).base,Value.int IntKind.i64 (layH h).cap,Value.int IntKind.i64 (layH h).to,Value.int IntKind.i64 (layH h).low,Value.int IntKind.i64 (layH h).high,Value.int IntKind.i64 (layH h).old,Value.int IntKind.i64 (layH h).far]:Array Value)[j]? :=fun j=>cell_of_row _ _ _ _ _ _ st7.lay;have hop7:=st7.now.own.own 3 (by omega);rw[EP.out]at hop7;have c7:=own_cell hop7 hwd;clear nb7 hop7;have ST7:=Lib.hid st7;clear hb7 st7))
  | (go_at_call 57;go_loud (have st7:=ST7.out;refine(adr_calls hwu _).mono ?_;rintro e w8 ⟨rfl,hb8⟩;have st8:=st7.below hb8;have hs8:=hb8.size;have res8:=st8.res;have y8: ∀j,(w8).cell? ⟨w.heap.size+1,j,none⟩=zeroA[j]? :=fun j=>cell_of_row _ _ _ _ _ _ res8;unfold zeroA at y8;have f8: ∀j,(w8).frozen? ⟨w.heap.size+1,j,none⟩=false:=fun j=>frz_of res8;have nb8:=st8.now.blk;rw[E0.out,E1.out,E2.out,E3.out,E4.out]at nb8;have n8c: ∀j,(w8).cell? ⟨w5.heap.size,j,none⟩=(#[Value.int IntKind.u64 h.base,Value.int IntKind.i64 h.cap,Value.int IntKind.i64 h.to,Value.bool h.cycle,Value.int IntKind.i64 h.scan,Value.slice a0 (lsH h 0).length q0,Value.slice a1 (lsH h 1).length q1,Value.slice a2 (lsH h 2).length q2,Value.slice (some ⟨g,0,none⟩) (lsH h 3).length q3,Value.slice a4 (lsH h 4).length q4]:Array Value)[j]? :=fun j=>cell_of_row _ _ _ _ _ _ nb8;have k8c: ∀j,(w8).cell? ⟨w4.heap.size,j,none⟩=(#[.int .i64 4,.int .i64 (at_:Nat)]:Array Value)[j]? :=fun j=>cell_of_row _ _ _ _ _ _ st8.plc;have m8c: ∀j,(w8).cell? ⟨w1.heap.size,j,none⟩=(#[Value.int IntKind.u64 (layH h).base,Value.int IntKind.i64 (layH h).cap,Value.int IntKind.i64 (layH h).to,Value.int IntKind.i64 (layH h).low,Value.int IntKind.i64 (layH h).high,Value.int IntKind.i64 (layH h).old,Value.int IntKind.i64 (layH h).far]:Array Value)[j]? :=fun j=>cell_of_row _ _ _ _ _ _ st8.lay;have hop8:=st8.now.own.own 3 (by omega);rw[EP.out]at hop8;have c8:=own_cell hop8 hwd;clear nb8 hop8;have ST8:=Lib.hid st8;clear hb8 st8 st7))
  | (go_at_call 60;go_loud (refine(unpk_calls hwu _).mono ?_;rintro e w9 ⟨rfl,hb9⟩;rw[hun];dsimp only;have hs9:=hb9.size;have st10:FwSt w (w9.alloc (.cells #[.int .i64 (sz:Nat),.int .i64 pt] 55)) _ _ _ _ _ _ _ h x:=(ST8.out.below hb9).below ((Below.refl _ _).alloc (Nat.le_refl _) _);have res10:=st10.res;have y10: ∀j,((w9.alloc (.cells #[.int .i64 (sz:Nat),.int .i64 pt] 55))).cell? ⟨w.heap.size+1,j,none⟩=zeroA[j]? :=fun j=>cell_of_row _ _ _ _ _ _ res10;unfold zeroA at y10;have f10: ∀j,((w9.alloc (.cells #[.int .i64 (sz:Nat),.int .i64 pt] 55))).frozen? ⟨w.heap.size+1,j,none⟩=false:=fun j=>frz_of res10;have nb10:=st10.now.blk;rw[E0.out,E1.out,E2.out,E3.out,E4.out]at nb10;have n10c: ∀j,((w9.alloc (.cells #[.int .i64 (sz:Nat),.int .i64 pt] 55))).cell? ⟨w5.heap.size,j,none⟩=(#[Value.int IntKind.u64 h.base,Value.int IntKind.i64 h.cap,Value.int IntKind.i64 h.to,Value.bool h.cycle,Value.int IntKind.i64 h.scan,Value.slice a0 (lsH h 0).length q0,Value.slice a1 (lsH h 1).length q1,Value.slice a2 (lsH h 2).length q2,Value.slice (some ⟨g,0,none⟩) (lsH h 3).length q3,Value.slice a4 (lsH h 4).length q4]:Array Value)[j]? :=fun j=>cell_of_row _ _ _ _ _ _ nb10;have k10c: ∀j,((w9.alloc (.cells #[.int .i64 (sz:Nat),.int .i64 pt] 55))).cell? ⟨w4.heap.size,j,none⟩=(#[.int .i64 4,.int .i64 (at_:Nat)]:Array Value)[j]? :=fun j=>cell_of_row _ _ _ _ _ _ st10.plc;have m10c: ∀j,((w9.alloc (.cells #[.int .i64 (sz:Nat),.int .i64 pt] 55))).cell? ⟨w1.heap.size,j,none⟩=(#[Value.int IntKind.u64 (layH h).base,Value.int IntKind.i64 (layH h).cap,Value.int IntKind.i64 (layH h).to,Value.int IntKind.i64 (layH h).low,Value.int IntKind.i64 (layH h).high,Value.int IntKind.i64 (layH h).old,Value.int IntKind.i64 (layH h).far]:Array Value)[j]? :=fun j=>cell_of_row _ _ _ _ _ _ st10.lay;have hop10:=st10.now.own.own 3 (by omega);rw[EP.out]at hop10;have c10:=own_cell hop10 hwd;clear nb10 hop10;have s10c: ∀j,(w9.alloc (.cells #[.int .i64 (sz:Nat),.int .i64 pt] 55)).cell? ⟨w9.heap.size,j,none⟩=(#[.int .i64 (sz:Nat),.int .i64 pt]:Array Value)[j]? :=fun j=>cell_of_row _ _ _ _ _ _ (heap_alloc_new w9 _);have ST10:=Lib.hid st10;have hml:m≤1000000:=(by have:=lsH_len HH.out 3;omega);have hl10:at_+m=(lsH h 3).length:=(by omega);clear hb9 st10))
  | (go_at_call 54;go_loud (refine(Layout_calls (h:=h) (x:=src) (G:=G) (fun c hc=>by have:=hG c hc;simp;omega) (fun j hj=>(HS.out j hj).keep (fun b hb=>by have:=hG b hb;rw[Below.heap_alloc _ _ _ (by simp;omega),Below.heap_alloc _ _ _ (by omega)]) (fun _ h=>h))).mono ?_;rintro e w1 ⟨rfl,hb1⟩;unfold lyA;have z1:=(hb1.block (w.heap.size+1) (by simp)).trans (zero_new w _);have p1:=(hb1.block w.heap.size (by simp;omega)).trans ((Below.heap_alloc (w.alloc (.cells #[Value.int IntKind.u64 h.base,Value.int IntKind.i64 h.cap,Value.int IntKind.i64 h.to,Value.bool h.cycle,Value.int IntKind.i64 h.scan,src 0,src 1,src 2,src 3,src 4] 31)) _ w.heap.size (by simp)).trans (heap_alloc_new w _));have hs1:=hb1.size;simp at hs1;have HB1:=Lib.hid hb1;clear hb1))
  | (go_at_call 55;go_loud (refine(rightL_calls HH.out.lay _).mono ?_;rintro e w2 ⟨rfl,hb2⟩;rw[hr];have z2:=(hb2.block (w.heap.size+1) (by simp;omega)).trans ((Below.heap_alloc w1 _ (w.heap.size+1) (by omega)).trans z1);have p2:=(hb2.block w.heap.size (by simp;omega)).trans ((Below.heap_alloc w1 _ w.heap.size (by omega)).trans p1);have x2: ∀j,w2.cell? ⟨w.heap.size,j,none⟩=(#[Value.int IntKind.u64 h.base,Value.int IntKind.i64 h.cap,Value.int IntKind.i64 h.to,Value.bool h.cycle,Value.int IntKind.i64 h.scan,src 0,src 1,src 2,src 3,src 4]:Array Value)[j]? :=fun j=>cell_of_row _ _ _ _ _ _ p2;have hb02:Below w.heap.size w w2:=((((((Below.refl _ _).alloc (Nat.le_refl _) _).alloc (by simp) _).trans (HB1.out.mono (by simp;omega))).alloc (by omega) _).trans (hb2.mono (by simp;omega)));have hs2:=hb2.size;simp at hs2;have m2:=(hb2.block w1.heap.size (by simp)).trans (heap_alloc_new w1 _);have HB02:=Lib.hid hb02;clear hb2 hb02))
  | (go_at_call 57;go_loud (refine(adr_calls hv _).mono ?_;rintro e w3 ⟨rfl,hb3⟩;have z3:=(hb3.block (w.heap.size+1) (by omega)).trans z2;have p3:=(hb3.block w.heap.size (by omega)).trans p2;have m3:=(hb3.block w1.heap.size (by omega)).trans m2;have l3: ∀j,w3.cell? ⟨w1.heap.size,j,none⟩=(#[Value.int IntKind.u64 (layH h).base,Value.int IntKind.i64 (layH h).cap,Value.int IntKind.i64 (layH h).to,Value.int IntKind.i64 (layH h).low,Value.int IntKind.i64 (layH h).high,Value.int IntKind.i64 (layH h).old,Value.int IntKind.i64 (layH h).far]:Array Value)[j]? :=fun j=>cell_of_row _ _ _ _ _ _ m3;have hs3:=hb3.size;have HB3:=Lib.hid hb3;clear hb3))
  | (go_at_call 58;go_loud (refine(findL_calls HH.out.lay (adr_u hv) _).mono ?_;rintro e w4 ⟨rfl,hb4⟩;rw[hf];dsimp only;have hs4:=hb4.size;have z4: ∀o,(w4.alloc o).heap[w.heap.size+1]? =some (.cells zeroA 31 (0,0)):=fun o=>(Below.heap_alloc w4 o (w.heap.size+1) (by omega)).trans ((hb4.block (w.heap.size+1) (by omega)).trans z3);have p4: ∀o,(w4.alloc o).heap[w.heap.size]? =some (.cells #[Value.int IntKind.u64 h.base,Value.int IntKind.i64 h.cap,Value.int IntKind.i64 h.to,Value.bool h.cycle,Value.int IntKind.i64 h.scan,src 0,src 1,src 2,src 3,src 4] 31 (0,0)):=fun o=>(Below.heap_alloc w4 o w.heap.size (by omega)).trans ((hb4.block w.heap.size (by omega)).trans p3);have x4: ∀o j,(w4.alloc o).cell? ⟨w.heap.size,j,none⟩=(#[Value.int IntKind.u64 h.base,Value.int IntKind.i64 h.cap,Value.int IntKind.i64 h.to,Value.bool h.cycle,Value.int IntKind.i64 h.scan,src 0,src 1,src 2,src 3,src 4]:Array Value)[j]? :=fun o j=>cell_of_row _ _ _ _ _ _ (p4 o);have hb04: ∀o,Below w.heap.size w (w4.alloc o):=fun o=>((HB02.out.trans (HB3.out.mono (by omega))).trans (hb4.mono (by omega))).alloc (by omega) o;have m4: ∀o,(w4.alloc o).heap[w1.heap.size]? =some (.cells #[Value.int IntKind.u64 (layH h).base,Value.int IntKind.i64 (layH h).cap,Value.int IntKind.i64 (layH h).to,Value.int IntKind.i64 (layH h).low,Value.int IntKind.i64 (layH h).high,Value.int IntKind.i64 (layH h).old,Value.int IntKind.i64 (layH h).far] 62 (0,0)):=fun o=>(Below.heap_alloc w4 o w1.heap.size (by omega)).trans ((hb4.block w1.heap.size (by omega)).trans m3);have k4:=heap_alloc_new w4 (.cells #[.int .i64 4,.int .i64 (at_:Nat)] 65);have HB04:=Lib.hid hb04;clear hb4 hb04 z3 p3 m3 l3 z2 p2 x2 m2))
  | (go_at_call 56;go_loud (refine(Own_walk _ G (fun b hb=>by have:=hG b hb;simp;omega) h HH.out src (fun j hj=>(HS.out j hj).keep (fun b hb=>(HB04.out _).block b (hG b hb)) (fun _ h=>h))).mono ?_;rintro e w5 ⟨x,rfl,hb5,ho5⟩;obtain⟨a0,q0,e0⟩:=own_form (ho5.own 0 (by omega));obtain⟨a1,q1,e1⟩:=own_form (ho5.own 1 (by omega));obtain⟨a2,q2,e2⟩:=own_form (ho5.own 2 (by omega));obtain⟨a3,q3,e3⟩:=own_form (ho5.own 3 (by omega));obtain⟨a4,q4,e4⟩:=own_form (ho5.own 4 (by omega));obtain⟨g,hg⟩:=own_addr (ho5.own 3 (by omega)) e3 (by omega);subst hg;unfold hpA;rw[e0,e1,e2,e3,e4];have hs5:=hb5.size;simp at hs5;have hsz4: ∀o,(w4.alloc o).heap.size=w4.heap.size+1:=fun o=>(by simp);rw[hsz4]at ho5;have hN:=now_of_own ho5 (by omega);unfold workO at hN;rw[e0,e1,e2,e3,e4]at hN;have hb05: ∀o,Below w.heap.size w (w5.alloc o):=fun o=>((HB04.out _).trans (hb5.mono (by simp;omega))).alloc (by omega) o;have z6: ∀o,(w5.alloc o).heap[w.heap.size+1]? =some (.cells zeroA 31 (0,0)):=fun o=>(Below.heap_alloc w5 o (w.heap.size+1) (by omega)).trans ((hb5.block (w.heap.size+1) (by simp;omega)).trans (z4 _));have k6: ∀o,(w5.alloc o).heap[w4.heap.size]? =some (.cells #[.int .i64 4,.int .i64 (at_:Nat)] 65 (0,0)):=fun o=>(Below.heap_alloc w5 o w4.heap.size (by omega)).trans ((hb5.block w4.heap.size (by simp)).trans k4);have m6: ∀o,(w5.alloc o).heap[w1.heap.size]? =some (.cells #[Value.int IntKind.u64 (layH h).base,Value.int IntKind.i64 (layH h).cap,Value.int IntKind.i64 (layH h).to,Value.int IntKind.i64 (layH h).low,Value.int IntKind.i64 (layH h).high,Value.int IntKind.i64 (layH h).old,Value.int IntKind.i64 (layH h).far] 62 (0,0)):=fun o=>(Below.heap_alloc w5 o w1.heap.size (by omega)).trans ((hb5.block w1.heap.size (by simp;omega)).trans (m4 _));have k6c: ∀o j,(w5.alloc o).cell? ⟨w4.heap.size,j,none⟩=(#[.int .i64 4,.int .i64 (at_:Nat)]:Array Value)[j]? :=fun o j=>cell_of_row _ _ _ _ _ _ (k6 o);have m6c: ∀o j,(w5.alloc o).cell? ⟨w1.heap.size,j,none⟩=(#[Value.int IntKind.u64 (layH h).base,Value.int IntKind.i64 (layH h).cap,Value.int IntKind.i64 (layH h).to,Value.int IntKind.i64 (layH h).low,Value.int IntKind.i64 (layH h).high,Value.int IntKind.i64 (layH h).old,Value.int IntKind.i64 (layH h).far]:Array Value)[j]? :=fun o j=>cell_of_row _ _ _ _ _ _ (m6 o);have nb:=hN.blk;rw[e0,e1,e2,e3,e4]at nb;have n6c: ∀j,(w5.alloc (.cells #[Value.int IntKind.u64 h.base,Value.int IntKind.i64 h.cap,Value.int IntKind.i64 h.to,Value.bool h.cycle,Value.int IntKind.i64 h.scan,Value.slice a0 (lsH h 0).length q0,Value.slice a1 (lsH h 1).length q1,Value.slice a2 (lsH h 2).length q2,Value.slice (some ⟨g,0,none⟩) (lsH h 3).length q3,Value.slice a4 (lsH h 4).length q4] 100)).cell? ⟨w5.heap.size,j,none⟩=(#[Value.int IntKind.u64 h.base,Value.int IntKind.i64 h.cap,Value.int IntKind.i64 h.to,Value.bool h.cycle,Value.int IntKind.i64 h.scan,Value.slice a0 (lsH h 0).length q0,Value.slice a1 (lsH h 1).length q1,Value.slice a2 (lsH h 2).length q2,Value.slice (some ⟨g,0,none⟩) (lsH h 3).length q3,Value.slice a4 (lsH h 4).length q4]:Array Value)[j]? :=fun j=>cell_of_row _ _ _ _ _ _ nb;have y6: ∀o j,(w5.alloc o).cell? ⟨w.heap.size+1,j,none⟩=zeroA[j]? :=fun o j=>cell_of_row _ _ _ _ _ _ (z6 o);have f6: ∀o j,(w5.alloc o).frozen? ⟨w.heap.size+1,j,none⟩=false:=fun o j=>frz_of (z6 o);unfold zeroA at y6;have st6:FwSt w (w5.alloc (.cells #[Value.int IntKind.u64 h.base,Value.int IntKind.i64 h.cap,Value.int IntKind.i64 h.to,Value.bool h.cycle,Value.int IntKind.i64 h.scan,Value.slice a0 (lsH h 0).length q0,Value.slice a1 (lsH h 1).length q1,Value.slice a2 (lsH h 2).length q2,Value.slice (some ⟨g,0,none⟩) (lsH h 3).length q3,Value.slice a4 (lsH h 4).length q4] 100)) (w.heap.size+1) w1.heap.size w4.heap.size w5.heap.size (w4.heap.size+1) 4 (at_:Nat) h x:=⟨z6 _,m6 _,k6 _,hN,hb05 _,by omega,by omega,by omega,by omega,by simp;omega⟩;have ST6:=Lib.hid st6;have EP:=Lib.hid e3;clear st6;have HB05:=Lib.hid hb05;have HN:=Lib.hid hN;have E0:=Lib.hid e0;have E1:=Lib.hid e1;have E2:=Lib.hid e2;have E3:=Lib.hid e3;have E4:=Lib.hid e4;clear hb05 hN nb e0 e1 e2 e3 e4 ho5 hb5 z4 p4 x4 m4 k4)))
 obtain⟨sm,hsm⟩: ∃sm:Nat,sz+1=sm:=⟨_,rfl⟩
 have hwr:IntKind.i64.wrap ((sz:Int)+1)=(sm:Int):=by rw[wrap_i ((sz:Int)+1) (by omega) (by omega)];omega
 have hrm2: ¬(roomL (layH h) < (sm:Int)):=by omega
 have hopc:=ST10.out.now.own.own 3 (by omega)
 rw[EP.out]at hopc
 have hcap:=own_cap hopc (by omega)
 have hsm1:(sm:Int)≤(qm:Int):=by omega
 have hsm0:(0:Int)≤(sm:Int):=by omega
 clear hopc
 have HSM:=Lib.hid hsm
 have HRM:=Lib.hid hrm
 have HLE:=Lib.hid hle
 clear hsm hrm hle
 have hbs:w9.heap.size< ((w9.alloc (.cells #[.int .i64 (sz:Nat),.int .i64 pt] 55))).heap.size:=by simp
 clear m7c m8c k10c k7c k8c y7 y8 f7 f8 n7c n8c c7 c8
 generalize (w9.alloc (.cells #[.int .i64 (sz:Nat),.int .i64 pt] 55))=w10 at*
 have S10:(fun w'=>w'.cell? ⟨w1.heap.size,0,none⟩=some (.int .u64 (layH h).base)∧w'.cell? ⟨w1.heap.size,1,none⟩=some (.int .i64 (layH h).cap)∧w'.cell? ⟨w1.heap.size,2,none⟩=some (.int .i64 (layH h).to)∧w'.cell? ⟨w1.heap.size,3,none⟩=some (.int .i64 (layH h).low)∧w'.cell? ⟨w1.heap.size,4,none⟩=some (.int .i64 (layH h).high)∧w'.cell? ⟨w1.heap.size,5,none⟩=some (.int .i64 (layH h).old)∧w'.cell? ⟨w1.heap.size,6,none⟩=some (.int .i64 (layH h).far)∧w'.cell? ⟨w9.heap.size,0,none⟩=some (.int .i64 (sz:Nat))∧FwSt w w' (w.heap.size+1) w1.heap.size w4.heap.size w5.heap.size (w4.heap.size+1) 4 (at_:Nat) h x∧w9.heap.size<w'.heap.size) w10.drew:=⟨m10c 0,m10c 1,m10c 2,m10c 3,m10c 4,m10c 5,m10c 6,s10c 0,ST10.out.drew,hbs⟩
 have SBel: ∀(u u':World),(fun w'=>w'.cell? ⟨w1.heap.size,0,none⟩=some (.int .u64 (layH h).base)∧w'.cell? ⟨w1.heap.size,1,none⟩=some (.int .i64 (layH h).cap)∧w'.cell? ⟨w1.heap.size,2,none⟩=some (.int .i64 (layH h).to)∧w'.cell? ⟨w1.heap.size,3,none⟩=some (.int .i64 (layH h).low)∧w'.cell? ⟨w1.heap.size,4,none⟩=some (.int .i64 (layH h).high)∧w'.cell? ⟨w1.heap.size,5,none⟩=some (.int .i64 (layH h).old)∧w'.cell? ⟨w1.heap.size,6,none⟩=some (.int .i64 (layH h).far)∧w'.cell? ⟨w9.heap.size,0,none⟩=some (.int .i64 (sz:Nat))∧FwSt w w' (w.heap.size+1) w1.heap.size w4.heap.size w5.heap.size (w4.heap.size+1) 4 (at_:Nat) h x∧w9.heap.size<w'.heap.size) u→Below u.heap.size u u'→(fun w'=>w'.cell? ⟨w1.heap.size,0,none⟩=some (.int .u64 (layH h).base)∧w'.cell? ⟨w1.heap.size,1,none⟩=some (.int .i64 (layH h).cap)∧w'.cell? ⟨w1.heap.size,2,none⟩=some (.int .i64 (layH h).to)∧w'.cell? ⟨w1.heap.size,3,none⟩=some (.int .i64 (layH h).low)∧w'.cell? ⟨w1.heap.size,4,none⟩=some (.int .i64 (layH h).high)∧w'.cell? ⟨w1.heap.size,5,none⟩=some (.int .i64 (layH h).old)∧w'.cell? ⟨w1.heap.size,6,none⟩=some (.int .i64 (layH h).far)∧w'.cell? ⟨w9.heap.size,0,none⟩=some (.int .i64 (sz:Nat))∧FwSt w w' (w.heap.size+1) w1.heap.size w4.heap.size w5.heap.size (w4.heap.size+1) 4 (at_:Nat) h x∧w9.heap.size<w'.heap.size) u':=by
  rintro u u' ⟨c0,c1,c2,c3,c4,c5,c6,c7,st,hs⟩ hb
  have hl:=st.lbB
  have hz:=st.sz
  exact⟨(hb.cell (by show w1.heap.size<u.heap.size;omega)).trans c0,(hb.cell (by show w1.heap.size<u.heap.size;omega)).trans c1,(hb.cell (by show w1.heap.size<u.heap.size;omega)).trans c2,(hb.cell (by show w1.heap.size<u.heap.size;omega)).trans c3,(hb.cell (by show w1.heap.size<u.heap.size;omega)).trans c4,(hb.cell (by show w1.heap.size<u.heap.size;omega)).trans c5,(hb.cell (by show w1.heap.size<u.heap.size;omega)).trans c6,(hb.cell hs).trans c7,st.below hb,by have:=hb.size;omega⟩
 go_region_held3 (fun w'=>w'.cell? ⟨w1.heap.size,0,none⟩=some (.int .u64 (layH h).base)∧w'.cell? ⟨w1.heap.size,1,none⟩=some (.int .i64 (layH h).cap)∧w'.cell? ⟨w1.heap.size,2,none⟩=some (.int .i64 (layH h).to)∧w'.cell? ⟨w1.heap.size,3,none⟩=some (.int .i64 (layH h).low)∧w'.cell? ⟨w1.heap.size,4,none⟩=some (.int .i64 (layH h).high)∧w'.cell? ⟨w1.heap.size,5,none⟩=some (.int .i64 (layH h).old)∧w'.cell? ⟨w1.heap.size,6,none⟩=some (.int .i64 (layH h).far)∧w'.cell? ⟨w9.heap.size,0,none⟩=some (.int .i64 (sz:Nat))∧FwSt w w' (w.heap.size+1) w1.heap.size w4.heap.size w5.heap.size (w4.heap.size+1) 4 (at_:Nat) h x∧w9.heap.size<w'.heap.size) (first|exact S10|assumption)
  (first| (go_at_call 61;refine(roomL_calls HH.out.lay _).mono ?_;rintro e w11 ⟨rfl,hb11⟩;have S11:=SBel _ _ S10 hb11))
 obtain⟨-,-,-,-,-,-,-,c11,st11,hs11⟩:=S11
 clear S10 SBel s10c y10 f10 n10c m10c hb11 hbs
 rename_i hHeld
 clear hHeld
 have res11:=st11.res
 have y11: ∀j,(w11).cell? ⟨w.heap.size+1,j,none⟩=zeroA[j]? :=fun j=>cell_of_row _ _ _ _ _ _ res11
 unfold zeroA at y11
 have f11: ∀j,(w11).frozen? ⟨w.heap.size+1,j,none⟩=false:=fun j=>frz_of res11
 have nb11:=st11.now.blk
 rw[E0.out,E1.out,E2.out,E3.out,E4.out]at nb11
 have n11c: ∀j,(w11).cell? ⟨w5.heap.size,j,none⟩=(#[Value.int IntKind.u64 h.base,Value.int IntKind.i64 h.cap,Value.int IntKind.i64 h.to,Value.bool h.cycle,Value.int IntKind.i64 h.scan,Value.slice a0 (lsH h 0).length q0,Value.slice a1 (lsH h 1).length q1,Value.slice a2 (lsH h 2).length q2,Value.slice (some ⟨g,0,none⟩) (lsH h 3).length q3,Value.slice a4 (lsH h 4).length q4]:Array Value)[j]? :=fun j=>cell_of_row _ _ _ _ _ _ nb11
 have k11c: ∀j,(w11).cell? ⟨w4.heap.size,j,none⟩=(#[.int .i64 4,.int .i64 (at_:Nat)]:Array Value)[j]? :=fun j=>cell_of_row _ _ _ _ _ _ st11.plc
 have m11c: ∀j,(w11).cell? ⟨w1.heap.size,j,none⟩=(#[Value.int IntKind.u64 (layH h).base,Value.int IntKind.i64 (layH h).cap,Value.int IntKind.i64 (layH h).to,Value.int IntKind.i64 (layH h).low,Value.int IntKind.i64 (layH h).high,Value.int IntKind.i64 (layH h).old,Value.int IntKind.i64 (layH h).far]:Array Value)[j]? :=fun j=>cell_of_row _ _ _ _ _ _ st11.lay
 have hop11:=st11.now.own.own 3 (by omega)
 rw[EP.out]at hop11
 have cw11:=own_cell hop11 hwd
 clear nb11 hop11 hm hqm hat2
 have ST11:=Lib.hid st11
 clear st11
 have hsm:=HSM.out
 have hrm:=HRM.out
 have hle:=HLE.out
 have hpH:h.far.getD at_ 0=wd:=by show(lsH h 3).getD at_ 0=wd;simp[List.getD,hwd]
 have hpL:h.far.length=(lsH h 3).length:=rfl
 have hrmz: ¬roomL (layH h) < (sz:Int)+1:=by omega
 have hfw:fwd h v=(toOf h 4 at_ sm,withH (movedH h 4 at_ sm) 4 ((zr (lsH h 3) at_ sm).set at_ (toOf h 4 at_ sm)),0):=by
  subst hsm
  simp only[fwd,hr,hv0,h1,hf,if_false,if_true,Bool.true_eq_false,ne_eq,not_true_eq_false]
  simp[-List.getD_eq_getElem?_getD,hpH,hgo,hun,her,fwdC,hpL,Nat.not_lt.2 hle,hrmz]
  exact⟨rfl,rfl⟩
 have HC:=Lib.hid (carry_walk w11 (w4.heap.size+1) w5.heap.size h x ST11.out.now ST11.out.sz HH.out 3 at_ sm (by omega) (by omega) (by omega) (by omega) g q3 EP.out (by omega) qm)
 have HFW:=Lib.hid hfw
 clear hsm hrm hle hfw hpH hpL hrmz
 have HRES:=Lib.hid res11
 go_wp2_with (first| (go_at_call 62;go_loud (refine HC.out.mono ?_;rintro e w12 ⟨x',rfl,hb12,hN12⟩;have res12:=(hb12.block _ ST11.out.rbB).trans HRES.out;have hbel:=ST11.out.bel.trans (hb12.mono (by have:=ST11.out.old;have:=ST11.out.rbB;omega));obtain⟨b0,r0,g0⟩:=own_form (hN12.own.own 0 (by omega));obtain⟨b1,r1,g1⟩:=own_form (hN12.own.own 1 (by omega));obtain⟨b2,r2,g2⟩:=own_form (hN12.own.own 2 (by omega));obtain⟨b3,r3,g3⟩:=own_form (hN12.own.own 3 (by omega));obtain⟨b4,r4,g4⟩:=own_form (hN12.own.own 4 (by omega));have nb12:=hN12.blk;have e1:fwd h v=(toOf h 4 at_ sm,_,0):=HFW.out;have e2:toOf h (((3:Nat):Int)+1) at_ sm=toOf h 4 at_ sm:=rfl;rw[e2]at hN12 nb12 g0 g1 g2 g3 g4;rw[e2];generalize hto:toOf h 4 at_ sm=to at*;have e3:withH (movedH h (((3:Nat):Int)+1) at_ sm) (((3:Nat):Int)+1) ((zr (lsH h 3) at_ sm).set at_ to)=withH (movedH h 4 at_ sm) 4 ((zr (lsH h 3) at_ sm).set at_ to):=rfl;rw[e3]at hN12 nb12 g0 g1 g2 g3 g4;generalize withH (movedH h 4 at_ sm) 4 ((zr (lsH h 3) at_ sm).set at_ to)=h' at*;rw[g0,g1,g2,g3,g4]at nb12)))
 have y12: ∀j,w12.cell? ⟨w.heap.size+1,j,none⟩=zeroA[j]? :=fun j=>cell_of_row _ _ _ _ _ _ res12
 unfold zeroA at y12
 have f12: ∀j,w12.frozen? ⟨w.heap.size+1,j,none⟩=false:=fun j=>frz_of res12
 have n12c: ∀j,w12.cell? ⟨w5.heap.size,j,none⟩=(#[Value.int IntKind.u64 h'.base,Value.int IntKind.i64 h'.cap,Value.int IntKind.i64 h'.to,Value.bool h'.cycle,Value.int IntKind.i64 h'.scan,Value.slice b0 (lsH h' 0).length r0,Value.slice b1 (lsH h' 1).length r1,Value.slice b2 (lsH h' 2).length r2,Value.slice b3 (lsH h' 3).length r3,Value.slice b4 (lsH h' 4).length r4]:Array Value)[j]? :=fun j=>cell_of_row _ _ _ _ _ _ nb12
 have hs12:=hbel.size
 have hB12:w4.heap.size+1≤w12.heap.size:=by have:=hb12.size;have:=ST11.out.sz;omega
 have HN12:=Lib.hid hN12
 have HBEL:=Lib.hid hbel
 have RES12:=Lib.hid res12
 have G0:=Lib.hid g0
 have G1:=Lib.hid g1
 have G2:=Lib.hid g2
 have G3:=Lib.hid g3
 have G4:=Lib.hid g4
 clear nb12 hN12 hbel hb12 res12 g0 g1 g2 g3 g4 y11 f11 n11c k11c m11c
 go_region
 all_goals
  go_wp2
  try simp only[Exit.inBlock,Exit.then]
  have y:=put10_cells RES12.out (.int .u64 h'.base) (.int .i64 h'.cap) (.int .i64 h'.to) (.bool h'.cycle) (.int .i64 h'.scan) (.slice b0 (lsH h' 0).length r0) (.slice b1 (lsH h' 1).length r1) (.slice b2 (lsH h' 2).length r2) (.slice b3 (lsH h' 3).length r3) (.slice b4 (lsH h' 4).length r4)
  rw[HFW.out]
  refine bodyPost_ret (v:= .tuple #[.int .u64 to,hpA h' x',.int .i64 0]) ?_ rfl ?_
  ·unfold hpA;rw[G0.out,G1.out,G2.out,G3.out,G4.out];simp[results,Try.results20,go_sem,y]
  ·refine⟨x',rfl,?_,?_⟩
   ·exact(put10_below HBEL.out (by omega) _ _ _ _ _ _ _ _ _ _).drew
   ·intro j hj
    have ho:=HN12.out.own.own j hj
    refine own_rd (owns_block ho ?_) ?_
    ·intro c hc
     have hc1:=(ho.lt c hc).1
     exact put10_otherD (by omega) _ _ _ _ _ _ _ _ _ _
    ·intro c h1 h2
     exact⟨by omega,h2⟩
theorem Forward_found(w:World)(G:Nat→Prop)(hG: ∀b,G b→b<w.heap.size)(h:Hp)(hh:h.ok)(src:Nat→Value)(hs: ∀j,j<5→Rd w G (.sl ((lsH h j).map vu)) (src j))(v:Int)(hv:U64 v)
  (hr:rightL (layH h)=true) (hv0: ¬v=0) (h1:(adr v).2=0) (h2:(findL (layH h) (adr v).1).2.2=0):
  Calls Try.prog 20 #[hpA h src,.int .u64 v] w (FwdPost w (fwd h v)):=by
 obtain⟨_,f1,f2,f3,f4,_⟩:=findL_ok h2
 rw[sizL_layH ⟨f1,f2⟩]at f4
 obtain⟨k,hk⟩:=Int.eq_ofNat_of_zero_le f3
 have hf:findL (layH h) (adr v).1=((findL (layH h) (adr v).1).1,(k:Int),0):=by rw[←hk,←h2]
 rw[hk]at f4
 generalize (findL (layH h) (adr v).1).1=part at*
 have:part=1∨part=2∨part=3∨part=4:=by omega
 rcases this with hp|hp|hp|hp
 ·exact Forward_here1 w G hG h hh src hs v hv hr hv0 h1 part k hf hp
 ·exact Forward_here2 w G hG h hh src hs v hv hr hv0 h1 part k hf hp
 ·subst hp
  have hat:k< (lsH h 2).length:=by
   have:((partH h 3).length:Int)=(lsH h 2).length:=rfl
   omega
  have hwd:(lsH h 2)[k]? =some (lsH h 2)[k]:=List.getElem?_eq_getElem hat
  have hwu:U64 (lsH h 2)[k]:=(partH_ok hh 3).1 _ (List.getElem_mem hat)
  generalize (lsH h 2)[k]=wd at*
  by_cases hgo:(adr wd).2=0
  ·exact Forward_gone3 w G hG h hh src hs v hv hr hv0 h1 3 k hf rfl wd hwd hat hwu hgo
  obtain⟨sz,pt,er,hun⟩: ∃sz pt er,unpk wd=(sz,pt,er):=⟨_,_,_,rfl⟩
  by_cases her:er=0
  ·have hu:=shapeOk_iff.1 (unpk_ok (w:=wd) (by rw[hun];exact her))
   rw[hun]at hu
   obtain⟨n,hn⟩:=Int.eq_ofNat_of_zero_le hu.1
   simp only at hn
   subst hn
   have hn5:n≤255:=by have:=hu.2.1;simp only at this;omega
   by_cases hlt:(lsH h 2).length<k+(n+1)
   ·exact Forward_short3 w G hG h hh src hs v hv hr hv0 h1 3 k hf rfl wd hwd hat hwu hgo n pt er hun hn5 her hlt
   by_cases hrm:roomL (layH h) < ((n+1:Nat):Int)
   ·exact Forward_mem3 w G hG h hh src hs v hv hr hv0 h1 3 k hf rfl wd hwd hat hwu hgo n pt er hun hn5 her (by omega) hrm
   ·exact Forward_carry3 w G hG h hh src hs v hv hr hv0 h1 3 k hf rfl wd hwd hat hwu hgo n pt er hun hn5 her (by omega) hrm
  ·exact Forward_form3 w G hG h hh src hs v hv hr hv0 h1 3 k hf rfl wd hwd hat hwu hgo sz pt er hun her
 ·subst hp
  have hat:k< (lsH h 3).length:=by
   have:((partH h 4).length:Int)=(lsH h 3).length:=rfl
   omega
  have hwd:(lsH h 3)[k]? =some (lsH h 3)[k]:=List.getElem?_eq_getElem hat
  have hwu:U64 (lsH h 3)[k]:=(partH_ok hh 4).1 _ (List.getElem_mem hat)
  generalize (lsH h 3)[k]=wd at*
  by_cases hgo:(adr wd).2=0
  ·exact Forward_gone4 w G hG h hh src hs v hv hr hv0 h1 4 k hf rfl wd hwd hat hwu hgo
  obtain⟨sz,pt,er,hun⟩: ∃sz pt er,unpk wd=(sz,pt,er):=⟨_,_,_,rfl⟩
  by_cases her:er=0
  ·have hu:=shapeOk_iff.1 (unpk_ok (w:=wd) (by rw[hun];exact her))
   rw[hun]at hu
   obtain⟨n,hn⟩:=Int.eq_ofNat_of_zero_le hu.1
   simp only at hn
   subst hn
   have hn5:n≤255:=by have:=hu.2.1;simp only at this;omega
   by_cases hlt:(lsH h 3).length<k+(n+1)
   ·exact Forward_short4 w G hG h hh src hs v hv hr hv0 h1 4 k hf rfl wd hwd hat hwu hgo n pt er hun hn5 her hlt
   by_cases hrm:roomL (layH h) < ((n+1:Nat):Int)
   ·exact Forward_mem4 w G hG h hh src hs v hv hr hv0 h1 4 k hf rfl wd hwd hat hwu hgo n pt er hun hn5 her (by omega) hrm
   ·exact Forward_carry4 w G hG h hh src hs v hv hr hv0 h1 4 k hf rfl wd hwd hat hwu hgo n pt er hun hn5 her (by omega) hrm
  ·exact Forward_form4 w G hG h hh src hs v hv hr hv0 h1 4 k hf rfl wd hwd hat hwu hgo sz pt er hun her
end Vm
namespace Vm
open Go Go.Proofs Go.RowKit
set_option maxHeartbeats 4000000
set_option maxRecDepth 100000
theorem Forward_walk(w:World)(G:Nat→Prop)(hG: ∀b,G b→b<w.heap.size)(h:Hp)(hh:h.ok)(src:Nat→Value)(hs: ∀j,j<5→Rd w G (.sl ((lsH h j).map vu)) (src j))(v:Int)(hv:U64 v):
  Calls Try.prog 20 #[hpA h src,.int .u64 v] w (FwdPost w (fwd h v)):=by
 have HS:=Lib.hid hs
 have HH:=Lib.hid hh
 clear hs hh
 by_cases hfo:rightL (layH h)=true∧ ¬v=0∧(adr v).2=0∧(findL (layH h) (adr v).1).2.2=0
 ·exact Forward_found w G hG h HH.out src HS.out v hv hfo.1 hfo.2.1 hfo.2.2.1 hfo.2.2.2
 unfold hpA
 go_enter Try.func20,Try.ntmps20
 cases hr:rightL (layH h)
 ·go_wp2_with (first
   | (go_at_call 54;refine(Layout_calls (h:=h) (x:=src) (G:=G) (fun c hc=>by have:=hG c hc;simp;omega) (fun j hj=>(HS.out j hj).keep (fun b hb=>by have:=hG b hb;rw[Below.heap_alloc _ _ _ (by simp;omega),Below.heap_alloc _ _ _ (by omega)]) (fun _ h=>h))).mono ?_;rintro e w1 ⟨rfl,hb1⟩;unfold lyA;have z1:=(hb1.block (w.heap.size+1) (by simp)).trans (zero_new w _);have hs1:=hb1.size;simp at hs1;have HB1:=Lib.hid hb1;clear hb1)
   | (go_at_call 55;refine(rightL_calls HH.out.lay _).mono ?_;rintro e w2 ⟨rfl,hb2⟩;rw[hr];have z2:=(hb2.block (w.heap.size+1) (by simp;omega)).trans ((Below.heap_alloc w1 _ (w.heap.size+1) (by omega)).trans z1);have y2: ∀j,w2.cell? ⟨w.heap.size+1,j,none⟩=zeroA[j]? :=fun j=>cell_of_row _ _ _ _ _ _ z2;have f2: ∀j,w2.frozen? ⟨w.heap.size+1,j,none⟩=false:=fun j=>frz_of z2;unfold zeroA at y2;have HB2:=Lib.hid hb2;clear hb2))
  have y:=put10_cells z2 (.int .u64 0) (.int .i64 0) (.int .i64 0) (.bool false) (.int .i64 0) (.slice none 0 0) (.slice none 0 0) (.slice none 0 0) (.slice none 0 0) (.slice none 0 0)
  refine bodyPost_ret (v:= .tuple #[.int .u64 0,.agg zeroA,.int .i64 1]) (by simp[results,Try.results20,go_sem,y,zeroA]) rfl ⟨fun _=> .slice none 0 0,?_,put10_below ?_ (by omega) _ _ _ _ _ _ _ _ _ _,?_⟩
  ·simp[fwd,hr,hpA,Hp.zero,zeroA]
  ·exact((((((Below.refl _ _).alloc (Nat.le_refl _) _).alloc (by simp) _).trans (HB1.out.mono (by simp;omega))).alloc (by omega) _).trans (HB2.out.mono (by simp;omega)))
  ·have:(fwd h v).2.1=Hp.zero:=by simp[fwd,hr]
   rw[this]
   exact zero_rd _ _
 ·by_cases h0:v=0
  ·subst h0
   go_wp2_with (first
    | (go_at_call 54;refine(Layout_calls (h:=h) (x:=src) (G:=G) (fun c hc=>by have:=hG c hc;simp;omega) (fun j hj=>(HS.out j hj).keep (fun b hb=>by have:=hG b hb;rw[Below.heap_alloc _ _ _ (by simp;omega),Below.heap_alloc _ _ _ (by omega)]) (fun _ h=>h))).mono ?_;rintro e w1 ⟨rfl,hb1⟩;unfold lyA;have z1:=(hb1.block (w.heap.size+1) (by simp)).trans (zero_new w _);have p1:=(hb1.block w.heap.size (by simp;omega)).trans ((Below.heap_alloc (w.alloc (.cells #[Value.int IntKind.u64 h.base,Value.int IntKind.i64 h.cap,Value.int IntKind.i64 h.to,Value.bool h.cycle,Value.int IntKind.i64 h.scan,src 0,src 1,src 2,src 3,src 4] 31)) _ w.heap.size (by simp)).trans (heap_alloc_new w _));have hs1:=hb1.size;simp at hs1;have HB1:=Lib.hid hb1;clear hb1)
    | (go_at_call 55;refine(rightL_calls HH.out.lay _).mono ?_;rintro e w2 ⟨rfl,hb2⟩;rw[hr];have z2:=(hb2.block (w.heap.size+1) (by simp;omega)).trans ((Below.heap_alloc w1 _ (w.heap.size+1) (by omega)).trans z1);have p2:=(hb2.block w.heap.size (by simp;omega)).trans ((Below.heap_alloc w1 _ w.heap.size (by omega)).trans p1);have x2: ∀j,w2.cell? ⟨w.heap.size,j,none⟩=(#[Value.int IntKind.u64 h.base,Value.int IntKind.i64 h.cap,Value.int IntKind.i64 h.to,Value.bool h.cycle,Value.int IntKind.i64 h.scan,src 0,src 1,src 2,src 3,src 4]:Array Value)[j]? :=fun j=>cell_of_row _ _ _ _ _ _ p2;have hb02:Below w.heap.size w w2:=((((((Below.refl _ _).alloc (Nat.le_refl _) _).alloc (by simp) _).trans (HB1.out.mono (by simp;omega))).alloc (by omega) _).trans (hb2.mono (by simp;omega)));have hs2:=hb2.size;simp at hs2;have HB02:=Lib.hid hb02;clear hb2 hb02)
    | (go_at_call 56;refine(Own_walk _ G (fun b hb=>by have:=hG b hb;omega) h HH.out src (fun j hj=>(HS.out j hj).keep (fun b hb=>HB02.out.block b (hG b hb)) (fun _ h=>h))).mono ?_;rintro e w3 ⟨x,rfl,hb3,ho3⟩;obtain⟨a0,q0,e0⟩:=own_form (ho3.own 0 (by omega));obtain⟨a1,q1,e1⟩:=own_form (ho3.own 1 (by omega));obtain⟨a2,q2,e2⟩:=own_form (ho3.own 2 (by omega));obtain⟨a3,q3,e3⟩:=own_form (ho3.own 3 (by omega));obtain⟨a4,q4,e4⟩:=own_form (ho3.own 4 (by omega));unfold hpA;rw[e0,e1,e2,e3,e4];have z3:=(hb3.block (w.heap.size+1) (by omega)).trans z2;have y3: ∀j,w3.cell? ⟨w.heap.size+1,j,none⟩=zeroA[j]? :=fun j=>cell_of_row _ _ _ _ _ _ z3;have f3: ∀j,w3.frozen? ⟨w.heap.size+1,j,none⟩=false:=fun j=>frz_of z3;unfold zeroA at y3;have HB3:=Lib.hid hb3;have HO3:=Lib.hid ho3;clear hb3 ho3))
   have y:=put10_cells z3 (.int .u64 h.base) (.int .i64 h.cap) (.int .i64 h.to) (.bool h.cycle) (.int .i64 h.scan) (.slice a0 (lsH h 0).length q0) (.slice a1 (lsH h 1).length q1) (.slice a2 (lsH h 2).length q2) (.slice a3 (lsH h 3).length q3) (.slice a4 (lsH h 4).length q4)
   have hf:fwd h 0=(0,h,0):=by simp[fwd,hr]
   refine bodyPost_ret (v:= .tuple #[.int .u64 0,hpA h x,.int .i64 0]) (by unfold hpA;rw[e0,e1,e2,e3,e4];simp[results,Try.results20,go_sem,y]) rfl ⟨x,?_,put10_below (HB02.out.trans (HB3.out.mono (by omega))) (by omega) _ _ _ _ _ _ _ _ _ _,?_⟩
   ·rw[hf]
   ·rw[hf]
    intro j hj
    have ho:=HO3.out.own j hj
    refine own_rd (B:=w2.heap.size) (owns_block ho fun c hc=>put10_other (by have:=(ho.lt c hc).1;omega) _ _ _ _ _ _ _ _ _ _) (fun c h1 h2=>⟨by omega,h2⟩)
  ·have hv0: ¬(v=0):=h0
   by_cases h1:(adr v).2=0
   ·by_cases h2:(findL (layH h) (adr v).1).2.2=0
    ·exact(hfo ⟨hr,hv0,h1,h2⟩).elim
    ·go_wp2_with (first
     | (go_at_call 54;refine(Layout_calls (h:=h) (x:=src) (G:=G) (fun c hc=>by have:=hG c hc;simp;omega) (fun j hj=>(HS.out j hj).keep (fun b hb=>by have:=hG b hb;rw[Below.heap_alloc _ _ _ (by simp;omega),Below.heap_alloc _ _ _ (by omega)]) (fun _ h=>h))).mono ?_;rintro e w1 ⟨rfl,hb1⟩;unfold lyA;have z1:=(hb1.block (w.heap.size+1) (by simp)).trans (zero_new w _);have p1:=(hb1.block w.heap.size (by simp;omega)).trans ((Below.heap_alloc (w.alloc (.cells #[Value.int IntKind.u64 h.base,Value.int IntKind.i64 h.cap,Value.int IntKind.i64 h.to,Value.bool h.cycle,Value.int IntKind.i64 h.scan,src 0,src 1,src 2,src 3,src 4] 31)) _ w.heap.size (by simp)).trans (heap_alloc_new w _));have hs1:=hb1.size;simp at hs1;have HB1:=Lib.hid hb1;clear hb1)
     | (go_at_call 55;refine(rightL_calls HH.out.lay _).mono ?_;rintro e w2 ⟨rfl,hb2⟩;rw[hr];have z2:=(hb2.block (w.heap.size+1) (by simp;omega)).trans ((Below.heap_alloc w1 _ (w.heap.size+1) (by omega)).trans z1);have p2:=(hb2.block w.heap.size (by simp;omega)).trans ((Below.heap_alloc w1 _ w.heap.size (by omega)).trans p1);have x2: ∀j,w2.cell? ⟨w.heap.size,j,none⟩=(#[Value.int IntKind.u64 h.base,Value.int IntKind.i64 h.cap,Value.int IntKind.i64 h.to,Value.bool h.cycle,Value.int IntKind.i64 h.scan,src 0,src 1,src 2,src 3,src 4]:Array Value)[j]? :=fun j=>cell_of_row _ _ _ _ _ _ p2;have hb02:Below w.heap.size w w2:=((((((Below.refl _ _).alloc (Nat.le_refl _) _).alloc (by simp) _).trans (HB1.out.mono (by simp;omega))).alloc (by omega) _).trans (hb2.mono (by simp;omega)));have hs2:=hb2.size;simp at hs2;have m2:=(hb2.block w1.heap.size (by simp)).trans (heap_alloc_new w1 _);have HB02:=Lib.hid hb02;clear hb2 hb02)
     | (go_at_call 57;refine(adr_calls hv _).mono ?_;rintro e w3 ⟨rfl,hb3⟩;have z3:=(hb3.block (w.heap.size+1) (by omega)).trans z2;have y3: ∀j,w3.cell? ⟨w.heap.size+1,j,none⟩=zeroA[j]? :=fun j=>cell_of_row _ _ _ _ _ _ z3;have f3: ∀j,w3.frozen? ⟨w.heap.size+1,j,none⟩=false:=fun j=>frz_of z3;unfold zeroA at y3;have m3:=(hb3.block w1.heap.size (by omega)).trans m2;have l3: ∀j,w3.cell? ⟨w1.heap.size,j,none⟩=(#[Value.int IntKind.u64 (layH h).base,Value.int IntKind.i64 (layH h).cap,Value.int IntKind.i64 (layH h).to,Value.int IntKind.i64 (layH h).low,Value.int IntKind.i64 (layH h).high,Value.int IntKind.i64 (layH h).old,Value.int IntKind.i64 (layH h).far]:Array Value)[j]? :=fun j=>cell_of_row _ _ _ _ _ _ m3;have hs3:=hb3.size;have HB3:=Lib.hid hb3;clear hb3)
     | (go_at_call 58;refine(findL_calls HH.out.lay (adr_u hv) _).mono ?_;rintro e w4 ⟨rfl,hb4⟩;have hs4:=hb4.size;have z4: ∀o,(w4.alloc o).heap[w.heap.size+1]? =some (.cells zeroA 31 (0,0)):=fun o=>(Below.heap_alloc w4 o (w.heap.size+1) (by omega)).trans ((hb4.block (w.heap.size+1) (by omega)).trans z3);have y4: ∀o j,(w4.alloc o).cell? ⟨w.heap.size+1,j,none⟩=zeroA[j]? :=fun o j=>cell_of_row _ _ _ _ _ _ (z4 o);have f4: ∀o j,(w4.alloc o).frozen? ⟨w.heap.size+1,j,none⟩=false:=fun o j=>frz_of (z4 o);unfold zeroA at y4;have HB4:=Lib.hid hb4;clear hb4))
     have y:=put10_cells (z4 (.cells #[.int .i64 (findL (layH h) (adr v).1).1,.int .i64 (findL (layH h) (adr v).1).2.1] 65)) (.int .u64 0) (.int .i64 0) (.int .i64 0) (.bool false) (.int .i64 0) (.slice none 0 0) (.slice none 0 0) (.slice none 0 0) (.slice none 0 0) (.slice none 0 0)
     have hf:fwd h v=(0,Hp.zero,6):=by simp[fwd,hr,h0,h1,h2]
     refine bodyPost_ret (v:= .tuple #[.int .u64 0,.agg zeroA,.int .i64 6]) (by simp[results,Try.results20,go_sem,y,zeroA]) rfl ⟨fun _=> .slice none 0 0,?_,put10_below (((HB02.out.trans (HB3.out.mono (by omega))).trans (HB4.out.mono (by omega))).alloc (by omega) _) (by omega) _ _ _ _ _ _ _ _ _ _,?_⟩
     ·rw[hf];simp[hpA,Hp.zero,zeroA]
     ·rw[hf]
      exact zero_rd _ _
   ·go_wp2_with (first
    | (go_at_call 54;refine(Layout_calls (h:=h) (x:=src) (G:=G) (fun c hc=>by have:=hG c hc;simp;omega) (fun j hj=>(HS.out j hj).keep (fun b hb=>by have:=hG b hb;rw[Below.heap_alloc _ _ _ (by simp;omega),Below.heap_alloc _ _ _ (by omega)]) (fun _ h=>h))).mono ?_;rintro e w1 ⟨rfl,hb1⟩;unfold lyA;have z1:=(hb1.block (w.heap.size+1) (by simp)).trans (zero_new w _);have p1:=(hb1.block w.heap.size (by simp;omega)).trans ((Below.heap_alloc (w.alloc (.cells #[Value.int IntKind.u64 h.base,Value.int IntKind.i64 h.cap,Value.int IntKind.i64 h.to,Value.bool h.cycle,Value.int IntKind.i64 h.scan,src 0,src 1,src 2,src 3,src 4] 31)) _ w.heap.size (by simp)).trans (heap_alloc_new w _));have hs1:=hb1.size;simp at hs1;have HB1:=Lib.hid hb1;clear hb1)
    | (go_at_call 55;refine(rightL_calls HH.out.lay _).mono ?_;rintro e w2 ⟨rfl,hb2⟩;rw[hr];have z2:=(hb2.block (w.heap.size+1) (by simp;omega)).trans ((Below.heap_alloc w1 _ (w.heap.size+1) (by omega)).trans z1);have p2:=(hb2.block w.heap.size (by simp;omega)).trans ((Below.heap_alloc w1 _ w.heap.size (by omega)).trans p1);have x2: ∀j,w2.cell? ⟨w.heap.size,j,none⟩=(#[Value.int IntKind.u64 h.base,Value.int IntKind.i64 h.cap,Value.int IntKind.i64 h.to,Value.bool h.cycle,Value.int IntKind.i64 h.scan,src 0,src 1,src 2,src 3,src 4]:Array Value)[j]? :=fun j=>cell_of_row _ _ _ _ _ _ p2;have hb02:Below w.heap.size w w2:=((((((Below.refl _ _).alloc (Nat.le_refl _) _).alloc (by simp) _).trans (HB1.out.mono (by simp;omega))).alloc (by omega) _).trans (hb2.mono (by simp;omega)));have hs2:=hb2.size;simp at hs2;have HB02:=Lib.hid hb02;clear hb2 hb02)
      | (go_at_call 57;refine(adr_calls hv _).mono ?_;rintro e w3 ⟨rfl,hb3⟩;have z3:=(hb3.block (w.heap.size+1) (by omega)).trans z2;have y3: ∀j,w3.cell? ⟨w.heap.size+1,j,none⟩=zeroA[j]? :=fun j=>cell_of_row _ _ _ _ _ _ z3;have f3: ∀j,w3.frozen? ⟨w.heap.size+1,j,none⟩=false:=fun j=>frz_of z3;unfold zeroA at y3;have HB3:=Lib.hid hb3;clear hb3))
    have y:=put10_cells z3 (.int .u64 0) (.int .i64 0) (.int .i64 0) (.bool false) (.int .i64 0) (.slice none 0 0) (.slice none 0 0) (.slice none 0 0) (.slice none 0 0) (.slice none 0 0)
    have hf:fwd h v=(0,Hp.zero,3):=by simp[fwd,hr,h0,h1]
    refine bodyPost_ret (v:= .tuple #[.int .u64 0,.agg zeroA,.int .i64 3]) (by simp[results,Try.results20,go_sem,y,zeroA]) rfl ⟨fun _=> .slice none 0 0,?_,put10_below (HB02.out.trans (HB3.out.mono (by omega))) (by omega) _ _ _ _ _ _ _ _ _ _,?_⟩
    ·rw[hf];simp[hpA,Hp.zero,zeroA]
    ·rw[hf]
     exact zero_rd _ _
end Vm
namespace Vm
open Go Go.Proofs Go.RowKit
set_option maxHeartbeats 1000000
set_option maxRecDepth 100000
theorem rd_int_inv{w:World}{G:Nat→Prop}{k:IntKind}{n:Int}{v:Value}(r:Rd w G (.int k n) v):v= .int k n:=by cases r;rfl
theorem rd_bool_inv{w:World}{G:Nat→Prop}{b:Bool}{v:Value}(r:Rd w G (.bool b) v):v= .bool b:=by cases r;rfl
theorem hp_src{w:World}{G:Nat→Prop}{h:Hp}{v:Value}(r:Rd w G (hpV h) v): ∃src,v=hpA h src∧ ∀j,j<5→Rd w G (.sl ((lsH h j).map vu)) (src j):=by
 cases r with
 |agg _ vs hl _ hr=>
  refine⟨fun j=>vs.getD (5+j) undef,?_,?_⟩
  ·have e0:=rd_int_inv (hr 0 _ rfl)
   have e1:=rd_int_inv (hr 1 _ rfl)
   have e2:=rd_int_inv (hr 2 _ rfl)
   have e3:=rd_bool_inv (hr 3 _ rfl)
   have e4:=rd_int_inv (hr 4 _ rfl)
   have hl':vs.size=10:=hl
   unfold hpA
   rw[←e0,←e1,←e2,←e3,←e4]
   congr 1
   apply Array.ext
   ·simp[hl']
   ·intro i h1 h2
    have hi:i<10:=by omega
    match i,hi with
    |0,_|1,_|2,_|3,_|4,_|5,_|6,_|7,_|8,_|9,_=>simp[Array.getD,hl']
  ·intro j hj
   match j,hj with
   |0,_=>exact hr 5 _ rfl
   |1,_=>exact hr 6 _ rfl
   |2,_=>exact hr 7 _ rfl
   |3,_=>exact hr 8 _ rfl
   |4,_=>exact hr 9 _ rfl
theorem hp_rd{w:World}{G:Nat→Prop}{h:Hp}{x:Nat→Value}(hr: ∀j,j<5→Rd w G (.sl ((lsH h j).map vu)) (x j)):Rd w G (hpV h) (hpA h x):=by
 refine .agg _ _ rfl (by simp[V.one]) ?_
 intro i y hy
 match i,hy with
 |0,hy=>cases hy;exact .int _ _
 |1,hy=>cases hy;exact .int _ _
 |2,hy=>cases hy;exact .int _ _
 |3,hy=>cases hy;exact .bool _
 |4,hy=>cases hy;exact .int _ _
 |5,hy=>cases hy;exact hr 0 (by omega)
 |6,hy=>cases hy;exact hr 1 (by omega)
 |7,hy=>cases hy;exact hr 2 (by omega)
 |8,hy=>cases hy;exact hr 3 (by omega)
 |9,hy=>cases hy;exact hr 4 (by omega)
theorem fwdOk:FwdOk:=by
 intro h v hh hv
 refine⟨by kernel_rfl,fun w G vs hG hsz hvs=> ?_⟩
 have r0:=hvs 0 _ rfl
 have r1:=hvs 1 _ rfl
 obtain⟨⟨l⟩⟩:=vs
 ·simp at hsz
 rename_i v0 l
 cases l with
 |nil=>simp at hsz
 |cons v1 l=>
  cases l with
  |cons _ _=>simp at hsz
  |nil=>
   simp at r0 r1
   obtain⟨src,rfl,hs⟩:=hp_src r0
   have:=rd_int_inv r1
   subst this
   refine(Forward_walk w G hG h hh src hs v hv).mono ?_
   rintro e w' ⟨x,rfl,hb,hr⟩
   refine⟨_,rfl,hb,?_⟩
   refine .tup _ _ rfl ?_
   intro i y hy
   match i,hy with
   |0,hy=>cases hy;exact .int _ _
   |1,hy=>cases hy;exact hp_rd fun j hj=>(hr j hj).mono fun b hb=> .inr hb
   |2,hy=>cases hy;exact .int _ _
end Vm
end
section
namespace Go.Proofs.Ytfplljcicihneaa
open Vm Go.ChangeShapes Go.WideShapes Go.ChangeAt Go.RowKit
set_option maxRecDepth 100000
theorem forwardCopies_law(xs:List V)(hl:xs.length=Try.f11.params.toList.length)(ht: ∀(i:Nat) (t:TypeId) (x:V),Try.f11.params.toList[i]? =some t→xs[i]? =some x→tyV Try.prog 8 t x):
  VC Try.prog 11 false xs (.bool true):=by
 rw[Try.params11]at hl ht
 match xs,hl with
 | [x0,x1,x2],_=>
   obtain⟨x,rfl,hx⟩:=ty_rw (ht 0 _ x0 rfl rfl)
   obtain⟨p,rfl,hp⟩:=ty_vi (ht 1 _ x1 rfl rfl)
   obtain⟨n,rfl,hn⟩:=ty_vi (ht 2 _ x2 rfl rfl)
   exact law13Copies fwdOk hx hp hn
theorem forwardCopies_lifted(os:Os)(started:os.Started)(H:Type)(enc:TypeId×Value→H):
  ReturnsInHanded {} Try.checked os 11 .any (Rows.forwardCopiesSpec.pre6 enc Try.prog Try.f11 Rows.forwardCopiesRow.domain false) (Rows.forwardCopiesSpec.post enc Try.prog Try.f11 false true false false):=by
 refine returnsInHanded_of_change (C:=Try.checked) own started (by kernel_rfl) Try.func11
  (ChangeSpec.witness6 (enc:=enc) (C:=Try.checked) false ⟨#[], #[.agg #[.slice none 0 0,.slice none 0 0,.slice none 0 0,.int .u64 0,.int .i64 0,.int .i64 0,.int .i64 0],.int .i64 0,.int .i64 0],[]⟩ 8 (by kernel_rfl) (by kernel_rfl) (by kernel_rfl) (by kernel_rfl)) ?_
 intro W base args ds gs before hval hW _ _
 exact law_contract (tb:=4) 8 laidOut (by kernel_rfl) (by kernel_rfl) rfl (by kernel_rfl) Try.underlying4 (fun H ds hd=>by
  rw[Try.params11]at hd
  match ds,hd with
  | [_,_,_],_=>rfl) forwardCopies_law H enc W base args ds gs before hval hW
theorem forwardCopies_holds:Rows.ForwardCopiesSaid:=
 OpenClaim.holds_of_wide 11 Try.f11 rfl rfl rfl rfl rfl rfl rfl ⟨rfl,rfl,rfl,rfl,rfl⟩ rfl rfl rfl rfl rfl (by kernel_rfl) Try.func11 (by kernel_rfl)
  (of_decide_eq_true (by kernel_rfl)) (by unfold Func.isWrapper;first| (rw[if_pos (by decide+kernel)];kernel_rfl) | (rw[if_neg (by decide+kernel)];exact⟨rfl,rfl⟩))
  (fun os started H enc _=>forwardCopies_lifted os started H enc)
#print axioms forwardCopies_holds
end Go.Proofs.Ytfplljcicihneaa
end
