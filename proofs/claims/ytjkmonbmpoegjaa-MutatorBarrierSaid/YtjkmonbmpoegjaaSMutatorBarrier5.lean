import Derived.Deep.RegionHeld3
import Derived.RangeFuncNested
import Derived.RangeFuncBound
import Derived.RangeFuncLeaves
import Derived.Recover
import Derived.OwnWalkIn
import Derived.TacticsInMore
import Derived.LoopNIn
import Derived.LoopIn
import Derived.Shelf.RegionOpen
import Derived.Test.YtjkmonbmpoegjaaSMutatorBarrier4
set_option linter.unusedSimpArgs false
set_option linter.unusedVariables false
set_option linter.defProp false
def Z9B:=@_root_.Go.World.cell?_alloc_lt
def ZaB:=@_root_.List.mem_map_of_mem
def Zbt:=@_root_.List.find?_cons
def Zbe:=@_root_.decide_true
def Z9m:=@_root_.List.findIdx?_eq_some_iff_getElem
def ZbI:=@_root_.List.findIdx?_eq_none_iff
def ZaC:=@_root_.List.getElem_set_ne
def ZbD:=@_root_.List.zip_cons_cons
def ZaT:=@_root_.List.getElem?_eq_none_iff
def Z9j:=@_root_.Decidable.byContradiction
def ZbO:=@_root_.List.sum_cons
def ZbE:=@_root_.List.pairwise_cons
def Zbk:=@_root_.Bool.not_true
def Zc6:=@_root_.Bool.eq_iff_iff
def Zbi:=@_root_.List.mem_append_right
def ZaO:=@_root_.Go.grownBy_putObj'
def Z9C:=@_root_.Go.World.alloc_heap_new
def Za2:=@_root_.Go.World.size_alloc
def ZaI:=@_root_.Go.World.putObj_heap_same
def Z94:=@_root_.Go.World.putObj_heap_other
def Zan:=@_root_.eq_false
section
namespace Vm
open Go Go.Proofs Go.RowKit
set_option maxHeartbeats 4000000
set_option maxRecDepth 100000
structure Now (B:Nat) (w:World) (b:Nat) (h:Hp) (x:Nat→Value):Prop where
 blk:w.heap[b]? =some (.cells #[.int .u64 h.base,.int .i64 h.cap,.int .i64 h.to,.bool h.cycle,.int .i64 h.scan,x 0,x 1,x 2,x 3,x 4] 113 (0,0))
 own:HOwn B w h x
 far: ∀j,j<5→ ∀c,(x j).ownBlock=some c→c≠b
 new:B≤b
def toOf(h:Hp)(part:Int)(a n:Nat):Int:=(YO (ZC (layH (Y2 h part a n)) 1 h.low.length).1).1
def Z07(B:Nat)(w:World)(b:Nat)(h:Hp)(p a n:Nat)(e:Ending)(w':World):Prop:=
 ∃x',e= .returned (.int .u64 (toOf h (p+1) a n))∧Below B w w'∧Now B w' b (YE (Y2 h (p+1) a n) (p+1) ((zr (lsH h p) a n).set a (toOf h (p+1) a n))) x'
theorem Jp{P:Program}(w:World){o:Oper}{a:Act}{K:Act→World→Prop}{Q:Exit→Act→World→Prop}(s:Operand)(t:TypeId)
  (ho:o.op= .call {callee:= .builtin .clear,args:= #[s],argTypes:= #[t]}) (vs:Value) (hs:a.eval s=vs)
  (w':World) (hr:(Builtin.clear_ #[t] o.type #[vs]).run P w= .ok (.tuple #[]) w') (h:K (a.put o.dst (.tuple #[])) w'):o.wp P a w K Q:=by
 unfold Oper.wp execOp;simp only[ho,resolve,invoke,builtin,Zag,ZbA,Zai,ZbS,Z8Q,Z9I,hs,hr];exact h
theorem Tr{P:Program}(w:World){ops:Array Oper}{rest:List Oper}{o:Oper}{a:Act}{Q:Exit→Act→World→Prop}(hgd:o.guard=none)(s:Operand)(t:TypeId)
  (ho:o.op= .call {callee:= .builtin .clear,args:= #[s],argTypes:= #[t]}) (vs:Value) (hs:a.eval s=vs)
  (w':World) (hr:(Builtin.clear_ #[t] o.type #[vs]).run P w= .ok (.tuple #[]) w') (h:wpList P ops Q rest (a.put o.dst (.tuple #[])) w'):wpList P ops Q (o::rest) a w:=
 wpList_plain hgd fun _ hK=>Jp w s t ho vs hs w' hr (hK _ _ h)
theorem Uw{b c:Nat}(hc:c≠b): ∀(vs:List Value) (o:Nat) (w:World),(w.setCells b o vs).heap[c]? =w.heap[c]?
 | [],_,_=>rfl
 |v::r,o,w=>by
  show((w.setCell ⟨b,o,none⟩ v).setCells b (o+1) r).heap[c]? =_;rw[Uw hc r];exact Z8I _ _ _ _ hc
theorem UG(b:Nat): ∀(vs:List Value) (o:Nat) (w:World),(w.setCells b o vs).heap.size=w.heap.size
 | [],_,_=>rfl
 |v::r,o,w=>by
  show((w.setCell ⟨b,o,none⟩ v).setCells b (o+1) r).heap.size=_;rw[UG b r];simp[World.setCell]
theorem VI{B b:Nat}(hb:B≤b): ∀(vs:List Value) (o:Nat) (w0 w:World),Below B w0 w→Below B w0 (w.setCells b o vs)
 | [],_,_,_,h=>h
 |v::r,o,w0,w,h=>VI hb r (o+1) w0 _ (h.setCell hb _)
theorem JJ{B g len cap:Nat}{L:List Int}(a:Nat): ∀(n k:Nat) (w:World),a+k+n≤len→w.ownsRow B 22 1 (.slice (some ⟨g,0,none⟩) len cap) len (nums .u64 (zr L a k))→
  (w.setCells g (a+k) (List.replicate n (.int .u64 0))).ownsRow B 22 1 (.slice (some ⟨g,0,none⟩) len cap) len (nums .u64 (zr L a (k+n)))
 |0,k,w,_,h=>h
 |n+1,k,w,hl,h=>by
  have h1:=(h.stored (a+k) (.int .u64 0)).1;have h2:(nums .u64 (zr L a k)).set (a+k) (.int .u64 0)=nums .u64 (zr L a (k+1)):=by rw[zr,Vp]
  rw[h2]at h1;have:=JJ a n (k+1) _ (by omega) h1;rw[show k+1+n=k+(n+1)by omega]at this;exact this
theorem qk(w:World)(B b:Nat)(h:Hp)(x:Nat→Value)(hN:Now B w b h x)(hB:B≤w.heap.size)(hh:h.ok)(p a n:Nat)(hp:p=2∨p=3)(hn0:0<n)(hn:n≤1000)(hroom:(n:Int)≤YZ (layH h))
  (g cap:Nat) (hx:x p= .slice (some ⟨g,0,none⟩) (lsH h p).length cap) (han:a+n≤(lsH h p).length) (c':Nat):
  Calls Try.prog 63 #[.pointer (some ⟨b,0,none⟩),.slice (some ⟨g,a,none⟩) n c'] w (Z07 B w b h p a n):=by
 obtain⟨iU,hiU,hzU,hsU,hbU⟩:=info_parts Z6Z;have hl0:(lsH h 0).length≤1000000:=WI hh 0;obtain⟨v1,w1,hr1,ho1,hg1,hn1⟩:=LE (P:=Try.prog) (w:=w) (T:=23) (tI:=3) (ty:=23) Try.underlying23 Try.underlying3 hiU hzU rfl rfl hsU hbU (hN.own.own 0 (by omega)) hB hn0 (by omega) .i64;obtain⟨a0,q0,e0⟩:=Z3 (hN.own.own 0 (by omega));have b0:w.cell? ⟨b,5,none⟩=some (x 0):=by rw[Z8s _ _ _ _ _ _ hN.blk];rfl
 have f0:w.frozen? ⟨b,5,none⟩=false:=Zk hN.blk;have hbw:=Za hN.blk;have hne:some b≠(x 0).ownBlock:=fun e=>hN.far 0 (by omega) b e.symm rfl;have c1:=(hg1.cell_far ⟨b,5,none⟩ hbw hne).trans b0;have f1:=(hg1.frozen_far ⟨b,5,none⟩ hbw hne).trans f0;rw[e0]at hr1 b0 c1;have hlx:(nums .u64 (lsH h 0)).length=(lsH h 0).length:=by simp[nums]
 rcases ho1.2 with ⟨_,hbad⟩ | ⟨g0,q1,cur,hv1,hg0B,hcur,hq1,hqm,hcsz,htake⟩
 ·omega
 subst hv1;have hq1': ¬q1=(lsH h 0).length:=by omega
 have hg0b:g0≠b:=by
  intro e;rcases hn1 with e1| ⟨_,e1⟩
  ·exact hne (by rw[←e1,e];rfl)
  ·have:=(e1.lt g0 rfl).1;omega
 have hgb:g≠b:=hN.far p (by omega) g (by rw[hx];rfl);have hgw:g<w.heap.size:=((hN.own.own p (by omega)).lt g (by rw[hx];rfl)).2;have hgx:some g≠(x 0).ownBlock:=fun e=>hN.own.apart 0 p (by omega) (by omega) g e.symm (by rw[hx];rfl)
 have hgg0:g≠g0:=by
  intro e;rcases hn1 with e1| ⟨_,e1⟩
  ·exact hgx (by rw[←e1,e];rfl)
  ·have:=(e1.lt g0 rfl).1;omega
 obtain⟨w2,hw2⟩: ∃w2,w2=w1.setCell ⟨b,5,none⟩ (.slice (some ⟨g0,0,none⟩) ((lsH h 0).length+n) q1):=⟨_,rfl⟩;have hcur2:w2.heap[g0]? =some (.cells cur 22 (0,0)):=by rw[hw2,Z8I _ _ _ _ hg0b];exact hcur
 have hgk: ∀c,c≠b→c<w.heap.size→some c≠(x 0).ownBlock→w2.heap[c]? =w.heap[c]? :=fun c h1 h2 h3=>by
  rw[hw2,Z8I _ _ _ _ h1,hg1.block c h2 h3]
 have hblk2:w2.heap[b]? =some (.cells #[.int .u64 h.base,.int .i64 h.cap,.int .i64 h.to,.bool h.cycle,.int .i64 h.scan,.slice (some ⟨g0,0,none⟩) ((lsH h 0).length+n) q1,x 1,x 2,x 3,x 4] 113 (0,0)):=by
  have:=(hg1.block b hbw hne).trans hN.blk;rw[hw2];simp[World.setCell,Z8R,this]
 have hcell2:w2.cell? ⟨b,5,none⟩=some (.slice (some ⟨g0,0,none⟩) ((lsH h 0).length+n) q1):=by rw[Z8s _ _ _ _ _ _ hblk2];rfl
 have hown2:w2.ownsRow B 22 1 (x p) (lsH h p).length (nums .u64 (lsH h p)):=Ze (hN.own.own p (by omega)) fun c hc=>by
  rw[hx]at hc;cases hc;exact hgk g hgb hgw hgx
 obtain⟨cs,hcs⟩: ∃cs,cs=nums .u64 (((lsH h p).take (a+n)).drop a):=⟨_,rfl⟩;have hcl:cs.length=n:=by rw[hcs];simp[nums];omega
 have hsrc: ∀j v,cs[j]? =some v→w2.cell? ((⟨g,a,none⟩:Addr).add j)=some v:=by
  intro j v hv;have hj:j<n:=by rw[←hcl];exact(Z8o.1 hv).1
  rw[hx]at hown2;have:=hown2.cellAt (a+j) (by omega);rw[Za0,this];rw[hcs]at hv;simp only[nums]at hv⊢;rw[←hv];simp[Z8T,show a+j<a+n by omega]
 obtain⟨w3,hw3⟩: ∃w3,w3=w2.setRow g0 (cur.toList.take (lsH h 0).length++(cs++cur.toList.drop ((lsH h 0).length+cs.length))).toArray:=⟨_,rfl⟩;have hfit:(lsH h 0).length+cs.length≤cur.size:=by rw[hcl];simp at hcsz;omega
 have hone: ∀v∈cs,v.oneCell'=true:=by
  intro v hv;rw[hcs]at hv;obtain⟨_,_,rfl⟩:=Z8S.1 hv;rfl
 have hmin:cs.length=Nat.min n n:=by rw[hcl];simp
 have hsz1:(Try.prog.info? 22).map (·.size)=some 1:=by rw[hiU];simp[hsU]
 have hblk3:w3.heap[b]? =some (.cells #[.int .u64 h.base,.int .i64 h.cap,.int .i64 h.to,.bool h.cycle,.int .i64 h.scan,.slice (some ⟨g0,0,none⟩) ((lsH h 0).length+n) q1,x 1,x 2,x 3,x 4] 113 (0,0)):=by
  rw[hw3,Zah _ _ _ _ hg0b.symm];exact hblk2
 have hk3: ∀c,c≠b→c≠g0→c<w.heap.size→some c≠(x 0).ownBlock→w3.heap[c]? =w.heap[c]? :=fun c h1 h2 h3 h4=>by
  rw[hw3,Zah _ _ _ _ h2];exact hgk c h1 h3 h4
 have hs12:w.heap.size≤w3.heap.size:=by
  have:=hg1.size;have e2:w2.heap.size=w1.heap.size:=by rw[hw2];simp[World.setCell]
  have e3:w3.heap.size=w2.heap.size:=by rw[hw3];simp[World.setRow]
  omega
 have hl3:lsH (Y2 h (p+1) a n) 0=lsH h 0++((lsH h p).take (a+n)).drop a:=by
  rcases hp with rfl|rfl<;>rfl
 have hl3': ∀j,j≠0→lsH (Y2 h (p+1) a n) j=lsH h j:=fun j hj=>by
  unfold lsH Y2;simp[hj]
 have hown3: ∀j,j<5→w3.ownsRow B 22 1 (if j=0 then .slice (some ⟨g0,0,none⟩) ((lsH h 0).length+n) q1 else x j) (lsH (Y2 h (p+1) a n) j).length (nums .u64 (lsH (Y2 h (p+1) a n) j)):=by
  intro j hj;by_cases hj0:j=0
  ·subst hj0;rw[if_pos rfl,hl3];have hd:(((lsH h p).take (a+n)).drop a).length=n:=by simp;omega
   refine⟨by simp[nums],.inr ⟨g0,q1,(cur.toList.take (lsH h 0).length++(cs++cur.toList.drop ((lsH h 0).length+cs.length))).toArray,?_,hg0B,?_,?_,hqm,?_,?_⟩⟩
   ·rw[Z8W,hd]
   ·rw[hw3];exact Zcg _ _ _ _ _ _ hcur2
   ·rw[Z8W,hd];exact hq1
   ·simp[hcl]at hcsz hfit⊢;omega
   ·have ht:cur.toList.take ((lsH h 0).length)=nums .u64 (lsH h 0):=by
     have:=Z9U (List.take (lsH h 0).length) htake;rw[List.take_take,Zbm (by omega)]at this;rw[this,List.take_left' hlx]
    rw[Z8W,hd,ht];simp only[Zch];rw[←Z92,List.take_left' (by simp[hlx,hcl]),hcs];simp[nums]
  ·rw[if_neg hj0,hl3' j hj0];have ho:=hN.own.own j hj
   exact Ze ho fun c hc=>hk3 c (hN.far j hj c hc) (fun e=>by
    rcases hn1 with e1| ⟨_,e1⟩
    ·exact hN.own.apart 0 j (by omega) hj c (by rw[←e1,e];rfl) hc
    ·have h1:=(e1.lt g0 rfl).1;have h2:=(ho.lt c hc).2;omega) (ho.lt c hc).2 (fun e=>hN.own.apart 0 j (by omega) hj c e.symm hc)
 have hg0x: ∀j,0<j→j<5→(x j).ownBlock≠some g0:=fun j h0 hj hc=>by
  rcases hn1 with e1| ⟨_,e1⟩
  ·exact hN.own.apart 0 j h0 hj g0 (by rw[←e1];rfl) hc
  ·have h1:=(e1.lt g0 rfl).1;have h2:=((hN.own.own j hj).lt g0 hc).2;omega
 have hgj: ∀j,j<5→j≠p→(x j).ownBlock≠some g:=fun j hj hne hc=>by
  have hgp:(x p).ownBlock=some g:=by rw[hx];rfl
  rcases ZaK hne with h1|h1
  ·exact hN.own.apart j p h1 (by omega) g hc hgp
  ·exact hN.own.apart p j h1 hj g hgp hc
 have hgB:B≤g:=((hN.own.own p (by omega)).lt g (by rw[hx];rfl)).1;have hopw:=hN.own.own p (by omega);rw[hx]at hopw
 have hrow: ∀W:World,W.heap[g]? =w.heap[g]? →W.ownsRow B 22 1 (.slice (some ⟨g,0,none⟩) (lsH h p).length cap) (lsH h p).length (nums .u64 (lsH h p)):=fun W hW=>Ze hopw fun c hc=>by
  cases hc;exact hW
 have hlp:(nums .u64 (lsH h p)).length=(lsH h p).length:=by simp[nums]
 have hcells: ∀W:World,W.heap[g]? =w.heap[g]? →(∀j,j<n→(W.cell? ⟨g,a+j,none⟩).isSome=true)∧(∀j,j<n→W.frozen? ⟨g,a+j,none⟩=false):=fun W hW=>⟨fun j hj=>by
  rw[(hrow W hW).cellAt (a+j) (by omega)];simp[hlp];omega,fun j hj=>(hrow W hW).frozenAt _⟩
 have hg3:w3.heap[g]? =w.heap[g]? :=hk3 g hgb hgg0 hgw hgx;have HN:=Z8r hN;have HO:=Z8r ho1;have HG:=Z8r hg1;have HW2:=Z8r hw2;have HW3:=Z8r hw3;have HO3:=Z8r hown3;have d0:w3.cell? ⟨b,0,none⟩=some (Value.int .u64 h.base):=by rw[Z8s _ _ _ _ _ _ hblk3];rfl
 have d1:w3.cell? ⟨b,1,none⟩=some (Value.int .i64 h.cap):=by rw[Z8s _ _ _ _ _ _ hblk3];rfl
 have d2:w3.cell? ⟨b,2,none⟩=some (Value.int .i64 h.to):=by rw[Z8s _ _ _ _ _ _ hblk3];rfl
 have d3:w3.cell? ⟨b,3,none⟩=some (Value.bool h.cycle):=by rw[Z8s _ _ _ _ _ _ hblk3];rfl
 have d4:w3.cell? ⟨b,4,none⟩=some (Value.int .i64 h.scan):=by rw[Z8s _ _ _ _ _ _ hblk3];rfl
 have d5:w3.cell? ⟨b,5,none⟩=some (Value.slice (some ⟨g0,0,none⟩) ((lsH h 0).length+n) q1):=by rw[Z8s _ _ _ _ _ _ hblk3];rfl
 have d6:w3.cell? ⟨b,6,none⟩=some (x 1):=by rw[Z8s _ _ _ _ _ _ hblk3];rfl
 have d7:w3.cell? ⟨b,7,none⟩=some (x 2):=by rw[Z8s _ _ _ _ _ _ hblk3];rfl
 have d8:w3.cell? ⟨b,8,none⟩=some (x 3):=by rw[Z8s _ _ _ _ _ _ hblk3];rfl
 have d9:w3.cell? ⟨b,9,none⟩=some (x 4):=by rw[Z8s _ _ _ _ _ _ hblk3];rfl
 have hm3:(Y2 h (p+1) a n).ok:=zg hh (by rcases hp with rfl|rfl<;>exact han) hroom hn0;clear hN ho1 hg1 hw2 hw3 hown3;go_enter Try.func63,Try.ntmps63
 go_wp2_with (first
  | (at_builtin;refine Lib.wpList_append_run _ rfl _ _ 23 3 rfl _ _ rfl rfl _ _ hr1 ?_)
  | (rw[←HW2.out];refine wpList_copy_own rfl _ _ 23 23 rfl 22 Try.underlying23 hsz1 g0 (lsH h 0).length n (q1- (lsH h 0).length) ⟨g,a,none⟩ n c' rfl rfl cur 22 hcur2 cs hmin hsrc hfit hone ?_;rw[←HW3.out])
  | (go_at_call 51;refine(ZP (h:=Y2 h (p+1) a n) (x:=fun j=>if j=0 then .slice (some ⟨g0,0,none⟩) ((lsH h 0).length+n) q1 else x j) (G:=fun c=>B≤c∧c<w3.heap.size) (fun c hc=>hc.2) (fun j hj=>Vc (HO3.out j hj) (fun c h1 h2=>⟨h1,h2⟩))).mono ?_;rintro e w4 ⟨rfl,hb4⟩;have HB4:=Z8r hb4;clear hb4)
  | (go_at_call 50;refine(R5 hm3.lay _ _ _).mono ?_;rintro e w5 ⟨rfl,hb5⟩;have hg5:w5.heap[g]? =w.heap[g]? :=(hb5.block g (by have:=HB4.out.size;omega)).trans ((HB4.out.block g (by omega)).trans hg3);have hs5:w3.heap.size≤w5.heap.size:=Z8Y HB4.out.size hb5.size;have HB5:=Z8r hb5;clear hb5;obtain⟨w6,hw6⟩: ∃w6,w6=w5.setCells g a (List.replicate n (.int .u64 0)):=⟨_,rfl⟩;have hs6:w6.heap.size=w5.heap.size:=by {rw[hw6];exact UG _ _ _ _};have c6:w6.cell? ⟨g,a,none⟩=some (.int .u64 0):=by {rw[hw6];have:=World.cell?_setCells_in g (List.replicate n (Value.int .u64 0)) a w5 (by simpa using(hcells w5 hg5).1) 0 (by simpa using hn0);simpa using this};have f6:w6.frozen? ⟨g,a,none⟩=false:=by {rw[hw6,World.frozen?_setCells];exact(hcells w5 hg5).2 0 hn0};have HW6:=Z8r hw6;clear hw6)
  | (refine Tr _ rfl _ 23 rfl _ rfl _ (Lib.run_clear_slice _ _ 22 _ (.int .u64 0) Try.underlying23 (Xl hiU hzU) rfl rfl g a n c' hn0 (hcells w5 hg5).1 (hcells w5 hg5).2) ?_;rw[←HW6.out])
  | (go_at_call 52;refine(Sq Z4T _).mono ?_;rintro e w7 ⟨rfl,hb7⟩;have c7:=(hb7.cell (p:=⟨g,a,none⟩) (by show g<w6.heap.size;omega)).trans c6;have f7:=(hb7.frozen (p:=⟨g,a,none⟩) (by show g<w6.heap.size;omega)).trans f6;have HB7:=Z8r hb7;clear hb7))
 go_ret
 have hbel3:Below B w w3:=by
  rw[HW3.out,HW2.out];exact Go.below_setRow (Z9X (p:=⟨b,5,none⟩) ((Z8E B w).grown HG.out hB (fun k hk=>((HN.out.own.own 0 (by omega)).lt k hk).1)) HN.out.new _) hg0B _
 have hB3:B≤w3.heap.size:=by omega
 have hbel5:Below B w w5:=(hbel3.trans (HB4.out.mono hB3)).trans (HB5.out.mono (by have:=HB4.out.size;omega));have hbel6:Below B w w6:=by rw[HW6.out];exact VI hgB _ _ _ _ hbel5
 have hbel7:Below B w w7:=hbel6.trans (HB7.out.mono (by omega));have hs4:=HB4.out.size;have hs45:=HB5.out.size
 have h37: ∀(c:Nat) (u:Value),c≠g→c<w3.heap.size→(w7.setCell ⟨g,a,none⟩ u).heap[c]? =w3.heap[c]? :=fun c u h1 h2=>by
  rw[Z8I _ _ _ _ h1,HB7.out.block c (by omega),HW6.out,Uw h1,HB5.out.block c (by omega),HB4.out.block c h2]
 have hg5:w5.heap[g]? =w.heap[g]? :=(HB5.out.block g (by omega)).trans ((HB4.out.block g (by omega)).trans hg3);have hrow6:=JJ (L:=lsH h p) a n 0 w5 (by omega) (hrow w5 hg5);have e6:w5.setCells g (a+0) (List.replicate n (.int .u64 0))=w6:=HW6.out.symm;rw[e6,Z97]at hrow6
 have hrow7:=Ze (w':=w7) hrow6 fun c hc=>by
  cases hc;exact HB7.out.block g (by omega)
 have hrow8:=(hrow7.stored a (.int .u64 (toOf h (p+1) a n))).1;rw[←Vp]at hrow8;refine⟨fun j=>if j=0 then .slice (some ⟨g0,0,none⟩) ((lsH h 0).length+n) q1 else x j,rfl,hbel7.setCell hgB _,?_,⟨?_,?_⟩,?_,HN.out.new⟩
 ·rw[h37 b _ (fun e=>hgb e.symm) (by omega),hblk3];rcases hp with rfl|rfl<;>rfl
 ·intro j hj;by_cases hjp:j=p
  ·subst hjp
   have e1:lsH (YE (Y2 h (j+1) a n) (j+1) ((zr (lsH h j) a n).set a (toOf h (j+1) a n))) j=(zr (lsH h j) a n).set a (toOf h (j+1) a n):=by
    rcases hp with rfl|rfl<;>rfl
   rw[e1,if_neg (by omega),hx,Z9y,yg];exact hrow8
  ·have e1:lsH (YE (Y2 h (p+1) a n) (p+1) ((zr (lsH h p) a n).set a (toOf h (p+1) a n))) j=lsH (Y2 h (p+1) a n) j:=by
    have:j=0∨j=1∨j=2∨j=3∨j=4:=by omega
    rcases hp with rfl|rfl<;>rcases this with rfl|rfl|rfl|rfl|rfl<;>first|rfl|exact(hjp rfl).elim
   rw[e1];have ho:=HO3.out j hj;refine Ze ho fun c hc=>h37 c _ (fun e=> ?_) (ho.lt c hc).2;subst e;by_cases h0:j=0
   ·rw[if_pos h0]at hc;cases hc;exact hgg0 rfl
   ·rw[if_neg h0]at hc;exact hgj j hj hjp hc
 ·intro i j hij hj c hc;rw[if_neg (show ¬j=0 by omega)];by_cases h0:i=0
  ·rw[if_pos h0]at hc;cases hc;exact hg0x j (by omega) hj
  ·rw[if_neg h0]at hc;exact HN.out.own.apart i j hij hj c hc
 ·intro j hj c hc;by_cases h0:j=0
  ·rw[if_pos h0]at hc;cases hc;exact hg0b
  ·rw[if_neg h0]at hc;exact HN.out.far j hj c hc
end Vm
namespace Vm
open Go Go.Proofs Go.RowKit
set_option maxHeartbeats 4000000
set_option maxRecDepth 100000
theorem Kc(w:World)(B b:Nat)(h:Hp)(x:Nat→Value)(hN:Now B w b h x)(hh:h.ok)(p a:Nat)(hp:p=2∨p=3)(g cap:Nat)
  (hx:x p= .slice (some ⟨g,0,none⟩) (lsH h p).length cap) (ha:a< (lsH h p).length):
  Calls Try.prog 61 #[.pointer (some ⟨b,0,none⟩),.agg #[.int .i64 ((p:Int)+1),.int .i64 a]] w fun e w'=>e= .returned (.slice (some ⟨g,a,none⟩) ((lsH h p).length-a) (cap-a))∧Below w.heap.size w w':=by
 have hbw:=Za hN.blk;have hl:=WI hh p
 have hcap:(lsH h p).length≤cap:=by
  have:=(hN.own.own p (by omega)).2;rw[hx]at this;rcases this with ⟨hc,_⟩ | ⟨_,_,_,hc,_,_,h1,_⟩
  ·cases hc
  ·cases hc;exact h1
 rcases hp with rfl|rfl
 ·have c7:(w.alloc (.cells #[.int .i64 3,.int .i64 a] 91)).cell? ⟨b,7,none⟩=some (.slice (some ⟨g,0,none⟩) (lsH h 2).length cap):=by
   rw[Z9B _ _ _ hbw,Z8s _ _ _ _ _ _ hN.blk,←hx];rfl
  have hcap':((lsH h 2).length:Int)≤9223372036854775807:=by omega
  go_enter Try.func61,Try.ntmps61;go_wp2;go_region;go_wp2
  go_ret
  exact⟨rfl,((Z8E _ _).alloc (Z8v _) _).drew⟩
 ·have c8:(w.alloc (.cells #[.int .i64 4,.int .i64 a] 91)).cell? ⟨b,8,none⟩=some (.slice (some ⟨g,0,none⟩) (lsH h 3).length cap):=by
   rw[Z9B _ _ _ hbw,Z8s _ _ _ _ _ _ hN.blk,←hx];rfl
  have hcap':((lsH h 3).length:Int)≤9223372036854775807:=by omega
  go_enter Try.func61,Try.ntmps61;go_wp2;go_region;go_wp2
  go_ret
  exact⟨rfl,((Z8E _ _).alloc (Z8v _) _).drew⟩
end Vm
namespace Vm
open Go Go.Proofs Go.RowKit
set_option maxHeartbeats 4000000
set_option maxRecDepth 100000
def WY(w:World)(r:Int×Hp×Int)(e:Ending)(w':World):Prop:=
 ∃x,e= .returned (.tuple #[.int .u64 r.1,hpA r.2.1 x,.int .i64 r.2.2])∧Below w.heap.size w w'∧HOwn w.heap.size w' r.2.1 x
theorem Tf{B' B:Nat}{w:World}{e:TypeId}{n:Nat}{v:Value}{l:List Value}(h:w.ownsRow B' e 1 v n l)(hG: ∀c,B'≤c→c<w.heap.size→B≤c∧c<w.heap.size):w.ownsRow B e 1 v n l:=by
 refine⟨h.1,?_⟩;rcases h.2 with h0| ⟨g,cap,cur,hv,hb,hg,r⟩
 ·exact .inl h0
 ·exact .inr ⟨g,cap,cur,hv,(hG g hb (Za hg)).1,hg,r⟩
theorem UU(w':World)(G:Nat→Prop): ∀j,j<5→Rd w' G (.sl ((lsH Hp.zero j).map vu)) (.slice none 0 0):=fun j hj=>by
 have:lsH Hp.zero j= []:=by
  unfold lsH Hp.zero;split
  ·rfl
  split
  ·rfl
  split
  ·rfl
  split<;>rfl
 rw[this];exact .nil _ _ (by unfold maxLen;omega)
theorem WN(B:Nat)(w':World):HOwn B w' Hp.zero (fun _=> .slice none 0 0):=⟨fun j hj=>by
 have:lsH Hp.zero j= []:=by
  unfold lsH Hp.zero;split
  ·rfl
  split
  ·rfl
  split
  ·rfl
  split<;>rfl
 rw[this];exact Z9G _ _ _ _,fun i j _ _ c hc=>by cases hc⟩
def Zf:Array Value:= #[.int .u64 0,.int .i64 0,.int .i64 0,.bool false,.int .i64 0,.slice none 0 0,.slice none 0 0,.slice none 0 0,.slice none 0 0,.slice none 0 0]
theorem X4(w:World)(o:Obj):((w.alloc o).alloc (.cells #[.int .u64 0,.int .i64 0,.int .i64 0,.bool false,.int .i64 0,.slice none 0 0,.slice none 0 0,.slice none 0 0,.slice none 0 0,.slice none 0 0] 25)).heap[w.heap.size+1]? =some (.cells Zf 25 (0,0)):=by
 have e:(w.alloc o).heap.size=w.heap.size+1:=by simp
 have:=Z8C (w.alloc o) (.cells Zf 25);rw[e]at this;exact this
theorem Wq{w2:World}{b:Nat}{T:TypeId}(hb:w2.heap[b]? =some (.cells Zf T (0,0)))(v0 v1 v2 v3 v4 v5 v6 v7 v8 v9:Value):((((((((((w2.setCell ⟨b,0,none⟩ v0).setCell ⟨b,1,none⟩ v1).setCell ⟨b,2,none⟩ v2).setCell ⟨b,3,none⟩ v3).setCell ⟨b,4,none⟩ v4).setCell ⟨b,5,none⟩ v5).setCell ⟨b,6,none⟩ v6).setCell ⟨b,7,none⟩ v7).setCell ⟨b,8,none⟩ v8).setCell ⟨b,9,none⟩ v9).heap[b]? =some (.cells #[v0,v1,v2,v3,v4,v5,v6,v7,v8,v9] T (0,0)):=by
 unfold Zf at hb;simp[World.setCell,Z8R,hb]
theorem Zj{w2:World}{b:Nat}{T:TypeId}(hb:w2.heap[b]? =some (.cells Zf T (0,0)))(v0 v1 v2 v3 v4 v5 v6 v7 v8 v9:Value)(j:Nat):((((((((((w2.setCell ⟨b,0,none⟩ v0).setCell ⟨b,1,none⟩ v1).setCell ⟨b,2,none⟩ v2).setCell ⟨b,3,none⟩ v3).setCell ⟨b,4,none⟩ v4).setCell ⟨b,5,none⟩ v5).setCell ⟨b,6,none⟩ v6).setCell ⟨b,7,none⟩ v7).setCell ⟨b,8,none⟩ v8).setCell ⟨b,9,none⟩ v9).cell? ⟨b,j,none⟩=(#[v0,v1,v2,v3,v4,v5,v6,v7,v8,v9]:Array Value)[j]? :=
 Z8s _ _ _ _ _ _ (Wq hb v0 v1 v2 v3 v4 v5 v6 v7 v8 v9)
theorem Zh{B:Nat}{w0 w2:World}{b:Nat}(h:Below B w0 w2)(hb:B≤b)(v0 v1 v2 v3 v4 v5 v6 v7 v8 v9:Value):Below B w0 ((((((((((w2.setCell ⟨b,0,none⟩ v0).setCell ⟨b,1,none⟩ v1).setCell ⟨b,2,none⟩ v2).setCell ⟨b,3,none⟩ v3).setCell ⟨b,4,none⟩ v4).setCell ⟨b,5,none⟩ v5).setCell ⟨b,6,none⟩ v6).setCell ⟨b,7,none⟩ v7).setCell ⟨b,8,none⟩ v8).setCell ⟨b,9,none⟩ v9):=
 (((((((((h.setCell hb _).setCell hb _).setCell hb _).setCell hb _).setCell hb _).setCell hb _).setCell hb _).setCell hb _).setCell hb _).setCell hb _
theorem Zt{w2:World}{b c:Nat}(hc:c≠b)(v0 v1 v2 v3 v4 v5 v6 v7 v8 v9:Value):((((((((((w2.setCell ⟨b,0,none⟩ v0).setCell ⟨b,1,none⟩ v1).setCell ⟨b,2,none⟩ v2).setCell ⟨b,3,none⟩ v3).setCell ⟨b,4,none⟩ v4).setCell ⟨b,5,none⟩ v5).setCell ⟨b,6,none⟩ v6).setCell ⟨b,7,none⟩ v7).setCell ⟨b,8,none⟩ v8).setCell ⟨b,9,none⟩ v9).heap[c]? =w2.heap[c]? :=by
 have: ¬b=c:=fun e=>hc e.symm;simp[World.setCell,Z8R,this]
end Vm
namespace Vm
open Go Go.Proofs Go.RowKit
set_option maxHeartbeats 8000000
set_option maxRecDepth 100000
def Z1o(h:Hp)(x:Nat→Value):Obj:= .cells #[.int .u64 h.base,.int .i64 h.cap,.int .i64 h.to,.bool h.cycle,.int .i64 h.scan,x 0,x 1,x 2,x 3,x 4] 113
theorem UM{B:Nat}{w5:World}{h:Hp}{x:Nat→Value}(ho:HOwn B w5 h x)(hB:B≤w5.heap.size):Now B (w5.alloc (Z1o h x)) w5.heap.size h x:=by
 refine⟨Z8C w5 _,⟨fun j hj=> ?_,ho.apart⟩,fun j hj c hc=> ?_,hB⟩
 ·exact Ze (ho.own j hj) fun c hc=>Z8t _ _ _ ((ho.own j hj).lt c hc).2
 ·have:=((ho.own j hj).lt c hc).2;omega
theorem Rv(W:World):W.drew.heap=W.heap:=rfl
theorem XV{w2:World}{b c:Nat}(hc:c≠b)(v0 v1 v2 v3 v4 v5 v6 v7 v8 v9:Value):((((((((((w2.setCell ⟨b,0,none⟩ v0).setCell ⟨b,1,none⟩ v1).setCell ⟨b,2,none⟩ v2).setCell ⟨b,3,none⟩ v3).setCell ⟨b,4,none⟩ v4).setCell ⟨b,5,none⟩ v5).setCell ⟨b,6,none⟩ v6).setCell ⟨b,7,none⟩ v7).setCell ⟨b,8,none⟩ v8).setCell ⟨b,9,none⟩ v9).drew.heap[c]? =w2.heap[c]? :=by
 rw[Rv];exact Zt hc v0 v1 v2 v3 v4 v5 v6 v7 v8 v9
theorem XU{w:World}{B n q:Nat}{e:TypeId}{z:Nat}{a:Option Addr}{v:Value}{xs:List Value}(h:w.ownsRow B e z v n xs)(hv:v= .slice a n q)(hn:0<n): ∃g,a=some ⟨g,0,none⟩:=by
 subst hv;rcases h.2 with ⟨_,h0⟩ | ⟨g,cap,cur,hc,_⟩
 ·omega
 ·cases hc;exact⟨g,rfl⟩
theorem Z0q{w:World}{B n q:Nat}{e:TypeId}{z:Nat}{a:Option Addr}{xs:List Value}(h:w.ownsRow B e z (.slice a n q) n xs)(hn:0<n):n≤q∧q≤maxLen:=by
 rcases h.2 with ⟨_,h0⟩ | ⟨g,cap,cur,hc,_,_,h1,h2,_⟩
 ·omega
 ·cases hc;exact⟨h1,h2⟩
theorem Yh{w:World}{B g cap:Nat}{l:List Int}(h:w.ownsRow B 22 1 (.slice (some ⟨g,0,none⟩) l.length cap) l.length (nums .u64 l)){i:Nat}{v:Int}(hi:l[i]? =some v):w.cell? ⟨g,i,none⟩=some (.int .u64 v):=by
 obtain⟨hl,hv⟩:=Z8o.1 hi;rw[h.cellAt i (by omega)];simp[nums,hi]
structure FwSt (w W:World) (rb lb kb b B:Nat) (part at_:Int) (h:Hp) (x:Nat→Value):Prop where
 res:W.heap[rb]? =some (.cells Zf 25 (0,0))
 lay:W.heap[lb]? =some (.cells #[.int .u64 (layH h).base,.int .i64 (layH h).cap,.int .i64 (layH h).to,.int .i64 (layH h).low,.int .i64 (layH h).high,.int .i64 (layH h).old,.int .i64 (layH h).far] 53 (0,0))
 plc:W.heap[kb]? =some (.cells #[.int .i64 part,.int .i64 at_] 91 (0,0))
 now:Now B W b h x
 bel:Below w.heap.size w W
 old:w.heap.size≤rb
 rbB:rb<B
 lbB:lb<B
 kbB:kb<B
 sz:B≤W.heap.size
theorem FwSt.below{w W W':World}{rb lb kb b B:Nat}{part at_:Int}{h:Hp}{x:Nat→Value}(s:FwSt w W rb lb kb b B part at_ h x)(hb:Below W.heap.size W W'):FwSt w W' rb lb kb b B part at_ h x:=by
 have hz:=s.sz;have h1:=s.rbB;have h2:=s.lbB;have h3:=s.kbB;have hs:=hb.size;have hs0:=s.bel.size;refine⟨(hb.block _ (by omega)).trans s.res,(hb.block _ (by omega)).trans s.lay,(hb.block _ (by omega)).trans s.plc,⟨(hb.block _ (Za s.now.blk)).trans s.now.blk,⟨fun j hj=> ?_,s.now.own.apart⟩,s.now.far,s.now.new⟩,s.bel.trans (hb.mono hs0),s.old,h1,h2,h3,by omega⟩;exact Ze (s.now.own.own j hj) fun c hc=>hb.block _ ((s.now.own.own j hj).lt c hc).2
theorem FwSt.drew{w W:World}{rb lb kb b B:Nat}{part at_:Int}{h:Hp}{x:Nat→Value}(s:FwSt w W rb lb kb b B part at_ h x):FwSt w W.drew rb lb kb b B part at_ h x:=
 ⟨s.res,s.lay,s.plc,⟨s.now.blk,⟨fun j hj=>Ze (s.now.own.own j hj) fun c hc=>rfl,s.now.own.apart⟩,s.now.far,s.now.new⟩,s.bel.drew,s.old,s.rbB,s.lbB,s.kbB,s.sz⟩
theorem FwSt.F{w W:World}{rb lb kb b B:Nat}{part at_:Int}{h:Hp}{x:Nat→Value}(s:FwSt w W rb lb kb b B part at_ h x):(∀j,W.cell? ⟨rb,j,none⟩=(#[.int .u64 0,.int .i64 0,.int .i64 0,.bool false,.int .i64 0,.slice none 0 0,.slice none 0 0,.slice none 0 0,.slice none 0 0,.slice none 0 0]:Array Value)[j]?)∧(∀j,W.frozen? ⟨rb,j,none⟩=false)∧
  (∀j,W.cell? ⟨b,j,none⟩=(#[.int .u64 h.base,.int .i64 h.cap,.int .i64 h.to,.bool h.cycle,.int .i64 h.scan,x 0,x 1,x 2,x 3,x 4]:Array Value)[j]?)∧(∀j,W.cell? ⟨kb,j,none⟩=(#[.int .i64 part,.int .i64 at_]:Array Value)[j]?)∧ ∀j,W.cell? ⟨lb,j,none⟩=(#[.int .u64 (layH h).base,.int .i64 (layH h).cap,.int .i64 (layH h).to,.int .i64 (layH h).low,.int .i64 (layH h).high,.int .i64 (layH h).old,.int .i64 (layH h).far]:Array Value)[j]? :=
 ⟨fun j=>Z8s _ _ _ _ _ _ s.res,fun j=>Zk s.res,fun j=>Z8s _ _ _ _ _ _ s.now.blk,fun j=>Z8s _ _ _ _ _ _ s.plc,fun j=>Z8s _ _ _ _ _ _ s.lay⟩
theorem JE(w:World)(G:Nat→Prop)(hG: ∀b,G b→b<w.heap.size)(h:Hp)(hh:h.ok)(src:Nat→Value)(hs: ∀j,j<5→Rd w G (.sl ((lsH h j).map vu)) (src j))(v:Int)(hv:U64 v)
  (hr:Z8 (layH h)=true) (hv0: ¬v=0) (h1:(adr v).2=0) (part:Int) (at_:Nat) (hf:ZJ (layH h) (adr v).1=(part,(at_:Int),0)) (hp:part=1∨part=2):
  Calls Try.prog 39 #[hpA h src,.int .u64 v] w (WY w (fwd h v)):=by
 have HS:=Z8r hs;have HH:=Z8r hh;clear hs hh;unfold hpA;go_enter Try.func39,Try.ntmps39;rcases hp with rfl|rfl
 all_goals
  go_wp2_with (first
   | (go_at_call 51;go_loud (refine(ZP (h:=h) (x:=src) (G:=G) (fun c hc=>by have:=hG c hc;simp;omega) (fun j hj=>(HS.out j hj).keep (fun b hb=>by have:=hG b hb;rw[Z8t _ _ _ (by simp;omega),Z8t _ _ _ (by omega)]) (fun _ h=>h))).mono ?_;rintro e w1 ⟨rfl,hb1⟩;unfold lyA;have z1:=(hb1.block (w.heap.size+1) (by simp)).trans (X4 w _);have p1:=(hb1.block w.heap.size (by simp;omega)).trans ((Z8t _ _ w.heap.size (by simp)).trans (Z8C w _));have hs1:=hb1.size;simp at hs1;have HB1:=Z8r hb1;clear hb1))
   | (go_at_call 43;go_loud (refine(Yk HH.out.lay _).mono ?_;rintro e w2 ⟨rfl,hb2⟩;rw[hr];have z2:=(hb2.block (w.heap.size+1) (by simp;omega)).trans ((Z8t w1 _ (w.heap.size+1) (by omega)).trans z1);have p2:=(hb2.block w.heap.size (by simp;omega)).trans ((Z8t w1 _ w.heap.size (by omega)).trans p1);have x2:=fun j=>Z8s _ _ j _ _ _ p2;have hb02:Below w.heap.size w w2:=((((((Z8E _ _).alloc (Z8v _) _).alloc (by simp) _).trans (HB1.out.mono (by simp;omega))).alloc (by omega) _).trans (hb2.mono (by simp;omega)));have hs2:=hb2.size;simp at hs2;have m2:=(hb2.block w1.heap.size (by simp)).trans (Z8C w1 _);have HB02:=Z8r hb02;clear hb2 hb02))
   | (go_at_call 59;go_loud (refine(ZQ hv _).mono ?_;rintro e w3 ⟨rfl,hb3⟩;have z3:=(hb3.block (w.heap.size+1) (by omega)).trans z2;have p3:=(hb3.block w.heap.size (by omega)).trans p2;have m3:=(hb3.block w1.heap.size (by omega)).trans m2;have l3:=fun j=>Z8s _ _ j _ _ _ m3;have hs3:=hb3.size;have HB3:=Z8r hb3;clear hb3))
   | (go_at_call 60;go_loud (refine(XA HH.out.lay (yA hv) _).mono ?_;rintro e w4 ⟨rfl,hb4⟩;rw[hf];dsimp only;have hs4:=hb4.size;have z4:=fun o=>(Z8t w4 o (w.heap.size+1) (by omega)).trans ((hb4.block (w.heap.size+1) (by omega)).trans z3);have p4:=fun o=>(Z8t w4 o w.heap.size (by omega)).trans ((hb4.block w.heap.size (by omega)).trans p3);have x4:=fun o j=>Z8s _ _ j _ _ _ (p4 o);have hb04: ∀o,Below w.heap.size w (w4.alloc o):=fun o=>((HB02.out.trans (HB3.out.mono (by omega))).trans (hb4.mono (by omega))).alloc (by omega) o;have m4:=fun o=>(Z8t w4 o w1.heap.size (by omega)).trans ((hb4.block w1.heap.size (by omega)).trans m3);have HB04:=Z8r hb04;clear hb4 hb04 z3 p3 m3 l3 z2 p2 x2 m2))
   | (go_at_call 48;go_loud (refine(WK _ G (fun b hb=>by have:=hG b hb;simp;omega) h HH.out src (fun j hj=>(HS.out j hj).keep (fun b hb=>(HB04.out _).block b (hG b hb)) (fun _ h=>h))).mono ?_;rintro e w5 ⟨x,rfl,hb5,ho5⟩;obtain⟨a0,q0,e0⟩:=Z3 (ho5.own 0 (by omega));obtain⟨a1,q1,e1⟩:=Z3 (ho5.own 1 (by omega));obtain⟨a2,q2,e2⟩:=Z3 (ho5.own 2 (by omega));obtain⟨a3,q3,e3⟩:=Z3 (ho5.own 3 (by omega));obtain⟨a4,q4,e4⟩:=Z3 (ho5.own 4 (by omega));unfold hpA;rw[e0,e1,e2,e3,e4];have hs5:=hb5.size;simp at hs5;have hsz4: ∀o,(w4.alloc o).heap.size=w4.heap.size+1:=fun o=>(by simp);rw[hsz4]at ho5;have hN:=UM ho5 (by omega);unfold Z1o at hN;rw[e0,e1,e2,e3,e4]at hN;have hb05: ∀o,Below w.heap.size w (w5.alloc o):=fun o=>((HB04.out _).trans (hb5.mono (by simp;omega))).alloc (by omega) o;have z6:=fun o=>(Z8t w5 o (w.heap.size+1) (by omega)).trans ((hb5.block (w.heap.size+1) (by simp;omega)).trans (z4 _));have st6:FwSt w (w5.alloc _) (w.heap.size+1) w1.heap.size w4.heap.size w5.heap.size (w4.heap.size+1) _ (at_:Nat) h x:=⟨z6 _,(Z8t w5 _ w1.heap.size (by omega)).trans ((hb5.block w1.heap.size (by simp;omega)).trans (m4 _)),(Z8t w5 _ w4.heap.size (by omega)).trans ((hb5.block w4.heap.size (by simp)).trans (Z8C w4 _)),hN,hb05 _,by omega,by omega,by omega,by omega,by simp;omega⟩;obtain⟨y6,f6,n6c,k6c,m6c⟩:=st6.F;rw[e0,e1,e2,e3,e4]at n6c;have ST6:=Z8r st6;clear st6;have HB05:=Z8r hb05;have HN:=Z8r hN;have E0:=Z8r e0;have E1:=Z8r e1;have E2:=Z8r e2;have E3:=Z8r e3;have E4:=Z8r e4;clear hb05 hN e0 e1 e2 e3 e4 ho5 hb5 z4 p4 x4 m4)))
  go_region
  all_goals
   go_wp2
   try simp only[Exit.inBlock,Exit.then]
   have y:=Zj ST6.out.res (.int .u64 h.base) (.int .i64 h.cap) (.int .i64 h.to) (.bool h.cycle) (.int .i64 h.scan) (.slice a0 (lsH h 0).length q0) (.slice a1 (lsH h 1).length q1) (.slice a2 (lsH h 2).length q2) (.slice a3 (lsH h 3).length q3) (.slice a4 (lsH h 4).length q4);have hfw:fwd h v=(v,h,0):=by simp[fwd,hr,hv0,h1,hf]
   rw[hfw];refine Z8K (v:= .tuple #[.int .u64 v,hpA h x,.int .i64 0]) ?_ rfl ?_
   ·unfold hpA;rw[E0.out,E1.out,E2.out,E3.out,E4.out];simp[results,Try.results39,go_sem,y]
   ·refine⟨x,rfl,?_,?_⟩
    ·exact(Zh (HB05.out _) (by omega) _ _ _ _ _ _ _ _ _ _).drew
    ·refine⟨fun j hj=> ?_,HN.out.own.apart⟩;have ho:=HN.out.own.own j hj;refine Tf (Ze ho ?_) ?_
     ·intro c hc;have hc1:=(ho.lt c hc).1;exact XV (by omega) _ _ _ _ _ _ _ _ _ _
     ·intro c h1 h2;exact⟨by omega,h2⟩
theorem Jc(w:World)(G:Nat→Prop)(hG: ∀b,G b→b<w.heap.size)(h:Hp)(hh:h.ok)(src:Nat→Value)(hs: ∀j,j<5→Rd w G (.sl ((lsH h j).map vu)) (src j))(v:Int)(hv:U64 v)
  (hr:Z8 (layH h)=true) (hv0: ¬v=0) (h1:(adr v).2=0) (part:Int) (at_:Nat) (hf:ZJ (layH h) (adr v).1=(part,(at_:Int),0)) (j:Nat) (hj:((j:Nat):Int)+1=part) (hp:part=3∨part=4)
  (wd:Int) (hwd:(lsH h j)[at_]? =some wd) (hat:at_< (lsH h j).length) (hwu:U64 wd) (hgo:(adr wd).2=0):
  Calls Try.prog 39 #[hpA h src,.int .u64 v] w (WY w (fwd h v)):=by
 have HS:=Z8r hs;have HH:=Z8r hh;clear hs hh;unfold hpA;go_enter Try.func39,Try.ntmps39;rcases hp with rfl|rfl
 all_goals
  have hj5:j=2∨j=3:=by omega
  go_wp2_with (first
   | (go_at_call 61;go_loud (have hfr:=Kc _ (w4.heap.size+1) w5.heap.size h x ST6.out.now HH.out j at_ (by omega) g qj EP.out (by omega);rw[hj]at hfr;refine hfr.mono ?_;clear hfr;rintro e w7 ⟨rfl,hb7⟩;obtain⟨m,hm⟩: ∃m,(lsH h j).length-at_=m:=⟨_,rfl⟩;obtain⟨qm,hqm⟩: ∃qm,qj-at_=qm:=⟨_,rfl⟩;rw[hm,hqm];have hm0:0<m:=(by omega);have hm0i:(0:Int) < (m:Int):=(by omega);have hat2:at_+0=at_:=rfl;have st7:=ST6.out.below hb7;have hs7:=hb7.size;simp at hs7;obtain⟨y7,f7,n7c,k7c,m7c⟩:=st7.F;rw[E0.out,E1.out,E2.out,E3.out,E4.out]at n7c;have hop7:=st7.now.own.own j (by omega);rw[EP.out]at hop7;have c7:=Yh hop7 hwd;have ST7:=Z8r st7;clear hb7 st7 hop7))
   | (go_at_call 59;go_loud (have st7:=ST7.out;refine(ZQ hwu _).mono ?_;rintro e w8 ⟨rfl,hb8⟩;have st8:=st7.below hb8;have hs8:=hb8.size;obtain⟨y8,f8,n8c,k8c,m8c⟩:=st8.F;rw[E0.out,E1.out,E2.out,E3.out,E4.out]at n8c;have hop8:=st8.now.own.own j (by omega);rw[EP.out]at hop8;have c8:=Yh hop8 hwd;have ST8:=Z8r st8;clear hb8 st8 st7 hop8))
   | (go_at_call 51;go_loud (refine(ZP (h:=h) (x:=src) (G:=G) (fun c hc=>by have:=hG c hc;simp;omega) (fun j hj=>(HS.out j hj).keep (fun b hb=>by have:=hG b hb;rw[Z8t _ _ _ (by simp;omega),Z8t _ _ _ (by omega)]) (fun _ h=>h))).mono ?_;rintro e w1 ⟨rfl,hb1⟩;unfold lyA;have z1:=(hb1.block (w.heap.size+1) (by simp)).trans (X4 w _);have p1:=(hb1.block w.heap.size (by simp;omega)).trans ((Z8t _ _ w.heap.size (by simp)).trans (Z8C w _));have hs1:=hb1.size;simp at hs1;have HB1:=Z8r hb1;clear hb1))
   | (go_at_call 43;go_loud (refine(Yk HH.out.lay _).mono ?_;rintro e w2 ⟨rfl,hb2⟩;rw[hr];have z2:=(hb2.block (w.heap.size+1) (by simp;omega)).trans ((Z8t w1 _ (w.heap.size+1) (by omega)).trans z1);have p2:=(hb2.block w.heap.size (by simp;omega)).trans ((Z8t w1 _ w.heap.size (by omega)).trans p1);have x2:=fun j=>Z8s _ _ j _ _ _ p2;have hb02:Below w.heap.size w w2:=((((((Z8E _ _).alloc (Z8v _) _).alloc (by simp) _).trans (HB1.out.mono (by simp;omega))).alloc (by omega) _).trans (hb2.mono (by simp;omega)));have hs2:=hb2.size;simp at hs2;have m2:=(hb2.block w1.heap.size (by simp)).trans (Z8C w1 _);have HB02:=Z8r hb02;clear hb2 hb02))
   | (go_at_call 59;go_loud (refine(ZQ hv _).mono ?_;rintro e w3 ⟨rfl,hb3⟩;have z3:=(hb3.block (w.heap.size+1) (by omega)).trans z2;have p3:=(hb3.block w.heap.size (by omega)).trans p2;have m3:=(hb3.block w1.heap.size (by omega)).trans m2;have l3:=fun j=>Z8s _ _ j _ _ _ m3;have hs3:=hb3.size;have HB3:=Z8r hb3;clear hb3))
   | (go_at_call 60;go_loud (refine(XA HH.out.lay (yA hv) _).mono ?_;rintro e w4 ⟨rfl,hb4⟩;rw[hf];dsimp only;have hs4:=hb4.size;have z4:=fun o=>(Z8t w4 o (w.heap.size+1) (by omega)).trans ((hb4.block (w.heap.size+1) (by omega)).trans z3);have p4:=fun o=>(Z8t w4 o w.heap.size (by omega)).trans ((hb4.block w.heap.size (by omega)).trans p3);have x4:=fun o j=>Z8s _ _ j _ _ _ (p4 o);have hb04: ∀o,Below w.heap.size w (w4.alloc o):=fun o=>((HB02.out.trans (HB3.out.mono (by omega))).trans (hb4.mono (by omega))).alloc (by omega) o;have m4:=fun o=>(Z8t w4 o w1.heap.size (by omega)).trans ((hb4.block w1.heap.size (by omega)).trans m3);have HB04:=Z8r hb04;clear hb4 hb04 z3 p3 m3 l3 z2 p2 x2 m2))
   | (go_at_call 48;go_loud (refine(WK _ G (fun b hb=>by have:=hG b hb;simp;omega) h HH.out src (fun j hj=>(HS.out j hj).keep (fun b hb=>(HB04.out _).block b (hG b hb)) (fun _ h=>h))).mono ?_;rintro e w5 ⟨x,rfl,hb5,ho5⟩;obtain⟨a0,q0,e0⟩:=Z3 (ho5.own 0 (by omega));obtain⟨a1,q1,e1⟩:=Z3 (ho5.own 1 (by omega));obtain⟨a2,q2,e2⟩:=Z3 (ho5.own 2 (by omega));obtain⟨a3,q3,e3⟩:=Z3 (ho5.own 3 (by omega));obtain⟨a4,q4,e4⟩:=Z3 (ho5.own 4 (by omega));obtain⟨aj,qj,ej⟩:=Z3 (ho5.own j (by omega));obtain⟨g,hg⟩:=XU (ho5.own j (by omega)) ej (by omega);subst hg;unfold hpA;rw[e0,e1,e2,e3,e4];have hs5:=hb5.size;simp at hs5;have hsz4: ∀o,(w4.alloc o).heap.size=w4.heap.size+1:=fun o=>(by simp);rw[hsz4]at ho5;have hN:=UM ho5 (by omega);unfold Z1o at hN;rw[e0,e1,e2,e3,e4]at hN;have hb05: ∀o,Below w.heap.size w (w5.alloc o):=fun o=>((HB04.out _).trans (hb5.mono (by simp;omega))).alloc (by omega) o;have z6:=fun o=>(Z8t w5 o (w.heap.size+1) (by omega)).trans ((hb5.block (w.heap.size+1) (by simp;omega)).trans (z4 _));have st6:FwSt w (w5.alloc _) (w.heap.size+1) w1.heap.size w4.heap.size w5.heap.size (w4.heap.size+1) _ (at_:Nat) h x:=⟨z6 _,(Z8t w5 _ w1.heap.size (by omega)).trans ((hb5.block w1.heap.size (by simp;omega)).trans (m4 _)),(Z8t w5 _ w4.heap.size (by omega)).trans ((hb5.block w4.heap.size (by simp)).trans (Z8C w4 _)),hN,hb05 _,by omega,by omega,by omega,by omega,by simp;omega⟩;obtain⟨y6,f6,n6c,k6c,m6c⟩:=st6.F;rw[e0,e1,e2,e3,e4]at n6c;have ST6:=Z8r st6;have EP:=Z8r ej;clear ej;clear st6;have HB05:=Z8r hb05;have HN:=Z8r hN;have E0:=Z8r e0;have E1:=Z8r e1;have E2:=Z8r e2;have E3:=Z8r e3;have E4:=Z8r e4;clear hb05 hN e0 e1 e2 e3 e4 ho5 hb5 z4 p4 x4 m4)))
  have hfw:fwd h v=(wd,h,0):=by
   first
   | (have hj2:j=2:=by omega
      subst hj2)
   | (have hj2:j=3:=by omega
      subst hj2)
   first
   |have hpH:h.old.getD at_ 0=wd:=by show(lsH h 2).getD at_ 0=wd;simp[List.getD,hwd]
   |have hpH:h.far.getD at_ 0=wd:=by show(lsH h 3).getD at_ 0=wd;simp[List.getD,hwd]
   have hpL:h.old.length=(lsH h 2).length:=rfl;have hpM:h.far.length=(lsH h 3).length:=rfl;simp[fwd,hr,hv0,h1,hf,-List.getD_eq_getElem?_getD,hpH,hgo]
  go_region
  all_goals
   go_wp2
   try simp only[Exit.inBlock,Exit.then]
   have y:=Zj ST8.out.res (.int .u64 h.base) (.int .i64 h.cap) (.int .i64 h.to) (.bool h.cycle) (.int .i64 h.scan) (.slice a0 (lsH h 0).length q0) (.slice a1 (lsH h 1).length q1) (.slice a2 (lsH h 2).length q2) (.slice a3 (lsH h 3).length q3) (.slice a4 (lsH h 4).length q4);rw[hfw];refine Z8K (v:= .tuple #[.int .u64 wd,hpA h x,.int .i64 0]) ?_ rfl ?_
   ·unfold hpA;rw[E0.out,E1.out,E2.out,E3.out,E4.out];simp[results,Try.results39,go_sem,y]
   ·refine⟨x,rfl,?_,?_⟩
    ·exact(Zh ST8.out.bel (by omega) _ _ _ _ _ _ _ _ _ _).drew
    ·refine⟨fun j hj=> ?_,ST8.out.now.own.apart⟩;have ho:=ST8.out.now.own.own j hj;refine Tf (Ze ho ?_) ?_
     ·intro c hc;have hc1:=(ho.lt c hc).1;exact XV (by omega) _ _ _ _ _ _ _ _ _ _
     ·intro c h1 h2;exact⟨by omega,h2⟩
theorem Tq(w:World)(G:Nat→Prop)(hG: ∀b,G b→b<w.heap.size)(h:Hp)(hh:h.ok)(src:Nat→Value)(hs: ∀j,j<5→Rd w G (.sl ((lsH h j).map vu)) (src j))(v:Int)(hv:U64 v)
  (hr:Z8 (layH h)=true) (hv0: ¬v=0) (h1:(adr v).2=0) (part:Int) (at_:Nat) (hf:ZJ (layH h) (adr v).1=(part,(at_:Int),0)) (j:Nat) (hj:((j:Nat):Int)+1=part) (hp:part=3∨part=4)
  (wd:Int) (hwd:(lsH h j)[at_]? =some wd) (hat:at_< (lsH h j).length) (hwu:U64 wd) (hgo: ¬(adr wd).2=0) (sz:Nat) (pt er:Int) (hun:unpk wd=((sz:Int),pt,er)) (hsz:sz≤255)
  (hc: ¬er=0∨(er=0∧(lsH h j).length<at_+(sz+1))∨(er=0∧at_+(sz+1)≤(lsH h j).length∧YZ (layH h) < ((sz+1:Nat):Int))∨(er=0∧at_+(sz+1)≤(lsH h j).length∧ ¬YZ (layH h) < ((sz+1:Nat):Int))):
  Calls Try.prog 39 #[hpA h src,.int .u64 v] w (WY w (fwd h v)):=by
 have HS:=Z8r hs;have HH:=Z8r hh;clear hs hh;unfold hpA;go_enter Try.func39,Try.ntmps39;rcases hc with her| ⟨her,hlt⟩ | ⟨her,hle,hrm⟩ | ⟨her,hle,hrm⟩
 all_goals rcases hp with rfl|rfl
 all_goals
  have hj5:j=2∨j=3:=by omega
  go_wp2_with (first
   | (go_at_call 61;go_loud (have hfr:=Kc _ (w4.heap.size+1) w5.heap.size h x ST6.out.now HH.out j at_ (by omega) g qj EP.out (by omega);rw[hj]at hfr;refine hfr.mono ?_;clear hfr;rintro e w7 ⟨rfl,hb7⟩;obtain⟨m,hm⟩: ∃m,(lsH h j).length-at_=m:=⟨_,rfl⟩;obtain⟨qm,hqm⟩: ∃qm,qj-at_=qm:=⟨_,rfl⟩;rw[hm,hqm];have hm0:0<m:=(by omega);have hm0i:(0:Int) < (m:Int):=(by omega);have hat2:at_+0=at_:=rfl;have st7:=ST6.out.below hb7;have hs7:=hb7.size;simp at hs7;obtain⟨y7,f7,n7c,k7c,m7c⟩:=st7.F;rw[E0.out,E1.out,E2.out,E3.out,E4.out]at n7c;have hop7:=st7.now.own.own j (by omega);rw[EP.out]at hop7;have c7:=Yh hop7 hwd;have ST7:=Z8r st7;clear hb7 st7 hop7))
   | (go_at_call 59;go_loud (have st7:=ST7.out;refine(ZQ hwu _).mono ?_;rintro e w8 ⟨rfl,hb8⟩;have st8:=st7.below hb8;have hs8:=hb8.size;obtain⟨y8,f8,n8c,k8c,m8c⟩:=st8.F;rw[E0.out,E1.out,E2.out,E3.out,E4.out]at n8c;have hop8:=st8.now.own.own j (by omega);rw[EP.out]at hop8;have c8:=Yh hop8 hwd;have ST8:=Z8r st8;clear hb8 st8 st7 hop8))
   | (go_at_call 62;go_loud (refine(X2 hwu _).mono ?_;rintro e w9 ⟨rfl,hb9⟩;rw[hun];dsimp only;have hs9:=hb9.size;have st10:FwSt w (w9.alloc (.cells #[.int .i64 (sz:Nat),.int .i64 pt] 47)) _ _ _ _ _ _ _ h x:=(ST8.out.below hb9).below ((Z8E _ _).alloc (Z8v _) _);obtain⟨y10,f10,n10c,k10c,m10c⟩:=st10.F;rw[E0.out,E1.out,E2.out,E3.out,E4.out]at n10c;have hop10:=st10.now.own.own j (by omega);rw[EP.out]at hop10;have c10:=Yh hop10 hwd;have s10c:=fun j=>Z8s _ _ j _ _ _ (Z8C w9 (.cells #[.int .i64 (sz:Nat),.int .i64 pt] 47));have ST10:=Z8r st10;have hml:m≤1000000:=(by have:=WI HH.out j;omega);have hl10:at_+m=(lsH h j).length:=(by omega);clear hb9 st10 hop10))
   | (go_at_call 51;go_loud (refine(ZP (h:=h) (x:=src) (G:=G) (fun c hc=>by have:=hG c hc;simp;omega) (fun j hj=>(HS.out j hj).keep (fun b hb=>by have:=hG b hb;rw[Z8t _ _ _ (by simp;omega),Z8t _ _ _ (by omega)]) (fun _ h=>h))).mono ?_;rintro e w1 ⟨rfl,hb1⟩;unfold lyA;have z1:=(hb1.block (w.heap.size+1) (by simp)).trans (X4 w _);have p1:=(hb1.block w.heap.size (by simp;omega)).trans ((Z8t _ _ w.heap.size (by simp)).trans (Z8C w _));have hs1:=hb1.size;simp at hs1;have HB1:=Z8r hb1;clear hb1))
   | (go_at_call 43;go_loud (refine(Yk HH.out.lay _).mono ?_;rintro e w2 ⟨rfl,hb2⟩;rw[hr];have z2:=(hb2.block (w.heap.size+1) (by simp;omega)).trans ((Z8t w1 _ (w.heap.size+1) (by omega)).trans z1);have p2:=(hb2.block w.heap.size (by simp;omega)).trans ((Z8t w1 _ w.heap.size (by omega)).trans p1);have x2:=fun j=>Z8s _ _ j _ _ _ p2;have hb02:Below w.heap.size w w2:=((((((Z8E _ _).alloc (Z8v _) _).alloc (by simp) _).trans (HB1.out.mono (by simp;omega))).alloc (by omega) _).trans (hb2.mono (by simp;omega)));have hs2:=hb2.size;simp at hs2;have m2:=(hb2.block w1.heap.size (by simp)).trans (Z8C w1 _);have HB02:=Z8r hb02;clear hb2 hb02))
   | (go_at_call 59;go_loud (refine(ZQ hv _).mono ?_;rintro e w3 ⟨rfl,hb3⟩;have z3:=(hb3.block (w.heap.size+1) (by omega)).trans z2;have p3:=(hb3.block w.heap.size (by omega)).trans p2;have m3:=(hb3.block w1.heap.size (by omega)).trans m2;have l3:=fun j=>Z8s _ _ j _ _ _ m3;have hs3:=hb3.size;have HB3:=Z8r hb3;clear hb3))
   | (go_at_call 60;go_loud (refine(XA HH.out.lay (yA hv) _).mono ?_;rintro e w4 ⟨rfl,hb4⟩;rw[hf];dsimp only;have hs4:=hb4.size;have z4:=fun o=>(Z8t w4 o (w.heap.size+1) (by omega)).trans ((hb4.block (w.heap.size+1) (by omega)).trans z3);have p4:=fun o=>(Z8t w4 o w.heap.size (by omega)).trans ((hb4.block w.heap.size (by omega)).trans p3);have x4:=fun o j=>Z8s _ _ j _ _ _ (p4 o);have hb04: ∀o,Below w.heap.size w (w4.alloc o):=fun o=>((HB02.out.trans (HB3.out.mono (by omega))).trans (hb4.mono (by omega))).alloc (by omega) o;have m4:=fun o=>(Z8t w4 o w1.heap.size (by omega)).trans ((hb4.block w1.heap.size (by omega)).trans m3);have HB04:=Z8r hb04;clear hb4 hb04 z3 p3 m3 l3 z2 p2 x2 m2))
   | (go_at_call 48;go_loud (refine(WK _ G (fun b hb=>by have:=hG b hb;simp;omega) h HH.out src (fun j hj=>(HS.out j hj).keep (fun b hb=>(HB04.out _).block b (hG b hb)) (fun _ h=>h))).mono ?_;rintro e w5 ⟨x,rfl,hb5,ho5⟩;obtain⟨a0,q0,e0⟩:=Z3 (ho5.own 0 (by omega));obtain⟨a1,q1,e1⟩:=Z3 (ho5.own 1 (by omega));obtain⟨a2,q2,e2⟩:=Z3 (ho5.own 2 (by omega));obtain⟨a3,q3,e3⟩:=Z3 (ho5.own 3 (by omega));obtain⟨a4,q4,e4⟩:=Z3 (ho5.own 4 (by omega));obtain⟨aj,qj,ej⟩:=Z3 (ho5.own j (by omega));obtain⟨g,hg⟩:=XU (ho5.own j (by omega)) ej (by omega);subst hg;unfold hpA;rw[e0,e1,e2,e3,e4];have hs5:=hb5.size;simp at hs5;have hsz4: ∀o,(w4.alloc o).heap.size=w4.heap.size+1:=fun o=>(by simp);rw[hsz4]at ho5;have hN:=UM ho5 (by omega);unfold Z1o at hN;rw[e0,e1,e2,e3,e4]at hN;have hb05: ∀o,Below w.heap.size w (w5.alloc o):=fun o=>((HB04.out _).trans (hb5.mono (by simp;omega))).alloc (by omega) o;have z6:=fun o=>(Z8t w5 o (w.heap.size+1) (by omega)).trans ((hb5.block (w.heap.size+1) (by simp;omega)).trans (z4 _));have st6:FwSt w (w5.alloc _) (w.heap.size+1) w1.heap.size w4.heap.size w5.heap.size (w4.heap.size+1) _ (at_:Nat) h x:=⟨z6 _,(Z8t w5 _ w1.heap.size (by omega)).trans ((hb5.block w1.heap.size (by simp;omega)).trans (m4 _)),(Z8t w5 _ w4.heap.size (by omega)).trans ((hb5.block w4.heap.size (by simp)).trans (Z8C w4 _)),hN,hb05 _,by omega,by omega,by omega,by omega,by simp;omega⟩;obtain⟨y6,f6,n6c,k6c,m6c⟩:=st6.F;rw[e0,e1,e2,e3,e4]at n6c;have ST6:=Z8r st6;have EP:=Z8r ej;clear ej;clear st6;have HB05:=Z8r hb05;have HN:=Z8r hN;have E0:=Z8r e0;have E1:=Z8r e1;have E2:=Z8r e2;have E3:=Z8r e3;have E4:=Z8r e4;clear hb05 hN e0 e1 e2 e3 e4 ho5 hb5 z4 p4 x4 m4)))
 iterate 2
  focus
   have hfw:fwd h v=(0,Hp.zero,3):=by
    first
    | (have hj2:j=2:=by omega
       subst hj2)
    | (have hj2:j=3:=by omega
       subst hj2)
    first
    |have hpH:h.old.getD at_ 0=wd:=by show(lsH h 2).getD at_ 0=wd;simp[List.getD,hwd]
    |have hpH:h.far.getD at_ 0=wd:=by show(lsH h 3).getD at_ 0=wd;simp[List.getD,hwd]
    have hpL:h.old.length=(lsH h 2).length:=rfl;have hpM:h.far.length=(lsH h 3).length:=rfl;simp[fwd,fwdC,hr,hv0,h1,hf,-List.getD_eq_getElem?_getD,hpH,hpL,hpM,hgo,hun,her]
   have y:=Zj ST10.out.res (.int .u64 0) (.int .i64 0) (.int .i64 0) (.bool false) (.int .i64 0) (.slice none 0 0) (.slice none 0 0) (.slice none 0 0) (.slice none 0 0) (.slice none 0 0);rw[hfw];refine Z8K (v:= .tuple #[.int .u64 0,.agg Zf,.int .i64 3]) ?_ rfl ?_
   ·simp[results,Try.results39,go_sem,y,Zf]
   ·refine⟨fun _=> .slice none 0 0,?_,?_,WN _ _⟩
    ·simp[hpA,Hp.zero,Zf]
    ·exact Zh ST10.out.bel (by omega) _ _ _ _ _ _ _ _ _ _
 iterate 2
  focus
   have hfw:fwd h v=(0,Hp.zero,2):=by
    first
    | (have hj2:j=2:=by omega
       subst hj2)
    | (have hj2:j=3:=by omega
       subst hj2)
    first
    |have hpH:h.old.getD at_ 0=wd:=by show(lsH h 2).getD at_ 0=wd;simp[List.getD,hwd]
    |have hpH:h.far.getD at_ 0=wd:=by show(lsH h 3).getD at_ 0=wd;simp[List.getD,hwd]
    have hpL:h.old.length=(lsH h 2).length:=rfl;have hpM:h.far.length=(lsH h 3).length:=rfl;simp[fwd,fwdC,hr,hv0,h1,hf,-List.getD_eq_getElem?_getD,hpH,hpL,hpM,hgo,hun,her,hlt]
   have y:=Zj ST10.out.res (.int .u64 0) (.int .i64 0) (.int .i64 0) (.bool false) (.int .i64 0) (.slice none 0 0) (.slice none 0 0) (.slice none 0 0) (.slice none 0 0) (.slice none 0 0);rw[hfw];refine Z8K (v:= .tuple #[.int .u64 0,.agg Zf,.int .i64 2]) ?_ rfl ?_
   ·simp[results,Try.results39,go_sem,y,Zf]
   ·refine⟨fun _=> .slice none 0 0,?_,?_,WN _ _⟩
    ·simp[hpA,Hp.zero,Zf]
    ·exact Zh ST10.out.bel (by omega) _ _ _ _ _ _ _ _ _ _
 iterate 2
  focus
   obtain⟨sm,hsm⟩: ∃sm:Nat,sz+1=sm:=⟨_,rfl⟩;have hwr:IntKind.i64.wrap ((sz:Int)+1)=(sm:Int):=by rw[Z1 ((sz:Int)+1) (by omega) (by omega)];omega
   have hrm2:YZ (layH h) < (sm:Int):=by omega
   have HSM:=Z8r hsm;have HRM:=Z8r hrm;have HLE:=Z8r hle;clear hsm hrm hle;have hbs:w9.heap.size< ((w9.alloc (.cells #[.int .i64 (sz:Nat),.int .i64 pt] 47))).heap.size:=by simp
   clear m7c m8c k10c k7c k8c y7 y8 f7 f8 n7c n8c c7 c8;generalize (w9.alloc (.cells #[.int .i64 (sz:Nat),.int .i64 pt] 47))=w10 at*;have ST10j:FwSt w w10 (w.heap.size+1) w1.heap.size w4.heap.size w5.heap.size (w4.heap.size+1) (((j:Nat):Int)+1) (at_:Nat) h x:=by rw[hj];exact ST10.out
   have S10:(fun w'=>w'.cell? ⟨w1.heap.size,0,none⟩=some (.int .u64 (layH h).base)∧w'.cell? ⟨w1.heap.size,1,none⟩=some (.int .i64 (layH h).cap)∧w'.cell? ⟨w1.heap.size,2,none⟩=some (.int .i64 (layH h).to)∧w'.cell? ⟨w1.heap.size,3,none⟩=some (.int .i64 (layH h).low)∧w'.cell? ⟨w1.heap.size,4,none⟩=some (.int .i64 (layH h).high)∧w'.cell? ⟨w1.heap.size,5,none⟩=some (.int .i64 (layH h).old)∧w'.cell? ⟨w1.heap.size,6,none⟩=some (.int .i64 (layH h).far)∧w'.cell? ⟨w9.heap.size,0,none⟩=some (.int .i64 (sz:Nat))∧FwSt w w' (w.heap.size+1) w1.heap.size w4.heap.size w5.heap.size (w4.heap.size+1) (((j:Nat):Int)+1) (at_:Nat) h x∧w9.heap.size<w'.heap.size) w10.drew:=⟨m10c 0,m10c 1,m10c 2,m10c 3,m10c 4,m10c 5,m10c 6,s10c 0,ST10j.drew,hbs⟩
   have SBel: ∀(u u':World),(fun w'=>w'.cell? ⟨w1.heap.size,0,none⟩=some (.int .u64 (layH h).base)∧w'.cell? ⟨w1.heap.size,1,none⟩=some (.int .i64 (layH h).cap)∧w'.cell? ⟨w1.heap.size,2,none⟩=some (.int .i64 (layH h).to)∧w'.cell? ⟨w1.heap.size,3,none⟩=some (.int .i64 (layH h).low)∧w'.cell? ⟨w1.heap.size,4,none⟩=some (.int .i64 (layH h).high)∧w'.cell? ⟨w1.heap.size,5,none⟩=some (.int .i64 (layH h).old)∧w'.cell? ⟨w1.heap.size,6,none⟩=some (.int .i64 (layH h).far)∧w'.cell? ⟨w9.heap.size,0,none⟩=some (.int .i64 (sz:Nat))∧FwSt w w' (w.heap.size+1) w1.heap.size w4.heap.size w5.heap.size (w4.heap.size+1) (((j:Nat):Int)+1) (at_:Nat) h x∧w9.heap.size<w'.heap.size) u→Below u.heap.size u u'→(fun w'=>w'.cell? ⟨w1.heap.size,0,none⟩=some (.int .u64 (layH h).base)∧w'.cell? ⟨w1.heap.size,1,none⟩=some (.int .i64 (layH h).cap)∧w'.cell? ⟨w1.heap.size,2,none⟩=some (.int .i64 (layH h).to)∧w'.cell? ⟨w1.heap.size,3,none⟩=some (.int .i64 (layH h).low)∧w'.cell? ⟨w1.heap.size,4,none⟩=some (.int .i64 (layH h).high)∧w'.cell? ⟨w1.heap.size,5,none⟩=some (.int .i64 (layH h).old)∧w'.cell? ⟨w1.heap.size,6,none⟩=some (.int .i64 (layH h).far)∧w'.cell? ⟨w9.heap.size,0,none⟩=some (.int .i64 (sz:Nat))∧FwSt w w' (w.heap.size+1) w1.heap.size w4.heap.size w5.heap.size (w4.heap.size+1) (((j:Nat):Int)+1) (at_:Nat) h x∧w9.heap.size<w'.heap.size) u':=by
    rintro u u' ⟨c0,c1,c2,c3,c4,c5,c6,c7,st,hs⟩ hb;have hl:=st.lbB;have hz:=st.sz;exact⟨(hb.cell (by show w1.heap.size<u.heap.size;omega)).trans c0,(hb.cell (by show w1.heap.size<u.heap.size;omega)).trans c1,(hb.cell (by show w1.heap.size<u.heap.size;omega)).trans c2,(hb.cell (by show w1.heap.size<u.heap.size;omega)).trans c3,(hb.cell (by show w1.heap.size<u.heap.size;omega)).trans c4,(hb.cell (by show w1.heap.size<u.heap.size;omega)).trans c5,(hb.cell (by show w1.heap.size<u.heap.size;omega)).trans c6,(hb.cell hs).trans c7,st.below hb,by have:=hb.size;omega⟩
   go_region_held3 (fun w'=>w'.cell? ⟨w1.heap.size,0,none⟩=some (.int .u64 (layH h).base)∧w'.cell? ⟨w1.heap.size,1,none⟩=some (.int .i64 (layH h).cap)∧w'.cell? ⟨w1.heap.size,2,none⟩=some (.int .i64 (layH h).to)∧w'.cell? ⟨w1.heap.size,3,none⟩=some (.int .i64 (layH h).low)∧w'.cell? ⟨w1.heap.size,4,none⟩=some (.int .i64 (layH h).high)∧w'.cell? ⟨w1.heap.size,5,none⟩=some (.int .i64 (layH h).old)∧w'.cell? ⟨w1.heap.size,6,none⟩=some (.int .i64 (layH h).far)∧w'.cell? ⟨w9.heap.size,0,none⟩=some (.int .i64 (sz:Nat))∧FwSt w w' (w.heap.size+1) w1.heap.size w4.heap.size w5.heap.size (w4.heap.size+1) (((j:Nat):Int)+1) (at_:Nat) h x∧w9.heap.size<w'.heap.size) (first|exact S10|assumption)
    (first| (go_at_call 24;refine(SC HH.out.lay _).mono ?_;rintro e w11 ⟨rfl,hb11⟩;have S11:=SBel _ _ S10 hb11))
   obtain⟨-,-,-,-,-,-,-,c11,st11,hs11⟩:=S11;clear S10 ST10j SBel s10c y10 f10 n10c m10c hb11 hbs;rename_i hHeld;clear hHeld;obtain⟨y11,f11,n11c,k11c,m11c⟩:=st11.F;rw[E0.out,E1.out,E2.out,E3.out,E4.out]at n11c;have hop11:=st11.now.own.own j (by omega);rw[EP.out]at hop11;have cw11:=Yh hop11 hwd;clear hop11 hm hqm hat2;have ST11:=Z8r st11;clear st11;go_wp2;have hrmz:YZ (layH h) < (sz:Int)+1:=by have:=HSM.out;omega
   have hfw:fwd h v=(0,Hp.zero,7):=by
    first
    | (have hj2:j=2:=by omega
       subst hj2)
    | (have hj2:j=3:=by omega
       subst hj2)
    first
    |have hpH:h.old.getD at_ 0=wd:=by show(lsH h 2).getD at_ 0=wd;simp[List.getD,hwd]
    |have hpH:h.far.getD at_ 0=wd:=by show(lsH h 3).getD at_ 0=wd;simp[List.getD,hwd]
    have hpL:h.old.length=(lsH h 2).length:=rfl;have hpM:h.far.length=(lsH h 3).length:=rfl;simp[fwd,fwdC,hr,hv0,h1,hf,-List.getD_eq_getElem?_getD,hpH,hpL,hpM,hgo,hun,her,Nat.not_lt.2 HLE.out,hrmz]
   have y:=Zj ST11.out.res (.int .u64 0) (.int .i64 0) (.int .i64 0) (.bool false) (.int .i64 0) (.slice none 0 0) (.slice none 0 0) (.slice none 0 0) (.slice none 0 0) (.slice none 0 0);rw[hfw];refine Z8K (v:= .tuple #[.int .u64 0,.agg Zf,.int .i64 7]) ?_ rfl ?_
   ·simp[results,Try.results39,go_sem,y,Zf]
   ·refine⟨fun _=> .slice none 0 0,?_,?_,WN _ _⟩
    ·simp[hpA,Hp.zero,Zf]
    ·exact Zh ST11.out.bel (by omega) _ _ _ _ _ _ _ _ _ _
 iterate 2
  focus
   obtain⟨sm,hsm⟩: ∃sm:Nat,sz+1=sm:=⟨_,rfl⟩;have hwr:IntKind.i64.wrap ((sz:Int)+1)=(sm:Int):=by rw[Z1 ((sz:Int)+1) (by omega) (by omega)];omega
   have hrm2: ¬(YZ (layH h) < (sm:Int)):=by omega
   have hopc:=ST10.out.now.own.own j (by omega);rw[EP.out]at hopc;have hcap:=Z0q hopc (by omega);have hsm1:(sm:Int)≤(qm:Int):=by omega
   have hsm0:(0:Int)≤(sm:Int):=by omega
   clear hopc;have HSM:=Z8r hsm;have HRM:=Z8r hrm;have HLE:=Z8r hle;clear hsm hrm hle;have hbs:w9.heap.size< ((w9.alloc (.cells #[.int .i64 (sz:Nat),.int .i64 pt] 47))).heap.size:=by simp
   clear m7c m8c k10c k7c k8c y7 y8 f7 f8 n7c n8c c7 c8;generalize (w9.alloc (.cells #[.int .i64 (sz:Nat),.int .i64 pt] 47))=w10 at*;have ST10j:FwSt w w10 (w.heap.size+1) w1.heap.size w4.heap.size w5.heap.size (w4.heap.size+1) (((j:Nat):Int)+1) (at_:Nat) h x:=by rw[hj];exact ST10.out
   have S10:(fun w'=>w'.cell? ⟨w1.heap.size,0,none⟩=some (.int .u64 (layH h).base)∧w'.cell? ⟨w1.heap.size,1,none⟩=some (.int .i64 (layH h).cap)∧w'.cell? ⟨w1.heap.size,2,none⟩=some (.int .i64 (layH h).to)∧w'.cell? ⟨w1.heap.size,3,none⟩=some (.int .i64 (layH h).low)∧w'.cell? ⟨w1.heap.size,4,none⟩=some (.int .i64 (layH h).high)∧w'.cell? ⟨w1.heap.size,5,none⟩=some (.int .i64 (layH h).old)∧w'.cell? ⟨w1.heap.size,6,none⟩=some (.int .i64 (layH h).far)∧w'.cell? ⟨w9.heap.size,0,none⟩=some (.int .i64 (sz:Nat))∧FwSt w w' (w.heap.size+1) w1.heap.size w4.heap.size w5.heap.size (w4.heap.size+1) (((j:Nat):Int)+1) (at_:Nat) h x∧w9.heap.size<w'.heap.size) w10.drew:=⟨m10c 0,m10c 1,m10c 2,m10c 3,m10c 4,m10c 5,m10c 6,s10c 0,ST10j.drew,hbs⟩
   have SBel: ∀(u u':World),(fun w'=>w'.cell? ⟨w1.heap.size,0,none⟩=some (.int .u64 (layH h).base)∧w'.cell? ⟨w1.heap.size,1,none⟩=some (.int .i64 (layH h).cap)∧w'.cell? ⟨w1.heap.size,2,none⟩=some (.int .i64 (layH h).to)∧w'.cell? ⟨w1.heap.size,3,none⟩=some (.int .i64 (layH h).low)∧w'.cell? ⟨w1.heap.size,4,none⟩=some (.int .i64 (layH h).high)∧w'.cell? ⟨w1.heap.size,5,none⟩=some (.int .i64 (layH h).old)∧w'.cell? ⟨w1.heap.size,6,none⟩=some (.int .i64 (layH h).far)∧w'.cell? ⟨w9.heap.size,0,none⟩=some (.int .i64 (sz:Nat))∧FwSt w w' (w.heap.size+1) w1.heap.size w4.heap.size w5.heap.size (w4.heap.size+1) (((j:Nat):Int)+1) (at_:Nat) h x∧w9.heap.size<w'.heap.size) u→Below u.heap.size u u'→(fun w'=>w'.cell? ⟨w1.heap.size,0,none⟩=some (.int .u64 (layH h).base)∧w'.cell? ⟨w1.heap.size,1,none⟩=some (.int .i64 (layH h).cap)∧w'.cell? ⟨w1.heap.size,2,none⟩=some (.int .i64 (layH h).to)∧w'.cell? ⟨w1.heap.size,3,none⟩=some (.int .i64 (layH h).low)∧w'.cell? ⟨w1.heap.size,4,none⟩=some (.int .i64 (layH h).high)∧w'.cell? ⟨w1.heap.size,5,none⟩=some (.int .i64 (layH h).old)∧w'.cell? ⟨w1.heap.size,6,none⟩=some (.int .i64 (layH h).far)∧w'.cell? ⟨w9.heap.size,0,none⟩=some (.int .i64 (sz:Nat))∧FwSt w w' (w.heap.size+1) w1.heap.size w4.heap.size w5.heap.size (w4.heap.size+1) (((j:Nat):Int)+1) (at_:Nat) h x∧w9.heap.size<w'.heap.size) u':=by
    rintro u u' ⟨c0,c1,c2,c3,c4,c5,c6,c7,st,hs⟩ hb;have hl:=st.lbB;have hz:=st.sz;exact⟨(hb.cell (by show w1.heap.size<u.heap.size;omega)).trans c0,(hb.cell (by show w1.heap.size<u.heap.size;omega)).trans c1,(hb.cell (by show w1.heap.size<u.heap.size;omega)).trans c2,(hb.cell (by show w1.heap.size<u.heap.size;omega)).trans c3,(hb.cell (by show w1.heap.size<u.heap.size;omega)).trans c4,(hb.cell (by show w1.heap.size<u.heap.size;omega)).trans c5,(hb.cell (by show w1.heap.size<u.heap.size;omega)).trans c6,(hb.cell hs).trans c7,st.below hb,by have:=hb.size;omega⟩
   go_region_held3 (fun w'=>w'.cell? ⟨w1.heap.size,0,none⟩=some (.int .u64 (layH h).base)∧w'.cell? ⟨w1.heap.size,1,none⟩=some (.int .i64 (layH h).cap)∧w'.cell? ⟨w1.heap.size,2,none⟩=some (.int .i64 (layH h).to)∧w'.cell? ⟨w1.heap.size,3,none⟩=some (.int .i64 (layH h).low)∧w'.cell? ⟨w1.heap.size,4,none⟩=some (.int .i64 (layH h).high)∧w'.cell? ⟨w1.heap.size,5,none⟩=some (.int .i64 (layH h).old)∧w'.cell? ⟨w1.heap.size,6,none⟩=some (.int .i64 (layH h).far)∧w'.cell? ⟨w9.heap.size,0,none⟩=some (.int .i64 (sz:Nat))∧FwSt w w' (w.heap.size+1) w1.heap.size w4.heap.size w5.heap.size (w4.heap.size+1) (((j:Nat):Int)+1) (at_:Nat) h x∧w9.heap.size<w'.heap.size) (first|exact S10|assumption)
    (first| (go_at_call 24;refine(SC HH.out.lay _).mono ?_;rintro e w11 ⟨rfl,hb11⟩;have S11:=SBel _ _ S10 hb11))
   obtain⟨-,-,-,-,-,-,-,c11,st11,hs11⟩:=S11;clear S10 ST10j SBel s10c y10 f10 n10c m10c hb11 hbs;rename_i hHeld;clear hHeld;obtain⟨y11,f11,n11c,k11c,m11c⟩:=st11.F;rw[E0.out,E1.out,E2.out,E3.out,E4.out]at n11c;have hop11:=st11.now.own.own j (by omega);rw[EP.out]at hop11;have cw11:=Yh hop11 hwd;clear hop11 hm hqm hat2;have ST11:=Z8r st11;clear st11;have hsm:=HSM.out;have hrm:=HRM.out;have hle:=HLE.out;have hrmz: ¬YZ (layH h) < (sz:Int)+1:=by omega
   have hfw:fwd h v=(toOf h (((j:Nat):Int)+1) at_ sm,YE (Y2 h (((j:Nat):Int)+1) at_ sm) (((j:Nat):Int)+1) ((zr (lsH h j) at_ sm).set at_ (toOf h (((j:Nat):Int)+1) at_ sm)),0):=by
    first
    | (have hj2:j=2:=by omega
       subst hj2)
    | (have hj2:j=3:=by omega
       subst hj2)
    first
    |have hpH:h.old.getD at_ 0=wd:=by show(lsH h 2).getD at_ 0=wd;simp[List.getD,hwd]
    |have hpH:h.far.getD at_ 0=wd:=by show(lsH h 3).getD at_ 0=wd;simp[List.getD,hwd]
    have hpL:h.old.length=(lsH h 2).length:=rfl;have hpM:h.far.length=(lsH h 3).length:=rfl;subst hsm;simp only[fwd,hr,hv0,h1,hf,Z9f,Z9c,Zar,ne_eq,Zbc];simp[-List.getD_eq_getElem?_getD,hpH,hgo,hun,her,fwdC,hpL,hpM,Nat.not_lt.2 hle,hrmz];exact⟨rfl,rfl⟩
   have HC:=Z8r (qk w11 (w4.heap.size+1) w5.heap.size h x ST11.out.now ST11.out.sz HH.out j at_ sm (by omega) (by omega) (by omega) (by omega) g qj EP.out (by omega) qm);have HFW:=Z8r hfw;clear hsm hrm hle hfw hrmz;have HRES:=Z8r ST11.out.res
   go_wp2_with (first| (go_at_call 63;go_loud (refine HC.out.mono ?_;rintro e w12 ⟨x',rfl,hb12,hN12⟩;have res12:=(hb12.block _ ST11.out.rbB).trans HRES.out;have hbel:=ST11.out.bel.trans (hb12.mono (by have:=ST11.out.old;have:=ST11.out.rbB;omega));obtain⟨b0,r0,g0⟩:=Z3 (hN12.own.own 0 (by omega));obtain⟨b1,r1,g1⟩:=Z3 (hN12.own.own 1 (by omega));obtain⟨b2,r2,g2⟩:=Z3 (hN12.own.own 2 (by omega));obtain⟨b3,r3,g3⟩:=Z3 (hN12.own.own 3 (by omega));obtain⟨b4,r4,g4⟩:=Z3 (hN12.own.own 4 (by omega));have nb12:=hN12.blk;have e1:fwd h v=(toOf h (((j:Nat):Int)+1) at_ sm,_,0):=HFW.out;generalize hto:toOf h (((j:Nat):Int)+1) at_ sm=to at*;generalize YE (Y2 h (((j:Nat):Int)+1) at_ sm) (((j:Nat):Int)+1) ((zr (lsH h j) at_ sm).set at_ to)=h' at*;rw[g0,g1,g2,g3,g4]at nb12)))
   have y12: ∀j,w12.cell? ⟨w.heap.size+1,j,none⟩=Zf[j]? :=fun j=>Z8s _ _ _ _ _ _ res12;unfold Zf at y12;have f12: ∀j,w12.frozen? ⟨w.heap.size+1,j,none⟩=false:=fun j=>Zk res12;have n12c: ∀j,w12.cell? ⟨w5.heap.size,j,none⟩=(#[.int .u64 h'.base,.int .i64 h'.cap,.int .i64 h'.to,.bool h'.cycle,.int .i64 h'.scan,.slice b0 (lsH h' 0).length r0,.slice b1 (lsH h' 1).length r1,.slice b2 (lsH h' 2).length r2,.slice b3 (lsH h' 3).length r3,.slice b4 (lsH h' 4).length r4]:Array Value)[j]? :=fun j=>Z8s _ _ _ _ _ _ nb12;have hs12:=hbel.size;have hB12:w4.heap.size+1≤w12.heap.size:=by have:=hb12.size;have:=ST11.out.sz;omega
   have HN12:=Z8r hN12;have HBEL:=Z8r hbel;have RES12:=Z8r res12;have G0:=Z8r g0;have G1:=Z8r g1;have G2:=Z8r g2;have G3:=Z8r g3;have G4:=Z8r g4;clear nb12 hN12 hbel hb12 res12 g0 g1 g2 g3 g4 y11 f11 n11c k11c m11c;go_region
   all_goals
    go_wp2
    try simp only[Exit.inBlock,Exit.then]
    have y:=Zj RES12.out (.int .u64 h'.base) (.int .i64 h'.cap) (.int .i64 h'.to) (.bool h'.cycle) (.int .i64 h'.scan) (.slice b0 (lsH h' 0).length r0) (.slice b1 (lsH h' 1).length r1) (.slice b2 (lsH h' 2).length r2) (.slice b3 (lsH h' 3).length r3) (.slice b4 (lsH h' 4).length r4);rw[HFW.out];refine Z8K (v:= .tuple #[.int .u64 to,hpA h' x',.int .i64 0]) ?_ rfl ?_
    ·unfold hpA;rw[G0.out,G1.out,G2.out,G3.out,G4.out];simp[results,Try.results39,go_sem,y]
    ·refine⟨x',rfl,?_,?_⟩
     ·exact(Zh HBEL.out (by omega) _ _ _ _ _ _ _ _ _ _).drew
     ·refine⟨fun j hj=> ?_,HN12.out.own.apart⟩;have ho:=HN12.out.own.own j hj;refine Tf (Ze ho ?_) ?_
      ·intro c hc;have hc1:=(ho.lt c hc).1;exact XV (by omega) _ _ _ _ _ _ _ _ _ _
      ·intro c h1 h2;exact⟨by omega,h2⟩
theorem QL(w:World)(G:Nat→Prop)(hG: ∀b,G b→b<w.heap.size)(h:Hp)(hh:h.ok)(src:Nat→Value)(hs: ∀j,j<5→Rd w G (.sl ((lsH h j).map vu)) (src j))(v:Int)(hv:U64 v)
  (hr:Z8 (layH h)=true) (hv0: ¬v=0) (h1:(adr v).2=0) (h2:(ZJ (layH h) (adr v).1).2.2=0):
  Calls Try.prog 39 #[hpA h src,.int .u64 v] w (WY w (fwd h v)):=by
 obtain⟨_,f1,f2,f3,f4,_⟩:=Z1F h2;rw[Ym ⟨f1,f2⟩]at f4;obtain⟨k,hk⟩:=Z8H f3;have hf:ZJ (layH h) (adr v).1=((ZJ (layH h) (adr v).1).1,(k:Int),0):=by rw[←hk,←h2]
 rw[hk]at f4;generalize (ZJ (layH h) (adr v).1).1=part at*;have:(part=1∨part=2)∨(part=3∨part=4):=by omega
 rcases this with hp|hp
 ·exact JE w G hG h hh src hs v hv hr hv0 h1 part k hf hp
 ·obtain⟨j,hj,hpa⟩: ∃j:Nat,((j:Nat):Int)+1=part∧Z5 h part=lsH h j:=by
   rcases hp with rfl|rfl
   ·exact⟨2,rfl,rfl⟩
   ·exact⟨3,rfl,rfl⟩
  have hwu:=(Zx hh part).1;rw[hpa]at f4 hwu;have hat:k< (lsH h j).length:=by omega
  have hwd:(lsH h j)[k]? =some (lsH h j)[k]:=Z8n hat;replace hwu:=hwu _ (Z8M hat);generalize (lsH h j)[k]=wd at*;by_cases hgo:(adr wd).2=0
  ·exact Jc w G hG h hh src hs v hv hr hv0 h1 part k hf j hj hp wd hwd hat hwu hgo
  by_cases her:(unpk wd).2.2=0
  ·have hu:=Z4.1 (LA (w:=wd) her);obtain⟨n,hn⟩:=Z8H hu.1;refine Tq w G hG h hh src hs v hv hr hv0 h1 part k hf j hj hp wd hwd hat hwu hgo n (unpk wd).2.1 (unpk wd).2.2 (by rw[←hn]) (by omega) ?_;by_cases hlt:(lsH h j).length<k+(n+1)
   ·exact .inr (.inl ⟨her,hlt⟩)
   by_cases hrm:YZ (layH h) < ((n+1:Nat):Int)
   ·exact .inr (.inr (.inl ⟨her,by omega,hrm⟩))
   ·exact .inr (.inr (.inr ⟨her,by omega,hrm⟩))
  ·have h0:unpk wd=(((0:Nat):Int),(unpk wd).2.1,(unpk wd).2.2):=by
    unfold unpk at her⊢;split
    ·rename_i c;rw[if_pos c]at her;exact absurd rfl her
    ·rfl
   exact Tq w G hG h hh src hs v hv hr hv0 h1 part k hf j hj hp wd hwd hat hwu hgo 0 _ _ h0 (by omega) (.inl her)
end Vm
namespace Vm
open Go Go.Proofs Go.RowKit
set_option maxHeartbeats 4000000
set_option maxRecDepth 100000
theorem Vd(w:World)(G:Nat→Prop)(hG: ∀b,G b→b<w.heap.size)(h:Hp)(hh:h.ok)(src:Nat→Value)(hs: ∀j,j<5→Rd w G (.sl ((lsH h j).map vu)) (src j))(v:Int)(hv:U64 v):
  Calls Try.prog 39 #[hpA h src,.int .u64 v] w (WY w (fwd h v)):=by
 have HS:=Z8r hs;have HH:=Z8r hh;clear hs hh;by_cases hfo:Z8 (layH h)=true∧ ¬v=0∧(adr v).2=0∧(ZJ (layH h) (adr v).1).2.2=0
 ·exact QL w G hG h HH.out src HS.out v hv hfo.1 hfo.2.1 hfo.2.2.1 hfo.2.2.2
 unfold hpA;go_enter Try.func39,Try.ntmps39;cases hr:Z8 (layH h)
 ·go_wp2_with (first
   | (go_at_call 51;refine(ZP (h:=h) (x:=src) (G:=G) (fun c hc=>by have:=hG c hc;simp;omega) (fun j hj=>(HS.out j hj).keep (fun b hb=>by have:=hG b hb;rw[Z8t _ _ _ (by simp;omega),Z8t _ _ _ (by omega)]) (fun _ h=>h))).mono ?_;rintro e w1 ⟨rfl,hb1⟩;unfold lyA;have z1:=(hb1.block (w.heap.size+1) (by simp)).trans (X4 w _);have hs1:=hb1.size;simp at hs1;have HB1:=Z8r hb1;clear hb1)
   | (go_at_call 43;refine(Yk HH.out.lay _).mono ?_;rintro e w2 ⟨rfl,hb2⟩;rw[hr];have z2:=(hb2.block (w.heap.size+1) (by simp;omega)).trans ((Z8t w1 _ (w.heap.size+1) (by omega)).trans z1);have y2: ∀j,w2.cell? ⟨w.heap.size+1,j,none⟩=Zf[j]? :=fun j=>Z8s _ _ _ _ _ _ z2;have f2: ∀j,w2.frozen? ⟨w.heap.size+1,j,none⟩=false:=fun j=>Zk z2;unfold Zf at y2;have HB2:=Z8r hb2;clear hb2))
  have y:=Zj z2 (.int .u64 0) (.int .i64 0) (.int .i64 0) (.bool false) (.int .i64 0) (.slice none 0 0) (.slice none 0 0) (.slice none 0 0) (.slice none 0 0) (.slice none 0 0);refine Z8K (v:= .tuple #[.int .u64 0,.agg Zf,.int .i64 1]) (by simp[results,Try.results39,go_sem,y,Zf]) rfl ⟨fun _=> .slice none 0 0,?_,Zh ?_ (by omega) _ _ _ _ _ _ _ _ _ _,?_⟩
  ·simp[fwd,hr,hpA,Hp.zero,Zf]
  ·exact((((((Z8E _ _).alloc (Z8v _) _).alloc (by simp) _).trans (HB1.out.mono (by simp;omega))).alloc (by omega) _).trans (HB2.out.mono (by simp;omega)))
  ·have:(fwd h v).2.1=Hp.zero:=by simp[fwd,hr]
   rw[this];exact WN _ _
 ·by_cases h0:v=0
  ·subst h0
   go_wp2_with (first
    | (go_at_call 51;refine(ZP (h:=h) (x:=src) (G:=G) (fun c hc=>by have:=hG c hc;simp;omega) (fun j hj=>(HS.out j hj).keep (fun b hb=>by have:=hG b hb;rw[Z8t _ _ _ (by simp;omega),Z8t _ _ _ (by omega)]) (fun _ h=>h))).mono ?_;rintro e w1 ⟨rfl,hb1⟩;unfold lyA;have z1:=(hb1.block (w.heap.size+1) (by simp)).trans (X4 w _);have p1:=(hb1.block w.heap.size (by simp;omega)).trans ((Z8t (w.alloc (.cells #[.int .u64 h.base,.int .i64 h.cap,.int .i64 h.to,.bool h.cycle,.int .i64 h.scan,src 0,src 1,src 2,src 3,src 4] 25)) _ w.heap.size (by simp)).trans (Z8C w _));have hs1:=hb1.size;simp at hs1;have HB1:=Z8r hb1;clear hb1)
    | (go_at_call 43;refine(Yk HH.out.lay _).mono ?_;rintro e w2 ⟨rfl,hb2⟩;rw[hr];have z2:=(hb2.block (w.heap.size+1) (by simp;omega)).trans ((Z8t w1 _ (w.heap.size+1) (by omega)).trans z1);have p2:=(hb2.block w.heap.size (by simp;omega)).trans ((Z8t w1 _ w.heap.size (by omega)).trans p1);have x2: ∀j,w2.cell? ⟨w.heap.size,j,none⟩=(#[.int .u64 h.base,.int .i64 h.cap,.int .i64 h.to,.bool h.cycle,.int .i64 h.scan,src 0,src 1,src 2,src 3,src 4]:Array Value)[j]? :=fun j=>Z8s _ _ _ _ _ _ p2;have hb02:Below w.heap.size w w2:=((((((Z8E _ _).alloc (Z8v _) _).alloc (by simp) _).trans (HB1.out.mono (by simp;omega))).alloc (by omega) _).trans (hb2.mono (by simp;omega)));have hs2:=hb2.size;simp at hs2;have HB02:=Z8r hb02;clear hb2 hb02)
    | (go_at_call 48;refine(WK _ G (fun b hb=>by have:=hG b hb;omega) h HH.out src (fun j hj=>(HS.out j hj).keep (fun b hb=>HB02.out.block b (hG b hb)) (fun _ h=>h))).mono ?_;rintro e w3 ⟨x,rfl,hb3,ho3⟩;obtain⟨a0,q0,e0⟩:=Z3 (ho3.own 0 (by omega));obtain⟨a1,q1,e1⟩:=Z3 (ho3.own 1 (by omega));obtain⟨a2,q2,e2⟩:=Z3 (ho3.own 2 (by omega));obtain⟨a3,q3,e3⟩:=Z3 (ho3.own 3 (by omega));obtain⟨a4,q4,e4⟩:=Z3 (ho3.own 4 (by omega));unfold hpA;rw[e0,e1,e2,e3,e4];have z3:=(hb3.block (w.heap.size+1) (by omega)).trans z2;have y3: ∀j,w3.cell? ⟨w.heap.size+1,j,none⟩=Zf[j]? :=fun j=>Z8s _ _ _ _ _ _ z3;have f3: ∀j,w3.frozen? ⟨w.heap.size+1,j,none⟩=false:=fun j=>Zk z3;unfold Zf at y3;have HB3:=Z8r hb3;have HO3:=Z8r ho3;clear hb3 ho3))
   have y:=Zj z3 (.int .u64 h.base) (.int .i64 h.cap) (.int .i64 h.to) (.bool h.cycle) (.int .i64 h.scan) (.slice a0 (lsH h 0).length q0) (.slice a1 (lsH h 1).length q1) (.slice a2 (lsH h 2).length q2) (.slice a3 (lsH h 3).length q3) (.slice a4 (lsH h 4).length q4);have hf:fwd h 0=(0,h,0):=by simp[fwd,hr]
   refine Z8K (v:= .tuple #[.int .u64 0,hpA h x,.int .i64 0]) (by unfold hpA;rw[e0,e1,e2,e3,e4];simp[results,Try.results39,go_sem,y]) rfl ⟨x,?_,Zh (HB02.out.trans (HB3.out.mono (by omega))) (by omega) _ _ _ _ _ _ _ _ _ _,?_⟩
   ·rw[hf]
   ·rw[hf];refine⟨fun j hj=> ?_,HO3.out.apart⟩;have ho:=HO3.out.own j hj;refine Tf (B':=w2.heap.size) (Ze ho fun c hc=>Zt (by have:=(ho.lt c hc).1;omega) _ _ _ _ _ _ _ _ _ _) (fun c h1 h2=>⟨by omega,h2⟩)
  ·have hv0: ¬(v=0):=h0;by_cases h1:(adr v).2=0
   ·by_cases h2:(ZJ (layH h) (adr v).1).2.2=0
    ·exact(hfo ⟨hr,hv0,h1,h2⟩).elim
    ·go_wp2_with (first
     | (go_at_call 51;refine(ZP (h:=h) (x:=src) (G:=G) (fun c hc=>by have:=hG c hc;simp;omega) (fun j hj=>(HS.out j hj).keep (fun b hb=>by have:=hG b hb;rw[Z8t _ _ _ (by simp;omega),Z8t _ _ _ (by omega)]) (fun _ h=>h))).mono ?_;rintro e w1 ⟨rfl,hb1⟩;unfold lyA;have z1:=(hb1.block (w.heap.size+1) (by simp)).trans (X4 w _);have p1:=(hb1.block w.heap.size (by simp;omega)).trans ((Z8t (w.alloc (.cells #[.int .u64 h.base,.int .i64 h.cap,.int .i64 h.to,.bool h.cycle,.int .i64 h.scan,src 0,src 1,src 2,src 3,src 4] 25)) _ w.heap.size (by simp)).trans (Z8C w _));have hs1:=hb1.size;simp at hs1;have HB1:=Z8r hb1;clear hb1)
     | (go_at_call 43;refine(Yk HH.out.lay _).mono ?_;rintro e w2 ⟨rfl,hb2⟩;rw[hr];have z2:=(hb2.block (w.heap.size+1) (by simp;omega)).trans ((Z8t w1 _ (w.heap.size+1) (by omega)).trans z1);have p2:=(hb2.block w.heap.size (by simp;omega)).trans ((Z8t w1 _ w.heap.size (by omega)).trans p1);have x2: ∀j,w2.cell? ⟨w.heap.size,j,none⟩=(#[.int .u64 h.base,.int .i64 h.cap,.int .i64 h.to,.bool h.cycle,.int .i64 h.scan,src 0,src 1,src 2,src 3,src 4]:Array Value)[j]? :=fun j=>Z8s _ _ _ _ _ _ p2;have hb02:Below w.heap.size w w2:=((((((Z8E _ _).alloc (Z8v _) _).alloc (by simp) _).trans (HB1.out.mono (by simp;omega))).alloc (by omega) _).trans (hb2.mono (by simp;omega)));have hs2:=hb2.size;simp at hs2;have m2:=(hb2.block w1.heap.size (by simp)).trans (Z8C w1 _);have HB02:=Z8r hb02;clear hb2 hb02)
     | (go_at_call 59;refine(ZQ hv _).mono ?_;rintro e w3 ⟨rfl,hb3⟩;have z3:=(hb3.block (w.heap.size+1) (by omega)).trans z2;have y3: ∀j,w3.cell? ⟨w.heap.size+1,j,none⟩=Zf[j]? :=fun j=>Z8s _ _ _ _ _ _ z3;have f3: ∀j,w3.frozen? ⟨w.heap.size+1,j,none⟩=false:=fun j=>Zk z3;unfold Zf at y3;have m3:=(hb3.block w1.heap.size (by omega)).trans m2;have l3: ∀j,w3.cell? ⟨w1.heap.size,j,none⟩=(#[.int .u64 (layH h).base,.int .i64 (layH h).cap,.int .i64 (layH h).to,.int .i64 (layH h).low,.int .i64 (layH h).high,.int .i64 (layH h).old,.int .i64 (layH h).far]:Array Value)[j]? :=fun j=>Z8s _ _ _ _ _ _ m3;have hs3:=hb3.size;have HB3:=Z8r hb3;clear hb3)
     | (go_at_call 60;refine(XA HH.out.lay (yA hv) _).mono ?_;rintro e w4 ⟨rfl,hb4⟩;have hs4:=hb4.size;have z4: ∀o,(w4.alloc o).heap[w.heap.size+1]? =some (.cells Zf 25 (0,0)):=fun o=>(Z8t w4 o (w.heap.size+1) (by omega)).trans ((hb4.block (w.heap.size+1) (by omega)).trans z3);have y4: ∀o j,(w4.alloc o).cell? ⟨w.heap.size+1,j,none⟩=Zf[j]? :=fun o j=>Z8s _ _ _ _ _ _ (z4 o);have f4: ∀o j,(w4.alloc o).frozen? ⟨w.heap.size+1,j,none⟩=false:=fun o j=>Zk (z4 o);unfold Zf at y4;have HB4:=Z8r hb4;clear hb4))
     have y:=Zj (z4 (.cells #[.int .i64 (ZJ (layH h) (adr v).1).1,.int .i64 (ZJ (layH h) (adr v).1).2.1] 91)) (.int .u64 0) (.int .i64 0) (.int .i64 0) (.bool false) (.int .i64 0) (.slice none 0 0) (.slice none 0 0) (.slice none 0 0) (.slice none 0 0) (.slice none 0 0);have hf:fwd h v=(0,Hp.zero,6):=by simp[fwd,hr,h0,h1,h2]
     refine Z8K (v:= .tuple #[.int .u64 0,.agg Zf,.int .i64 6]) (by simp[results,Try.results39,go_sem,y,Zf]) rfl ⟨fun _=> .slice none 0 0,?_,Zh (((HB02.out.trans (HB3.out.mono (by omega))).trans (HB4.out.mono (by omega))).alloc (by omega) _) (by omega) _ _ _ _ _ _ _ _ _ _,?_⟩
     ·rw[hf];simp[hpA,Hp.zero,Zf]
     ·rw[hf];exact WN _ _
   ·go_wp2_with (first
    | (go_at_call 51;refine(ZP (h:=h) (x:=src) (G:=G) (fun c hc=>by have:=hG c hc;simp;omega) (fun j hj=>(HS.out j hj).keep (fun b hb=>by have:=hG b hb;rw[Z8t _ _ _ (by simp;omega),Z8t _ _ _ (by omega)]) (fun _ h=>h))).mono ?_;rintro e w1 ⟨rfl,hb1⟩;unfold lyA;have z1:=(hb1.block (w.heap.size+1) (by simp)).trans (X4 w _);have p1:=(hb1.block w.heap.size (by simp;omega)).trans ((Z8t (w.alloc (.cells #[.int .u64 h.base,.int .i64 h.cap,.int .i64 h.to,.bool h.cycle,.int .i64 h.scan,src 0,src 1,src 2,src 3,src 4] 25)) _ w.heap.size (by simp)).trans (Z8C w _));have hs1:=hb1.size;simp at hs1;have HB1:=Z8r hb1;clear hb1)
    | (go_at_call 43;refine(Yk HH.out.lay _).mono ?_;rintro e w2 ⟨rfl,hb2⟩;rw[hr];have z2:=(hb2.block (w.heap.size+1) (by simp;omega)).trans ((Z8t w1 _ (w.heap.size+1) (by omega)).trans z1);have p2:=(hb2.block w.heap.size (by simp;omega)).trans ((Z8t w1 _ w.heap.size (by omega)).trans p1);have x2: ∀j,w2.cell? ⟨w.heap.size,j,none⟩=(#[.int .u64 h.base,.int .i64 h.cap,.int .i64 h.to,.bool h.cycle,.int .i64 h.scan,src 0,src 1,src 2,src 3,src 4]:Array Value)[j]? :=fun j=>Z8s _ _ _ _ _ _ p2;have hb02:Below w.heap.size w w2:=((((((Z8E _ _).alloc (Z8v _) _).alloc (by simp) _).trans (HB1.out.mono (by simp;omega))).alloc (by omega) _).trans (hb2.mono (by simp;omega)));have hs2:=hb2.size;simp at hs2;have HB02:=Z8r hb02;clear hb2 hb02)
      | (go_at_call 59;refine(ZQ hv _).mono ?_;rintro e w3 ⟨rfl,hb3⟩;have z3:=(hb3.block (w.heap.size+1) (by omega)).trans z2;have y3: ∀j,w3.cell? ⟨w.heap.size+1,j,none⟩=Zf[j]? :=fun j=>Z8s _ _ _ _ _ _ z3;have f3: ∀j,w3.frozen? ⟨w.heap.size+1,j,none⟩=false:=fun j=>Zk z3;unfold Zf at y3;have HB3:=Z8r hb3;clear hb3))
    have y:=Zj z3 (.int .u64 0) (.int .i64 0) (.int .i64 0) (.bool false) (.int .i64 0) (.slice none 0 0) (.slice none 0 0) (.slice none 0 0) (.slice none 0 0) (.slice none 0 0);have hf:fwd h v=(0,Hp.zero,3):=by simp[fwd,hr,h0,h1]
    refine Z8K (v:= .tuple #[.int .u64 0,.agg Zf,.int .i64 3]) (by simp[results,Try.results39,go_sem,y,Zf]) rfl ⟨fun _=> .slice none 0 0,?_,Zh (HB02.out.trans (HB3.out.mono (by omega))) (by omega) _ _ _ _ _ _ _ _ _ _,?_⟩
    ·rw[hf];simp[hpA,Hp.zero,Zf]
    ·rw[hf];exact WN _ _
end Vm
namespace Vm
open Go Go.Proofs Go.RowKit
set_option maxHeartbeats 1000000
set_option maxRecDepth 100000
theorem Ye{w:World}{G:Nat→Prop}{k:IntKind}{n:Int}{v:Value}(r:Rd w G (.int k n) v):v= .int k n:=by cases r;rfl
theorem VW{w:World}{G:Nat→Prop}{b:Bool}{v:Value}(r:Rd w G (.bool b) v):v= .bool b:=by cases r;rfl
theorem Jt{w:World}{G:Nat→Prop}{h:Hp}{v:Value}(r:Rd w G (hpV h) v): ∃src,v=hpA h src∧ ∀j,j<5→Rd w G (.sl ((lsH h j).map vu)) (src j):=by
 cases r with
 |agg _ vs hl _ hr=>
  refine⟨fun j=>vs.getD (5+j) undef,?_,?_⟩
  ·have e0:=Ye (hr 0 _ rfl);have e1:=Ye (hr 1 _ rfl);have e2:=Ye (hr 2 _ rfl);have e3:=VW (hr 3 _ rfl);have e4:=Ye (hr 4 _ rfl);have hl':vs.size=10:=hl;unfold hpA;rw[←e0,←e1,←e2,←e3,←e4];congr 1;apply Zbh
   ·simp[hl']
   ·intro i h1 h2;have hi:i<10:=by omega
    match i,hi with
    |0,_|1,_|2,_|3,_|4,_|5,_|6,_|7,_|8,_|9,_=>simp[Array.getD,hl']
  ·intro j hj
   match j,hj with
   |0,_=>exact hr 5 _ rfl
   |1,_=>exact hr 6 _ rfl
   |2,_=>exact hr 7 _ rfl
   |3,_=>exact hr 8 _ rfl
   |4,_=>exact hr 9 _ rfl
theorem Qr{w:World}{G:Nat→Prop}{h:Hp}{x:Nat→Value}(hr: ∀j,j<5→Rd w G (.sl ((lsH h j).map vu)) (x j)):Rd w G (hpV h) (hpA h x):=by
 refine .agg _ _ rfl (by simp[V.one]) ?_;intro i y hy
 match i,hy with
 |0,hy=>cases hy;exact .int _ _
 |1,hy=>cases hy;exact .int _ _
 |2,hy=>cases hy;exact .int _ _
 |3,hy=>cases hy;exact .bool _
 |4,hy=>cases hy;exact .int _ _
 |5,hy=>cases hy;exact hr 0 (by omega)
 |6,hy=>cases hy;exact hr 1 (by omega)
 |7,hy=>cases hy;exact hr 2 (by omega)
 |8,hy=>cases hy;exact hr 3 (by omega)
 |9,hy=>cases hy;exact hr 4 (by omega)
end Vm
end
section
namespace Vm
open Go Go.Proofs Go.RowKit
set_option maxHeartbeats 1000000
set_option maxRecDepth 100000
theorem Rd.slfT{w:World}{G:Nat→Prop}{l:List V}{v:Value}(h:Rd w G (.sl l) v): ∃a c,v= .slice a l.length c:=by
 cases h with
 |nil a cap _=>exact⟨a,cap,rfl⟩
 |sl l b o cap k vs=>exact⟨_,cap,rfl⟩
theorem append_empty{P:Program}{w:World}{t ty e:TypeId}(ht:P.underlying t=some (.slice e))(hel:elOk P e=true)(ad a:Addr)(n c:Nat)(news:List Value)(hl:news.length=n*P.cellsOf e)(hnews: ∀j v,news[j]? =some v→w.cell? (a.add j)=some v)(h0:0<n)(hlim:n≤lim):
  (Builtin.append_ #[t,t] ty #[.slice (some ad) 0 0,.slice (some a) n c]).run P w=(Builtin.append_ #[t,t] ty #[.slice none 0 0,.slice (some a) n c]).run P w:=by
 obtain⟨i,z,hi,hz,hzs,h1,hby,hcs⟩:=Xz hel;simp only[lim]at hlim
 have hbytes:n*i.bytes≤140737488355328:=by
  have:n*i.bytes≤4294967296*32768:=ZbG hlim hby;omega
 rw[run_append_nil (P:=P) w t ty e i z ht hi hz a n c news (by rw[hl,hcs]) hnews h0 (by omega) (by omega)];have hr:=run_append_grow (P:=P) w t ty e i z ht hi hz ad 0 0 [] (by simp) (fun j v hv=>by simp at hv) a n c news (by rw[hl,hcs]) hnews (by omega) (by omega) (Zcc (by omega) (by simpa using hbytes));simpa using hr
theorem Jn{w:World}(ad:Option Addr){ty:TypeId}{G:Nat→Prop}{l:List Int}{y:Value}(hl:l.length≤1000000)(hy:Rd w G (.sl (l.map vu)) y):
  ∃v' w',(Builtin.append_ #[23,23] ty #[.slice ad 0 0,y]).run Try.prog w= .ok v' w'∧Below w.heap.size w w'∧Rd w' (fun c=>w.heap.size≤c∧c<w'.heap.size) (.sl (l.map vu)) v':=by
 have hT:=Try.underlying23;have nilOk: ∀(w:World),Rd w (fun c=>w.heap.size≤c∧c<w.heap.size) (.sl ([]:List V)) (.slice ad 0 0):=fun w=> .nil _ _ (by unfold maxLen;omega);by_cases h0:l= []
 ·subst h0;obtain⟨i,z,hi,hz,hzs,h1,hby,hcs⟩:=Xz (P:=Try.prog) elU
  have hv: ∃a c,y= .slice a 0 c:=by
   obtain⟨a,c,e⟩:=Rd.slfT hy;exact⟨a,c,by simpa using e⟩
  obtain⟨a,c,rfl⟩:=hv;refine⟨.slice ad 0 0,w,?_,Z8E _ _,nilOk w⟩;cases a<;>cases ad<;>simp[Builtin.append_,Z8X hT,Go.sizeOf,typeInfo,hi,Builtin.lenOf,Builtin.firstCells,loadCells,loadCellsFrom,storeCells]
 ·have hpos:0<l.length:=List.length_pos_iff.2 h0
  have key:(Builtin.append_ #[23,23] ty #[.slice ad 0 0,y]).run Try.prog w=(Builtin.append_ #[23,23] ty #[.slice none 0 0,y]).run Try.prog w:=by
   cases ad with
   |none=>rfl
   |some ad=>
    have hy':=hy;generalize hL:l.map vu=L at hy';cases hy' with
    |nil=>simp at hL;exact absurd hL h0
    |sl _ b o cap kk vs h1 h2 h3 h4 h5 h6=>
     have hlen:L.length=l.length:=by rw[←hL,Z8P]
     have hkk:kk=1:=by
      obtain⟨x,hx⟩:=ZbH l h0;have:=(h4 (vu x) (by rw[←hL];exact ZaB hx)).1;simpa using this.symm
     subst hkk;refine append_empty hT elU ad ⟨b,o,none⟩ _ cap ((List.range L.length).map vs) (by rw[ceU];simp) (fun j u hj=> ?_) (by omega) (by simp only[lim];omega);have hlt:j<L.length:=by simpa using(Z8o.1 hj).1
     have hvs:vs j=u:=by simpa[hlt]using hj
     rw[Za0,←hvs];exact h5 j (by omega)
  obtain⟨v',w',news,hr,h1,h2,h3,_,h5⟩:=Xv (ty:=ty) (B:=w.heap.size) (n:=0) (xs:= []) hT elU (Z9G w _ _ _) (Z8v _) hy (by rw[ceU];exact WQ _) (by simp only[lim,Z8P];omega);rw[ceU]at h1;have hl6:news.length=l.length:=by have:=h1.1;simpa using this
  have h6:=Ub h5 hl6;rw[h6]at h1;simp only[Z8P,Z97,Z9d]at h1;refine⟨v',w',key.trans hr,?_,Vc h1 fun c h1 h2=>⟨h1,h2⟩⟩;have hn:(Value.slice none 0 0).ownBlock=none:=rfl;rw[hn]at h2;exact Below.grown (Z8E _ _) h2 (Z8v _) (fun r hr=>by cases hr)
theorem Z1Y{w:World}{o:Oper}{a:Act}{K:Act→World→Prop}{Q:Exit→Act→World→Prop}(s x:Operand)
  (ho:o.op= .call {callee:= .builtin .append,args:= #[s,x],argTypes:= #[23,23]}) {ad:Option Addr} {y:Value} (hs:a.eval s= .slice ad 0 0) (hx:a.eval x=y)
  {G:Nat→Prop} {l:List Int} (hl:l.length≤1000000) (hy:Rd w G (.sl (l.map vu)) y)
  (h: ∀v' w',Below w.heap.size w w'→Rd w' (fun c=>w.heap.size≤c∧c<w'.heap.size) (.sl (l.map vu)) v'→K (a.put o.dst v') w'):o.wp Try.prog a w K Q:=by
 obtain⟨v',w',hr,h1,h2⟩:=Jn ad (ty:=o.type) hl hy;unfold Oper.wp execOp;simp only[ho,resolve,invoke,builtin,Zag,ZbA,Zai,ZbS,Z8Q,Z9I,hs,hx,hr];exact h v' w' h1 h2
theorem Tp{w:World}{ops:Array Oper}{rest:List Oper}{o:Oper}{a:Act}{Q:Exit→Act→World→Prop}(hgd:o.guard=none)(s x:Operand)
  (ho:o.op= .call {callee:= .builtin .append,args:= #[s,x],argTypes:= #[23,23]}) {ad:Option Addr} {y:Value} (hs:a.eval s= .slice ad 0 0) (hx:a.eval x=y)
  {G:Nat→Prop} {l:List Int} (hl:l.length≤1000000) (hy:Rd w G (.sl (l.map vu)) y)
  (h: ∀v' w',Below w.heap.size w w'→Rd w' (fun c=>w.heap.size≤c∧c<w'.heap.size) (.sl (l.map vu)) v'→wpList Try.prog ops Q rest (a.put o.dst v') w'):wpList Try.prog ops Q (o::rest) a w:=
 wpList_plain hgd fun _ hK=>Z1Y s x ho hs hx hl hy fun v' w' h1 h2=>hK _ _ (h v' w' h1 h2)
theorem U2(w:World){G:Nat→Prop}{l:List Int}{y:Value}(hl:l.length≤1000000)(hy:Rd w G (.sl (l.map vu)) y):
  Calls Try.prog 38 #[y] w fun e w'=> ∃v,e= .returned v∧Below w.heap.size w w'∧Rd w' (fun c=>w.heap.size≤c∧c<w'.heap.size) (.sl (l.map vu)) v:=by
 obtain⟨a,c,rfl⟩:=Rd.slfT hy;go_enter Try.func38,Try.ntmps38
 go_wp2_with (at_builtin;refine Tp rfl _ _ rfl rfl rfl hl hy ?_;intro v' w' hb hr)
 exact Z8K (v:=v') (by simp[results,Try.results38,go_sem]) rfl ⟨v',rfl,hb,hr⟩
end Vm
end
section
namespace Vm
open Go Go.Proofs Go.RowKit
set_option maxHeartbeats 1000000
set_option maxRecDepth 100000
theorem Z01(w:World)(n c:Nat):Sem.run Try.prog (binOp .eql 23 (.slice none n c) (.slice none 0 0)) w= .ok (.bool true) w:=by rfl
theorem qb(w:World)(a:Addr)(n c:Nat):Sem.run Try.prog (binOp .eql 23 (.slice (some a) n c) (.slice none 0 0)) w= .ok (.bool false) w:=by rfl
theorem LO(w:World){G:Nat→Prop}(hG: ∀b,G b→b<w.heap.size){l:List Int}{y:Value}(hl:l.length≤1000000)(hy:Rd w G (.sl (l.map vu)) y):
  Calls Try.prog 103 #[y] w fun e w'=> ∃v,e= .returned v∧Below w.heap.size w w'∧Rd w' (fun c=>w.heap.size≤c∧c<w'.heap.size) (.sl (l.map vu)) v:=by
 obtain⟨a,c,rfl⟩:=Rd.slfT hy;cases a with
 |none=>
  have h0:l= []:=by
   generalize hL:l.map vu=L at hy;cases hy with
   |nil=>simpa using hL
  subst h0;have q:=Z01 w 0 c;go_enter Try.func103,Try.ntmps103;simp only[Z9I,Z9L];go_wp2;exact Z8K (v:= .slice none 0 0) (by simp[results,Try.results103,go_sem]) rfl ⟨_,rfl,Z8E _ _,.nil _ _ (by unfold maxLen;omega)⟩
 |some ad=>
  have q:=qb w ad l.length c;go_enter Try.func103,Try.ntmps103;have hy2:Rd (w.alloc (.cells #[] 22)) G (.sl (l.map vu)) (.slice (some ad) (l.map vu).length c):=hy.keep (fun b hb=>Z8t _ _ _ (hG b hb)) fun _ q=>q;have hbb:Below w.heap.size w (w.alloc (.cells #[] 22)):=(Z8E _ _).alloc (Z8v _) _;have hzz:(w.alloc (.cells #[] 22)).heap.size=w.heap.size+1:=by simp
  have HB:=Z8r (And.intro hbb hzz);clear hbb hzz hy
  go_wp2_with (at_builtin;refine Tp rfl _ _ rfl rfl rfl hl hy2 ?_;intro v' w' hb hr;have HR:=Z8r (And.intro hb hr);clear hb hr hy2)
  refine Z8K (v:=v') (by simp[results,Try.results103,go_sem]) rfl ⟨v',rfl,HB.out.1.trans (HR.out.1.mono (by rw[HB.out.2];omega)),HR.out.2.mono fun b hb=>⟨by have:=HB.out.2;omega,hb.2⟩⟩
end Vm
end
section
namespace Vm
open Go Go.Proofs Go.RowKit
set_option maxHeartbeats 1000000
set_option maxRecDepth 100000
def QN(K:Act→World→Prop)(Q:Exit→Act→World→Prop):Exit→Act→World→Prop
 | .normal,a,w=>K a w
 | .ret,a,w=>Q .ret a w
 | .outgrown,a,w=>Q .outgrown a w
 |e,a,w=>Q e a w
section
variable {P:Program} {ops:Array Oper} {Q:Exit→Act→World→Prop}
theorem Z0S{i:Nat}{o:Oper}{K:Act→World→Prop}{a:Act}{w:World}(hi:ops[i]? =some o)(h:wpList P ops (QN K Q) [o] a w):wpOp P ops Q i K a w:=by
 unfold wpOp;rw[hi];simp only;unfold wpList at h;split at h
 ·rename_i hw;rw[if_pos hw];rcases h with h| ⟨h1,h2⟩
  ·left;unfold Oper.wp at*;generalize (execOp a.eval o).run P w=r at*;cases r with
   |ok n w'=>
    cases n<;>simp only[Oper.upon]at h⊢ <;>
     first
      |exact h
      |exact Zap h (fun e w'' he=>by cases e<;>exact he)
      |exact Rows.mono h (fun _ _ he=>he)
   |halt x w'=>cases x<;>simp only[Oper.upon]at h⊢ <;>exact h
  ·exact .inr ⟨h1,h2⟩
 ·rename_i hw;rw[if_neg hw];exact h
theorem qN{id:Nat}{a0:Act}{w0:World}(hm:P.follows .mixedOrders=true)(hord: ∀(i:Nat) (o:Oper),ops[i]? =some o→ ∀e∈YX o,e<i)(I:(Nat→Bool)→Act→World→Prop)
  (h0:I (fun _=>false) a0 {w0 with drawn:=w0.drawn+1})
  (hst: ∀(L:Nat→Bool) (i:Nat) (o:Oper) (a:Act) (w:World),ops[i]? =some o→L i=false→(∀j∈YX o,L j=true)→I L a w→wpList P ops (QN (I (add L i)) Q) [o] a w)
  (hQ: ∀(L:Nat→Bool) (a:Act) (w:World),(∀i,i<ops.size→L i=true)→I L a w→Q .normal a w):(Code.region id ops true).wp P Q a0 w0:=by
 have hgd: ∀(listed:Array Bool) (i:Nat),listed.size=ops.size→i<ops.size→listed.getD i true=listed.getD i false:=by
  intro listed i h1 h2;simp[Z8q,h1,h2]
 have hempty: ∀(listed:Array Bool),listed.size=ops.size→Region.ready .any ops listed= []→ ∀i,i<ops.size→listed.getD i false=true:=by
  intro listed hsz hr i
  induction i using Nat.strongRecOn with
  |_ i ih=>
   intro hi;cases hl:listed.getD i false with
   |true=>rfl
   |false=>
    have:i∈Region.ready .any ops listed:=Zc0.2 ⟨by rw[hgd listed i hsz hi];exact hl,ops[i],Z98 hi,fun e he hb=>by
     have hlt:=hord i ops[i] (Z98 hi) e.on (JP he hb);exact ih e.on hlt (by omega)⟩
    rw[hr]at this;simp at this
 refine wp_region_any hm ?_
 have main: ∀(fuel:Nat) (listed:Array Bool) (a:Act) (w:World),listed.size=ops.size→unl ops.size (fun i=>listed.getD i false)≤fuel→I (fun i=>listed.getD i false) a w→wpAny P .any ops Q fuel listed a w:=by
  intro fuel
  induction fuel with
  |zero=>
   intro listed a w hsz hu hI;have hall:=yf (Nat.le_zero.1 hu);refine⟨?_,hQ _ a w hall hI⟩;cases hr:Region.ready .any ops listed with
   |nil=>rfl
   |cons i r=>
    have:i∈Region.ready .any ops listed:=by rw[hr];simp
    obtain⟨h1,o,ho,_⟩:=Zc0.1 this;have hi:i<ops.size:=(Z8Z.1 ho).1;rw[hgd listed i hsz hi,hall i hi]at h1;cases h1
  |succ fuel ih=>
   intro listed a w hsz hu hI;refine⟨fun hr=>hQ _ a w (hempty listed hsz hr) hI,fun i hi=> ?_⟩;obtain⟨h1,o,ho,hall⟩:=Zc0.1 hi;have hlt:i<ops.size:=(Z8Z.1 ho).1;rw[hgd listed i hsz hlt]at h1
   have hadd:(fun j=>(listed.setIfInBounds i true).getD j false)=add (fun i=>listed.getD i false) i:=by
    funext j;simp only[add];by_cases hji:j=i
    ·subst hji;have:j<listed.size:=by omega
     simp[Z8q,this]
    ·have:(listed.setIfInBounds i true).getD j false=listed.getD j false:=getD_set_ne false (Zab hji);rw[this];simp[hji]
   have hs:=Z0S ho (hst _ i o a w ho h1 (fun j hj=>by
    obtain⟨ed,h2,h3,rfl⟩:=Kw hj;exact hall ed h2 h3) hI)
   refine wpOp_mono (fun a' w' hI'=>ih _ a' w' (by simpa using hsz) ?_ (by rw[hadd];exact hI')) hs;rw[hadd];have:=jH (n:=ops.size) (L:=fun i=>listed.getD i false) hlt h1;omega
 have hL0:(fun i=>(Array.replicate ops.size false).getD i false)=fun _=>false:=by
  funext i;simp only[Z8q,ZbL];split<;>rfl
 refine main _ _ a0 _ (by simp) ?_ (by rw[hL0];exact h0);exact Z8Y (Zc1 _ _) (by simp)
end
def putL(a:Act)(l:List (Nat×Value)):Act:= {a with tmps:=l.foldl (fun t p=>t.setIfInBounds p.1 p.2) a.tmps}
def Z2Y(ops:Array Oper):Bool:=(List.range ops.size).all fun i=>match ops[i]? with|some o=>(YX o).all fun e=>decide (e<i) |none=>true
theorem Z5G{ops:Array Oper}(h:Z2Y ops=true): ∀(i:Nat) (o:Oper),ops[i]? =some o→ ∀e∈YX o,e<i:=by
 intro i o ho e he;unfold Z2Y at h;rw[Z8A]at h;have:=h i (by simpa using(Z8Z.1 ho).1);rw[ho]at this;simp only[Z8A,Z8L]at this;exact this e he
def putF(a:Act)(ss:List Nat)(v:Nat→Value):Act:=putL a (ss.map fun s=>(s,v s))
def setV(v:Nat→Value)(s:Nat)(x:Value):Nat→Value:=fun t=>if t=s then x else v t
theorem X6(v:Nat→Value)(s:Nat)(x:Value):setV v s x s=x:=if_pos rfl
theorem We(v:Nat→Value){s t:Nat}(x:Value)(h:t≠s):setV v s x t=v t:=if_neg h
theorem Si{P:Program}{ops:Array Oper}{Q:Exit→Act→World→Prop}{id:Nat}{a0:Act}{w0:World}(ss:List Nat)(C:(Nat→Bool)→(Nat→Value)→World→Prop)
  (hm:P.follows .mixedOrders=true) (hord:Z2Y ops=true) (h0: ∃v,a0=putF a0 ss v∧C (fun _=>false) v {w0 with drawn:=w0.drawn+1})
  (hst: ∀(L:Nat→Bool) (i:Nat) (o:Oper) (v:Nat→Value) (w:World),ops[i]? =some o→L i=false→(∀j∈YX o,L j=true)→C L v w→
   wpList P ops (QN (fun a w=> ∃v,a=putF a0 ss v∧C (add L i) v w) Q) [o] (putF a0 ss v) w)
  (hQ: ∀(L:Nat→Bool) (v:Nat→Value) (w:World),(∀i,i<ops.size→L i=true)→C L v w→Q .normal (putF a0 ss v) w):(Code.region id ops true).wp P Q a0 w0:=by
 refine qN hm (Z5G hord) (fun L a w=> ∃v,a=putF a0 ss v∧C L v w) h0 ?_ ?_
 ·rintro L i o _ w ho hi hj ⟨v,rfl,hC⟩;exact hst L i o v w ho hi hj hC
 ·rintro L _ w hL ⟨v,rfl,hC⟩;exact hQ L v w hL hC
theorem TM(L:Nat→Bool)(i:Nat):add L i i=true:=by simp[add]
theorem YI{L:Nat→Bool}{i j:Nat}(h:j≠i):add L i j=L j:=by simp[add,h]
end Vm
end
section
namespace Vm
open Go Go.Proofs Go.RowKit
set_option maxHeartbeats 1000000
set_option maxRecDepth 100000
theorem Zl{v:Nat→Value}{s:Nat}{x:Value}(h:v s=x):setV v s x=v:=by
 funext t;unfold setV;by_cases e:t=s
 ·rw[if_pos e,e,h]
 ·rw[if_neg e]
def flX(h:Hp)(i:Nat):List Int:=if i=9 then h.low else if i=12 then h.high else h.roots
def flA(h:Hp)(y:Nat→Value):Array Value:= #[.int .u64 h.base,.int .i64 h.cap,.int .i64 (1-h.to),.bool false,.int .i64 0,.slice none 0 0,.slice none 0 0,y 9,y 12,y 15]
def flEx(bh:Nat)(h:Hp)(src:Nat→Value):Nat→Value
 |0=> .pointer (some ⟨bh,0,none⟩)
 |1=> .int .u64 h.base
 |2=> .pointer (some ⟨bh,1,none⟩)
 |3=> .int .i64 h.cap
 |4=> .pointer (some ⟨bh,2,none⟩)
 |5=> .int .i64 h.to
 |6=> .int .i64 (1-h.to)
 |7=> .pointer (some ⟨bh,5,none⟩)
 |8=>src 0
 |10=> .pointer (some ⟨bh,6,none⟩)
 |11=>src 1
 |13=> .pointer (some ⟨bh,9,none⟩)
 |14=>src 4
 |_=>undef
def flS(i:Nat):Prop:=i<15∧i≠9∧i≠12
def flR(i:Nat):Prop:=i=9∨i=12∨i=15
def flG(W0 W:World)(L:Nat→Bool)(v:Nat→Value)(b:Nat):Prop:=W0.heap.size≤b∧b<W.heap.size∧(L 17=true→v 4≠ .pointer (some ⟨b,0,none⟩))
structure FlC (W0:World) (bh:Nat) (h:Hp) (src:Nat→Value) (L:Nat→Bool) (v:Nat→Value) (W:World):Prop where
 b:Below W0.heap.size W0 W
 eq: ∀i,flS i→L i=true→v (16+i)=flEx bh h src i
 rd: ∀i,flR i→L i=true→Rd W (flG W0 W L v) (.sl ((flX h i).map vu)) (v (16+i))
 agg:L 16=true→ ∃y,v 32= .agg (flA h y)∧ ∀i,flR i→Rd W (flG W0 W L v) (.sl ((flX h i).map vu)) (y i)
 new:L 17=true→ ∃c,v 4= .pointer (some ⟨c,0,none⟩)∧W0.heap.size≤c∧c<W.heap.size∧(L 18=false→W.heap[c]? =some (.cells Zf 25 (0,0)))
 put:L 18=true→ ∃c y,v 4= .pointer (some ⟨c,0,none⟩)∧W0.heap.size≤c∧W.heap[c]? =some (.cells (flA h y) 25 (0,0))∧ ∀i,flR i→Rd W (flG W0 W L v) (.sl ((flX h i).map vu)) (y i)
 c18:L 18=true→L 17=true
section
variable {W0 W W':World} {bh:Nat} {h:Hp} {src:Nat→Value} {L:Nat→Bool} {v:Nat→Value}
theorem FlC.step(C:FlC W0 bh h src L v W){i s:Nat}(hi:i<17)(hs:s=16+i){x:Value}(hb:Below W.heap.size W W')(he:flS i→x=flEx bh h src i)
  (hr:flR i→Rd W' (fun b=>W.heap.size≤b∧b<W'.heap.size) (.sl ((flX h i).map vu)) x) (ha:i=16→ ∃y,x= .agg (flA h y)∧ ∀j,flR j→Rd W (flG W0 W L v) (.sl ((flX h j).map vu)) (y j)):FlC W0 bh h src (add L i) (setV v s x) W':=by
 subst hs;have h18:add L i 18=L 18:=YI (by omega);have h17:add L i 17=L 17:=YI (by omega);have v4:setV v (16+i) x 4=v 4:=We v x (by omega)
 have hG: ∀b,flG W0 W L v b→b<W.heap.size∧flG W0 W' (add L i) (setV v (16+i) x) b:=fun b hb'=>by
  obtain⟨h1,h2,h3⟩:=hb';refine⟨h2,h1,Z8z h2 hb.size,?_⟩;rw[h17,v4];exact h3
 have kp: ∀ {u:V} {z:Value},Rd W (flG W0 W L v) u z→Rd W' (flG W0 W' (add L i) (setV v (16+i) x)) u z:=fun hz=>hz.keep (fun b hb'=>hb.block b (hG b hb').1) fun b hb'=>(hG b hb').2;refine⟨C.b.trans (hb.mono C.b.size),fun j hj hL=> ?_,fun j hj hL=> ?_,fun hL=> ?_,fun hL=> ?_,fun hL=> ?_,fun hL=> ?_⟩
 ·by_cases e:j=i
  ·subst e;rw[X6];exact he hj
  ·rw[YI e]at hL;rw[We v x (by omega)];exact C.eq j hj hL
 ·by_cases e:j=i
  ·subst e;rw[X6];refine(hr hj).mono fun b hb'=> ?_;refine⟨Z8Y C.b.size hb'.1,hb'.2,fun hL17=> ?_⟩;rw[h17]at hL17;rw[v4];obtain⟨c,e1,_,e3,_⟩:=C.new hL17;rw[e1];intro e4;cases e4;omega
  ·rw[YI e]at hL;rw[We v x (by omega)];exact kp (C.rd j hj hL)
 ·by_cases e:i=16
  ·subst e;obtain⟨y,e1,e2⟩:=ha rfl;exact⟨y,by rw[←e1];exact X6 _ _ _,fun j hj=>kp (e2 j hj)⟩
  ·rw[YI (Zab e)]at hL;obtain⟨y,e1,e2⟩:=C.agg hL;exact⟨y,by rw[We v x (by omega)];exact e1,fun j hj=>kp (e2 j hj)⟩
 ·rw[h17]at hL;obtain⟨c,e1,e2,e3,e4⟩:=C.new hL;refine⟨c,by rw[v4];exact e1,e2,Z8z e3 hb.size,fun h0=> ?_⟩;rw[h18]at h0;exact(hb.block c e3).trans (e4 h0)
 ·rw[h18]at hL;obtain⟨c,y,e1,e2,e3,e4⟩:=C.put hL;exact⟨c,y,by rw[v4];exact e1,e2,(hb.block c (Za e3)).trans e3,fun j hj=>kp (e4 j hj)⟩
 ·rw[h18]at hL;rw[h17];exact C.c18 hL
theorem FlC.pure(C:FlC W0 bh h src L v W){i s:Nat}(hi:flS i)(hs:s=16+i){x:Value}(he:x=flEx bh h src i):FlC W0 bh h src (add L i) (setV v s x) W:=
 C.step (by unfold flS at hi;omega) hs (Z8E _ _) (fun _=>he) (fun h1=>by unfold flS at hi;unfold flR at h1;omega) (fun e=>by unfold flS at hi;omega)
theorem FlC.call(C:FlC W0 bh h src L v W){i s:Nat}(hi:flR i)(hs:s=16+i){x:Value}(hb:Below W.heap.size W W')(hr:Rd W' (fun b=>W.heap.size≤b∧b<W'.heap.size) (.sl ((flX h i).map vu)) x):FlC W0 bh h src (add L i) (setV v s x) W':=
 C.step (by unfold flR at hi;omega) hs hb (fun h1=>by unfold flS at h1;unfold flR at hi;omega) (fun _=>hr) (fun e=>by unfold flR at hi;omega)
theorem FlC.built(C:FlC W0 bh h src L v W)(h9:L 9=true)(h12:L 12=true)(h15:L 15=true):FlC W0 bh h src (add L 16) (setV v 32 (.agg (flA h fun i=>v (16+i)))) W:=
 C.step (by omega) rfl (Z8E _ _) (fun h1=>by unfold flS at h1;omega) (fun h1=>by unfold flR at h1;omega) fun _=>⟨_,rfl,fun j hj=>C.rd j hj (by unfold flR at hj;rcases hj with rfl|rfl|rfl<;>assumption)⟩
theorem FlC.alloc(C:FlC W0 bh h src L v W)(h17:L 17=false):FlC W0 bh h src (add L 17) (setV v 4 (.pointer (some ⟨W.heap.size,0,none⟩))) (W.alloc (.cells Zf 25)):=by
 have h18:L 18=false:=by
  cases e:L 18 with
  |false=>rfl
  |true=>have:=C.c18 e;rw[h17]at this;cases this
 have hb:Below W.heap.size W (W.alloc (.cells Zf 25)):=(Z8E _ _).alloc (Z8v _) _;have hz:(W.alloc (.cells Zf 25)).heap.size=W.heap.size+1:=by simp
 have hG: ∀b,flG W0 W L v b→b<W.heap.size∧flG W0 (W.alloc (.cells Zf 25)) (add L 17) (setV v 4 (.pointer (some ⟨W.heap.size,0,none⟩))) b:=fun b hb'=>by
  obtain⟨h1,h2,h3⟩:=hb';refine⟨h2,h1,by omega,fun _=> ?_⟩;rw[X6];intro e;cases e;omega
 have kp: ∀ {u:V} {z:Value},Rd W (flG W0 W L v) u z→Rd (W.alloc (.cells Zf 25)) (flG W0 (W.alloc (.cells Zf 25)) (add L 17) (setV v 4 (.pointer (some ⟨W.heap.size,0,none⟩)))) u z:=fun hz=>hz.keep (fun b hb'=>hb.block b (hG b hb').1) fun b hb'=>(hG b hb').2;refine⟨C.b.trans (hb.mono C.b.size),fun j hj hL=> ?_,fun j hj hL=> ?_,fun hL=> ?_,fun hL=> ?_,fun hL=> ?_,fun hL=> ?_⟩
 ·have hj':j<15:=hj.1;rw[YI (by omega)]at hL;rw[We _ _ (by omega)];exact C.eq j hj hL
 ·have hj':j<17:=by unfold flR at hj;omega
  rw[YI (by omega)]at hL;rw[We _ _ (by omega)];exact kp (C.rd j hj hL)
 ·rw[YI (by omega)]at hL;obtain⟨y,e1,e2⟩:=C.agg hL;exact⟨y,by rw[We _ _ (by omega)];exact e1,fun j hj=>kp (e2 j hj)⟩
 ·exact⟨W.heap.size,X6 _ _ _,C.b.size,by omega,fun _=>Z8C W _⟩
 ·rw[YI (by omega),h18]at hL;cases hL
 ·exact TM _ _
theorem FlC.store(C:FlC W0 bh h src L v W){c:Nat}(hc:v 4= .pointer (some ⟨c,0,none⟩)){y:Nat→Value}(hy:v 32= .agg (flA h y))(h17:L 17=true)(h16:L 16=true)(hn:L 18=false)(hz:W.heap[c]? =some (.cells Zf 25 (0,0)))
  (hW: ∀b,b≠c→W'.heap[b]? =W.heap[b]?) (hs:W'.heap.size=W.heap.size) (hp:W'.heap[c]? =some (.cells (flA h y) 25 (0,0))) (hb:Below W0.heap.size W W'):FlC W0 bh h src (add L 18) v W':=by
 have a17:add L 18 17=L 17:=YI (by omega)
 have hG: ∀b,flG W0 W L v b→b≠c∧flG W0 W' (add L 18) v b:=fun b hb'=>by
  obtain⟨h1,h2,h3⟩:=hb';refine⟨fun e=> ?_,h1,by omega,by rw[a17];exact h3⟩;subst e;exact h3 h17 hc
 have kp: ∀ {u:V} {z:Value},Rd W (flG W0 W L v) u z→Rd W' (flG W0 W' (add L 18) v) u z:=fun hz=>hz.keep (fun b hb'=>hW b (hG b hb').1) fun b hb'=>(hG b hb').2;obtain⟨c',e1,e2,e3,_⟩:=C.new h17;rw[hc]at e1;cases e1;refine⟨C.b.trans hb,fun j hj hL=> ?_,fun j hj hL=> ?_,fun hL=> ?_,fun hL=> ?_,fun hL=> ?_,fun hL=>by rw[a17];exact h17⟩
 ·have hj':j<15:=hj.1;rw[YI (by omega)]at hL;exact C.eq j hj hL
 ·have hj':j<17:=by unfold flR at hj;omega
  rw[YI (by omega)]at hL;exact kp (C.rd j hj hL)
 ·obtain⟨y,e1,e2⟩:=C.agg h16;exact⟨y,e1,fun j hj=>kp (e2 j hj)⟩
 ·refine⟨c,hc,e2,by omega,fun h0=> ?_⟩;rw[TM]at h0;cases h0
 ·obtain⟨y',f1,f2⟩:=C.agg h16;rw[hy]at f1
  have hyy: ∀i,flR i→y' i=y i:=fun i hi=>by
   have e:flA h y=flA h y':=by injection f1
   unfold flA at e;unfold flR at hi;simp at e;rcases hi with rfl|rfl|rfl
   ·exact e.1.symm
   ·exact e.2.1.symm
   ·exact e.2.2.symm
  exact⟨c,y,hc,e2,hp,fun j hj=>by rw[←hyy j hj];exact kp (f2 j hj)⟩
end
end Vm
end
section
namespace Vm
open Go
open Go.Proofs
set_option maxRecDepth 100000
def p26:Fn:=⟨6,[0,1,2,3,4,11],
pQ [pR [(1,pS 0 10),pV 2 (pI 0)],pC [pK 6 42 [.mm 1 0 10]] [pV 3 (.ext (.s 6) 0),pV 4 (.ext (.s 6) 1)],pQ [pR [pV 5 (.un .not (.s 4))]] (.cond (.s 5) (pQ [pR [pV 2 (pI 0)]] .ret) .skip),pC [pK 7 44 [.s 3]] [pV 2 (.s 7)]] .ret,[(2,.v)]⟩
theorem c26:Zc Try.prog fresh sig [.fz] [] Try.f26=some p26:=by kernel_rfl
def p33:Fn:=⟨5,[0,1,2,3,4],
pQ [pR [(1,pS 0 10),pV 2 pF],pC [pK 5 42 [.mm 1 0 10]] [pV 3 (.ext (.s 5) 0),pV 4 (.ext (.s 5) 1)],pR [pV 2 (.s 4)]] .ret,[(2,.v)]⟩
theorem c33:Zc Try.prog fresh sig [.fz] [] Try.f33=some p33:=by kernel_rfl
def p42:Fn:=⟨12,[0,1,2,3,13,4,16,15,17,6,14,24],
pQ [pR [(1,pS 0 10),pV 2 (.c (.nul 0)),pV 3 pF],.reg ⟨[pK 12 51 [.mm 1 0 10]],[([],.ag [.fld (.mm 1 0 10) 0,.fld (.mm 1 0 10) 1,.fld (.mm 1 0 10) 2,.fld (.mm 1 0 10) 3,.fld (.mm 1 0 10) 4,.fld (.mm 1 0 10) 5,.fld (.mm 1 0 10) 6,.fld (.mm 1 0 10) 7,.fld (.mm 1 0 10) 8,.fld (.mm 1 0 10) 9,.fld (.sz (.s 12) 7) 0,.fld (.sz (.s 12) 7) 1,.fld (.sz (.s 12) 7) 2,.fld (.sz (.s 12) 7) 3,.fld (.sz (.s 12) 7) 4,.fld (.sz (.s 12) 7) 5,.fld (.sz (.s 12) 7) 6,pN,pN,pN,pN,.c (.mp 0 [] []),.c (.mp 0 [] [])])],[(5,.m [.fld (.mm 1 0 10) 0,.fld (.mm 1 0 10) 1,.fld (.mm 1 0 10) 2,.fld (.mm 1 0 10) 3,.fld (.mm 1 0 10) 4,.fld (.mm 1 0 10) 5,.fld (.mm 1 0 10) 6,.fld (.mm 1 0 10) 7,.fld (.mm 1 0 10) 8,.fld (.mm 1 0 10) 9,.fld (.sz (.s 12) 7) 0,.fld (.sz (.s 12) 7) 1,.fld (.sz (.s 12) 7) 2,.fld (.sz (.s 12) 7) 3,.fld (.sz (.s 12) 7) 4,.fld (.sz (.s 12) 7) 5,.fld (.sz (.s 12) 7) 6,pN,pN,pN,pN,.c (.mp 0 [] []),.c (.mp 0 [] [])])]⟩,pQ [pC [pK 10 76 []] [pV 6 (pI 0),pV 7 (.len (.s 10))]] (.block 0 (.loop [0,1,2,3,5,6,7,10] (pQ [pR [pV 8 (.bin .lss (.s 6) (.s 7))],.cond (.s 8) .skip (.exit 0),.block 1 (pQ [pR [(9,.m [.fld (.flds (.idx (.s 10) (.s 6) 1) 0 1) 0])],pC [.callm 13 [] (.e (.m 9 0)) [.mem [.fz,.fz,.fz,.fz,.fz,.fz,.fz,.fz,.fz,.fz,.fz,.fz,.fz,.fz,.fz,.fz,.fz,.fz,.fz,.fz,.fz,.own 80,.own 81]] [.ag [.m 5 0,.m 5 1,.m 5 2,.m 5 3,.m 5 4,.m 5 5,.m 5 6,.m 5 7,.m 5 8,.m 5 9,.m 5 10,.m 5 11,.m 5 12,.m 5 13,.m 5 14,.m 5 15,.m 5 16,.m 5 17,.m 5 18,.m 5 19,.m 5 20,.m 5 21,.m 5 22]]] [(5,pM (.ext (.s 13) 1) 23),pV 11 (.un .not (.ext (.s 13) 0))]] (.cond (.s 11) (pQ [pR [pV 2 (.c (.nul 0)),pV 3 pF]] .ret) .skip))] (pR [pV 6 (.bin .add (.s 6) (pI 1))])))),pR [pV 2 (.pt none [.m 5 0,.m 5 1,.m 5 2,.m 5 3,.m 5 4,.m 5 5,.m 5 6,.m 5 7,.m 5 8,.m 5 9,.m 5 10,.m 5 11,.m 5 12,.m 5 13,.m 5 14,.m 5 15,.m 5 16,.m 5 17,.m 5 18,.m 5 19,.m 5 20,.m 5 21,.m 5 22]),pV 3 pT,(5,.no)]] .ret,[(2,.v),(3,.v)]⟩
theorem c42:Zc Try.prog fresh sig [.fz] [] Try.f42=some p42:=by kernel_rfl
def p44:Fn:=⟨11,[0,2,3,4,8,19,18,20,6,17,25],
pQ [pR [pV 1 (pI 0)],pR [pV 2 (pI 0)],pQ [pR [pV 3 (pI 3)]] (.block 0 (.loop [0,1,2,3] (pQ [pQ [pR [pV 4 (.bin .leq (.s 3) (pI 4))]] (.cond (.s 4) .skip (.exit 0)),.block 1 (pQ [pR [pV 5 (pI 0),pV 6 (.len (.fld (.ai (.flds (.star (.s 0)) 17 4) (.bin .sub (.s 3) (pI 1)) 4 1 true) 0)),pV 9 (.fld (.ai (.flds (.star (.s 0)) 17 4) (.bin .sub (.s 3) (pI 1)) 4 1 true) 0)]] (.block 2 (.loop [0,1,2,3,4,5,6,9] (pQ [pR [pV 7 (.bin .lss (.s 5) (.s 6))],.cond (.s 7) .skip (.exit 2),.block 3 (pQ [pR [(8,pM (.flds (.idx (.s 9) (.s 5) 5) 0 5) 5)],pR [pV 10 (.un .not (.m 8 3))]] (.cond (.s 10) (pR [pV 2 (.bin .add (.s 2) (.bin .add (pI 1) (.m 8 1)))]) .skip))] (pR [pV 5 (.bin .add (.s 5) (pI 1))])))))] (pR [pV 3 (.bin .add (.s 3) (pI 1))])))),pR [pV 1 (.s 2)]] .ret,[(1,.v)]⟩
theorem c44:Zc Try.prog fresh sig [.fz] [] Try.f44=some p44:=by kernel_rfl
def p76:Fn:=⟨1,[0],
pQ [pR [pV 0 pN],pR [pV 0 (.lit [.ag [.c (.fn 95)],.ag [.c (.fn 96)],.ag [.c (.fn 97)],.ag [.c (.fn 98)],.ag [.c (.fn 99)],.ag [.c (.fn 100)],.ag [.c (.fn 101)],.ag [.c (.fn 102)]])]] .ret,[(0,.v)]⟩
theorem c76:Zc Try.prog fresh sig [] [] Try.f76=some p76:=by kernel_rfl
def p95:Fn:=⟨2,[0,2],
pQ [pR [pV 1 pF],.reg ⟨[pK 2 43 [.flds (.star (.s 0)) 10 7],.lt 3 [] (.s 2),.lt 4 [] (.ite (.s 3) (.bin .leq (.len (.fld (.star (.s 0)) 9)) (pI 16)) pF),.lt 5 [] (.ite (.s 4) (.bin .geq (.fld (.star (.s 0)) 4) (pI 0)) pF)],[([(3,true)],.bin .leq (.len (.fld (.star (.s 0)) 9)) (pI 16)),([(4,true)],.bin .geq (.fld (.star (.s 0)) 4) (pI 0)),([(5,true)],.bin .leq (.fld (.star (.s 0)) 4) (.len (.fld (.star (.s 0)) 5)))],[pV 1 (.ite (.s 5) (.bin .leq (.fld (.star (.s 0)) 4) (.len (.fld (.star (.s 0)) 5))) pF)]⟩] .ret,[(1,.v)]⟩
theorem c95:Zc Try.prog fresh sig [.fz] [] Try.f95=some p95:=by kernel_rfl
def p96:Fn:=⟨3,[0,2,7],
pQ [pR [pV 1 pF],pQ [pR [pV 2 (.fld (.star (.s 0)) 3)]] (.cond (.s 2) (pQ [pR [pV 1 (.bin .lss (.fld (.star (.s 0)) 4) (.len (.fld (.star (.s 0)) 5)))]] .ret) .skip),.reg ⟨[.lt 3 [] (.bin .eql (.len (.fld (.star (.s 0)) 7)) (pI 0)),.lt 4 [] (.ite (.s 3) (.bin .eql (.len (.fld (.star (.s 0)) 8)) (pI 0)) pF)],[([(3,true)],.bin .eql (.len (.fld (.star (.s 0)) 8)) (pI 0)),([(4,true)],.bin .eql (.fld (.star (.s 0)) 4) (.len (.fld (.star (.s 0)) 5)))],[pV 1 (.ite (.s 4) (.bin .eql (.fld (.star (.s 0)) 4) (.len (.fld (.star (.s 0)) 5))) pF)]⟩] .ret,[(1,.v)]⟩
theorem c96:Zc Try.prog fresh sig [.fz] [] Try.f96=some p96:=by kernel_rfl
def p97:Fn:=⟨11,[0,2,3,8,9,4,5,6,7,18,39],
pQ [pR [pV 1 pF],pR [pV 2 pT],.skip,pQ [pR [pV 3 (pI 0)]] (.block 0 (.loop [0,1,2,3] (pQ [pR [pV 4 (.bin .lss (.s 3) (pI 4))],.cond (.s 4) .skip (.exit 0),.block 1 (pQ [pR [pV 5 (.s 3)],pR [pV 6 (.bin .add (.s 5) (pI 1))],pR [pV 7 pN],pR [pV 8 (pI 0)],pQ [.reg ⟨[.lt 11 [] (.bin .eql (.s 6) (pI 1))],[([(11,false)],.bin .eql (.s 6) (pI 2))],[pV 9 (.ite (.s 11) pT (.bin .eql (.s 6) (pI 2)))]⟩] (.cond (.s 9) (pC [pK 12 109 [.pt none [.m 0 0,.m 0 1,.m 0 2,.m 0 3,.m 0 4,.m 0 5,.m 0 6,.m 0 7,.m 0 8,.m 0 9,.m 0 10,.m 0 11,.m 0 12,.m 0 13,.m 0 14,.m 0 15,.m 0 16,.m 0 17,.m 0 18,.m 0 19,.m 0 20,.m 0 21,.m 0 22],.s 6],.call 13 [] (.id 108) true false [.s 12]] [pV 7 (.ext (.s 13) 0),pV 8 (.ext (.s 13) 1)]) (pC [pK 14 109 [.pt none [.m 0 0,.m 0 1,.m 0 2,.m 0 3,.m 0 4,.m 0 5,.m 0 6,.m 0 7,.m 0 8,.m 0 9,.m 0 10,.m 0 11,.m 0 12,.m 0 13,.m 0 14,.m 0 15,.m 0 16,.m 0 17,.m 0 18,.m 0 19,.m 0 20,.m 0 21,.m 0 22],.s 6],pK 15 109 [.pt none [.m 0 0,.m 0 1,.m 0 2,.m 0 3,.m 0 4,.m 0 5,.m 0 6,.m 0 7,.m 0 8,.m 0 9,.m 0 10,.m 0 11,.m 0 12,.m 0 13,.m 0 14,.m 0 15,.m 0 16,.m 0 17,.m 0 18,.m 0 19,.m 0 20,.m 0 21,.m 0 22],.s 6],pK 16 111 [.pt none [.m 0 0,.m 0 1,.m 0 2,.m 0 3,.m 0 4,.m 0 5,.m 0 6,.m 0 7,.m 0 8,.m 0 9,.m 0 10,.m 0 11,.m 0 12,.m 0 13,.m 0 14,.m 0 15,.m 0 16,.m 0 17,.m 0 18,.m 0 19,.m 0 20,.m 0 21,.m 0 22],.s 15],.call 17 [] (.id 110) true false [.s 14,.s 16]] [pV 7 (.ext (.s 17) 0),pV 8 (.ext (.s 17) 1)])),pQ [pR [pV 10 (.bin .neq (.s 8) (pI 0))]] (.cond (.s 10) (pQ [pR [pV 2 pF]] (.exit 0)) .skip)] (pC [.callm 18 [] (.id 112) [.mem [.fz,.fz,.fz,.fz,.fz,.fz,.fz,.fz,.fz,.fz,.fz,.fz,.fz,.fz,.fz,.fz,.fz,.fz,.fz,.fz,.fz,.own 80,.own 81],.fz,.fz] [.ag [.m 0 0,.m 0 1,.m 0 2,.m 0 3,.m 0 4,.m 0 5,.m 0 6,.m 0 7,.m 0 8,.m 0 9,.m 0 10,.m 0 11,.m 0 12,.m 0 13,.m 0 14,.m 0 15,.m 0 16,.m 0 17,.m 0 18,.m 0 19,.m 0 20,.m 0 21,.m 0 22],.s 6,.s 7]] [(0,pM (.ext (.s 18) 1) 23)]))] (pR [pV 3 (.bin .add (.s 3) (pI 1))])))),pR [pV 1 (.s 2)]] .ret,[(1,.v)]⟩
theorem c97:Zc Try.prog fresh sig [(.mem [.fz,.fz,.fz,.fz,.fz,.fz,.fz,.fz,.fz,.fz,.fz,.fz,.fz,.fz,.fz,.fz,.fz,.fz,.fz,.fz,.fz,(.own 80),(.own 81)])] [(0,(.mem [.fz,.fz,.fz,.fz,.fz,.fz,.fz,.fz,.fz,.fz,.fz,.fz,.fz,.fz,.fz,.fz,.fz,.fz,.fz,.fz,.fz,(.own 80),(.own 81)]))] Try.f97=some p97:=by kernel_rfl
def p98:Fn:=⟨13,[0,2,12,3,4,15,26,25,27,6,24,32,46],
pQ [pR [pV 1 pF],pQ [pR [pV 2 (.un .not (.fld (.star (.s 0)) 3))]] (.cond (.s 2) (pQ [pR [pV 1 pT]] .ret) .skip),pR [pV 3 (.c (.mp 0 [] []))],pQ [pR [pV 4 (pI 3)]] (.block 0 (.loop [0,1,2,3,4] (pQ [pQ [pR [pV 5 (.bin .leq (.s 4) (pI 4))]] (.cond (.s 5) .skip (.exit 0)),.block 1 (pQ [pR [pV 6 (pI 0),pV 7 (.len (.fld (.ai (.flds (.star (.s 0)) 17 4) (.bin .sub (.s 4) (pI 1)) 4 1 true) 0)),pV 10 (.fld (.ai (.flds (.star (.s 0)) 17 4) (.bin .sub (.s 4) (pI 1)) 4 1 true) 0)]] (.block 2 (.loop [0,1,2,3,4,5,6,7,10] (pQ [pR [pV 8 (.bin .lss (.s 6) (.s 7))],.cond (.s 8) .skip (.exit 2),.block 3 (pQ [pR [(9,pM (.flds (.idx (.s 10) (.s 6) 5) 0 5) 5)],pQ [pR [pV 11 (.un .not (.m 9 3))]] (.cond (.s 11) (.exit 3) .skip),pQ [.reg ⟨[.lt 13 [] (.bin .neq (.lk (.i .u64) (.fld (.star (.s 0)) 21) (.m 9 4) (.int .i64 0) false) (pI 1))],[([(13,false)],.fl (.lk (.i .u64) (.s 3) (.m 9 4) (.bool false) false))],[pV 12 (.ite (.s 13) pT (.fl (.lk (.i .u64) (.s 3) (.m 9 4) (.bool false) false)))]⟩] (.cond (.s 12) (pQ [pR [pV 1 pF]] .ret) .skip)] (pR [pV 3 (.mput (.i .u64) (.s 3) (.m 9 4) pT)]))] (pR [pV 6 (.bin .add (.s 6) (pI 1))])))))] (pR [pV 4 (.bin .add (.s 4) (pI 1))])))),pR [pV 1 (.bin .eql (.mlen (.s 3)) (.len (.fld (.ai (.flds (.star (.s 0)) 17 4) (pI 0) 4 1 true) 0)))]] .ret,[(1,.v)]⟩
theorem c98:Zc Try.prog fresh sig [.fz] [] Try.f98=some p98:=by kernel_rfl
def p99:Fn:=⟨9,[0,1,2,11,10,12,4,9,18],
pQ [pR [(1,.m [.one (.s 0)]),pV 2 pF],pQ [pR [pV 3 (pI 0),pV 4 (.len (.fld (.star (.m 1 0)) 9)),pV 7 (.fld (.star (.m 1 0)) 9)]] (.block 0 (.loop [0,1,2,3,4,7] (pQ [pR [pV 5 (.bin .lss (.s 3) (.s 4))],.cond (.s 5) .skip (.exit 0),.block 1 (pQ [pR [pV 6 (.fld (.idx (.s 7) (.s 3) 1) 0)],pC [pK 9 113 [.m 1 0,.s 6,pI 1,pI 2]] [pV 8 (.un .not (.s 9))]] (.cond (.s 8) (pQ [pR [pV 2 pF]] .ret) .skip))] (pR [pV 3 (.bin .add (.s 3) (pI 1))])))),pC [.call 10 [] (.id 114) false true [.m 1 0,pI 2,.pt (some 115) [.pt none [.m 1 0]]],.lt 11 [] (.s 10),.call 12 [(11,true)] (.id 114) false true [.m 1 0,pI 1,.pt (some 116) [.pt none [.m 1 0]]]] [pV 2 (.ite (.s 11) (.s 12) pF)]] .ret,[(2,.v)]⟩
theorem c99:Zc Try.prog fresh sig [.fz] [] Try.f99=some p99:=by kernel_rfl
def p100:Fn:=⟨3,[0,1,2],
pQ [pR [(1,.m [.one (.s 0)]),pV 2 pF],pC [.call 3 [] (.id 114) false true [.m 1 0,pI 1,.pt (some 117) [.pt none [.m 1 0]]]] [pV 2 (.s 3)]] .ret,[(2,.v)]⟩
theorem c100:Zc Try.prog fresh sig [.fz] [] Try.f100=some p100:=by kernel_rfl
def p101:Fn:=⟨4,[0,1,2,3],
pQ [pR [(1,.m [.one (.s 0)]),pV 2 pF],pR [(3,.no)],pC [.call 4 [] (.id 114) false true [.m 1 0,pI 3,.pt (some 118) [.pt none [.m 1 0]]],.lt 5 [] (.s 4),.call 6 [(5,true)] (.id 114) false true [.m 1 0,pI 4,.pt (some 118) [.pt none [.m 1 0]]]] [pV 2 (.ite (.s 5) (.s 6) pF),(3,.no)]] .ret,[(2,.v)]⟩
theorem c101:Zc Try.prog fresh sig [.fz] [] Try.f101=some p101:=by kernel_rfl
def p102:Fn:=⟨2,[0,2],
pQ [pR [pV 1 pF],pC [pK 2 44 [.s 0]] [pV 1 (.bin .leq (.bin .add (.bin .add (.len (.fld (.star (.s 0)) 5)) (.len (.fld (.star (.s 0)) 6))) (.s 2)) (.fld (.star (.s 0)) 1))]] .ret,[(1,.v)]⟩
theorem c102:Zc Try.prog fresh sig [.fz] [] Try.f102=some p102:=by kernel_rfl
def p109:Fn:=⟨3,[0,1,4],
pQ [pR [pV 2 pN],pR [pV 2 (.ai (.ag [.fld (.star (.s 0)) 5,.fld (.star (.s 0)) 6,.fld (.star (.s 0)) 7,.fld (.star (.s 0)) 8]) (.bin .sub (.s 1) (pI 1)) 4 1 false)]] .ret,[(2,.v)]⟩
theorem c109:Zc Try.prog fresh sig [.fz,.fz] [] Try.f109=some p109:=by kernel_rfl
def p111:Fn:=⟨14,[0,1,4,5,6,15,7,8,9,25,10,11,36,52],
pQ [pR [pV 2 pN],pR [pV 3 pN],pQ [pR [pV 4 (pI 0)]] (.block 0 (.loop [0,1,2,3,4] (pQ [pQ [pR [pV 5 (.bin .lss (.s 4) (.len (.s 1)))]] (.cond (.s 5) .skip (.exit 0))] (.block 1 (pQ [pR [(6,.m [pI 0,pI 0])],pQ [pC [pK 14 59 [.fld (.idx (.s 1) (.s 4) 1) 0]] [pV 7 (.ext (.s 14) 0),pV 8 (.ext (.s 14) 1)],pR [pV 9 (.bin .eql (.s 8) (pI 0))]] (.cond (.s 9) (pQ [pR [(10,.m [.fld (.sz (.ext (.lk (.i .u64) (.fld (.star (.s 0)) 22) (.s 7) (.agg [.int .i64 0,.int .i64 0]) true) 0) 2) 0,.fld (.sz (.ext (.lk (.i .u64) (.fld (.star (.s 0)) 22) (.s 7) (.agg [.int .i64 0,.int .i64 0]) true) 0) 2) 1]),pV 11 (.ext (.lk (.i .u64) (.fld (.star (.s 0)) 22) (.s 7) (.agg [.int .i64 0,.int .i64 0]) true) 1)],pQ [pR [pV 12 (.un .not (.s 11))]] (.cond (.s 12) (pQ [pR [pV 2 (.s 3),(3,.no)]] .ret) .skip),pR [(6,pM (.mm 10 0 2) 2)]] (pR [pV 3 (.app (.s 3) (.lit [.mm 6 0 2]) 2)])) (pQ [pC [pK 15 62 [.fld (.idx (.s 1) (.s 4) 1) 0]] [(6,pM (.sz (.ext (.s 15) 0) 2) 2),pV 8 (.ext (.s 15) 1)],pR [pV 13 (.bin .neq (.s 8) (pI 0))]] (.cond (.s 13) (pQ [pR [pV 2 (.s 3),(3,.no)]] .ret) .skip)))] (pR [pV 4 (.bin .add (.s 4) (.bin .add (pI 1) (.m 6 0)))])))))),pR [pV 2 (.s 3),(3,.no)]] .ret,[(2,.v)]⟩
theorem c111:Zc Try.prog fresh sig [.fz,.fz] [] Try.f111=some p111:=by kernel_rfl
def p112:Fn:=⟨11,[0,1,2,19,18,20,7,17,8,9,42],
pQ [.reg ⟨[],[([],.ai (.c (.agg [(.bool true),(.bool true),(.bool true),(.bool true)])) (.bin .sub (.s 1) (pI 1)) 4 1 false)],[(0,.m [.m 0 0,.m 0 1,.m 0 2,.m 0 3,.m 0 4,.m 0 5,.m 0 6,.m 0 7,.m 0 8,.m 0 9,.m 0 10,.m 0 11,.m 0 12,.m 0 13,.m 0 14,.m 0 15,.m 0 16,.fld (.aput (.mm 0 17 4) (.bin .sub (.s 1) (pI 1)) 4 1 (.one (.s 2))) 0,.fld (.aput (.mm 0 17 4) (.bin .sub (.s 1) (pI 1)) 4 1 (.one (.s 2))) 1,.fld (.aput (.mm 0 17 4) (.bin .sub (.s 1) (pI 1)) 4 1 (.one (.s 2))) 2,.fld (.aput (.mm 0 17 4) (.bin .sub (.s 1) (pI 1)) 4 1 (.one (.s 2))) 3,.m 0 21,.m 0 22])]⟩,pR [pV 3 (pI 0),pV 4 (.len (.s 2)),pV 7 (.s 2)]] (.block 0 (.loop [0,1,2,3,4,7] (pQ [pR [pV 5 (.bin .lss (.s 3) (.s 4))],.cond (.s 5) .skip (.exit 0),.block 1 (pQ [pR [(6,pM (.flds (.idx (.s 7) (.s 3) 5) 0 5) 5)],pC [pK 11 50 [.mm 0 10 7,.ag [.one (.s 1),.m 6 0]]] [pV 8 (.ext (.s 11) 0),pV 9 (.ext (.s 11) 1)],pR [(0,.m [.m 0 0,.m 0 1,.m 0 2,.m 0 3,.m 0 4,.m 0 5,.m 0 6,.m 0 7,.m 0 8,.m 0 9,.m 0 10,.m 0 11,.m 0 12,.m 0 13,.m 0 14,.m 0 15,.m 0 16,.m 0 17,.m 0 18,.m 0 19,.m 0 20,.mput (.i .u64) (.m 0 21) (.s 8) (.s 1),.m 0 22])],pR [pV 10 (.bin .eql (.s 1) (pI 1))]] (.cond (.s 10) (pR [(0,.m [.m 0 0,.m 0 1,.m 0 2,.m 0 3,.m 0 4,.m 0 5,.m 0 6,.m 0 7,.m 0 8,.m 0 9,.m 0 10,.m 0 11,.m 0 12,.m 0 13,.m 0 14,.m 0 15,.m 0 16,.m 0 17,.m 0 18,.m 0 19,.m 0 20,.m 0 21,.mput (.i .u64) (.m 0 22) (.s 8) (.mm 6 1 2)])]) .skip))] (pR [pV 3 (.bin .add (.s 3) (pI 1))])))),[]⟩
theorem c112:Zc Try.prog fresh sig [(.mem [.fz,.fz,.fz,.fz,.fz,.fz,.fz,.fz,.fz,.fz,.fz,.fz,.fz,.fz,.fz,.fz,.fz,.fz,.fz,.fz,.fz,(.own 80),(.own 81)]),.fz,.fz] [(0,(.mem [.fz,.fz,.fz,.fz,.fz,.fz,.fz,.fz,.fz,.fz,.fz,.fz,.fz,.fz,.fz,.fz,.fz,.fz,.fz,.fz,.fz,(.own 80),(.own 81)]))] Try.f112=some p112:=by kernel_rfl
def p113:Fn:=⟨11,[0,1,2,3,8,14,9,10,21,11,12],
pQ [pR [pV 4 pF],pQ [pR [pV 5 (.bin .eql (.s 1) (pU 0))]] (.cond (.s 5) (pQ [pR [pV 4 pT]] .ret) .skip),pC [pK 11 59 [.s 1]] [pV 6 (.ext (.s 11) 0),pV 7 (.ext (.s 11) 1)],pQ [pR [pV 8 (.bin .neq (.s 7) (pI 0))]] (.cond (.s 8) (pQ [pR [pV 4 pF]] .ret) .skip),pR [pV 9 (.ext (.lk (.i .u64) (.fld (.star (.s 0)) 21) (.s 6) (.int .i64 0) true) 0),pV 10 (.ext (.lk (.i .u64) (.fld (.star (.s 0)) 21) (.s 6) (.int .i64 0) true) 1)],.reg ⟨[.lt 12 [] (.s 10),.lt 13 [] (.ite (.s 12) (.bin .geq (.s 9) (.s 2)) pF)],[([(12,true)],.bin .geq (.s 9) (.s 2)),([(13,true)],.bin .leq (.s 9) (.s 3))],[pV 4 (.ite (.s 13) (.bin .leq (.s 9) (.s 3)) pF)]⟩] .ret,[(4,.v)]⟩
theorem c113:Zc Try.prog fresh sig [.fz,.fz,.fz,.fz] [] Try.f113=some p113:=by kernel_rfl
def p114:Fn:=⟨17,[0,1,2,6,7,23,22,24,9,21,28,32,31,33,10,11,47],
pQ [pR [pV 3 pF],pC [pK 17 109 [.s 0,.s 1]] [pV 4 (.s 17)],pQ [pR [pV 5 (pI 0),pV 6 (.len (.fld (.ai (.flds (.star (.s 0)) 17 4) (.bin .sub (.s 1) (pI 1)) 4 1 true) 0)),pV 9 (.fld (.ai (.flds (.star (.s 0)) 17 4) (.bin .sub (.s 1) (pI 1)) 4 1 true) 0)]] (.block 0 (.loop [0,1,2,3,4,5,6,9] (pQ [pR [pV 7 (.bin .lss (.s 5) (.s 6))],.cond (.s 7) .skip (.exit 0),.block 1 (pQ [pR [(8,pM (.flds (.idx (.s 9) (.s 5) 5) 0 5) 5)],pQ [pR [pV 10 (.m 8 3)]] (.cond (.s 10) (.exit 1) .skip),pR [pV 11 (pI 0),pV 12 (.m 8 2)]] (.block 2 (.loop [0,1,2,3,4,5,6,7,8,9,10,11,12] (pQ [pR [pV 13 (.bin .lss (.s 11) (.s 12))],.cond (.s 13) .skip (.exit 2),.block 3 (pQ [pR [pV 14 (.s 11)],pR [pV 15 (.bin .add (.bin .add (.m 8 0) (pI 1)) (.s 14))],pC [.call 18 [] (.e (.s 2)) false false [.s 15,.fld (.idx (.s 4) (.s 15) 1) 0]] [pV 16 (.un .not (.s 18))]] (.cond (.s 16) (pQ [pR [pV 3 pF]] .ret) .skip))] (pR [pV 11 (.bin .add (.s 11) (pI 1))])))))] (pR [pV 5 (.bin .add (.s 5) (pI 1))])))),pR [pV 3 pT]] .ret,[(3,.v)]⟩
theorem c114:Zc Try.prog fresh sig [.fz,.fz,.fz] [] Try.f114=some p114:=by kernel_rfl
def p115:Fn:=⟨4,[0,1,2,5],
pQ [pR [pV 3 pF],pC [pK 4 113 [.fld (.star (.s 2)) 0,.s 1,pI 1,pI 2]] [pV 3 (.s 4)]] .ret,[(3,.v)]⟩
theorem c115:Zc Try.prog fresh sig [.fz,.fz,.fz] [] Try.f115=some p115:=by kernel_rfl
def p116:Fn:=⟨4,[0,1,2,5],
pQ [pR [pV 3 pF],pC [.lt 4 [] (.bin .geq (.s 0) (.fld (.star (.fld (.star (.s 2)) 0)) 4)),.call 5 [(4,false)] (.id 113) false false [.fld (.star (.s 2)) 0,.s 1,pI 1,pI 2]] [pV 3 (.ite (.s 4) pT (.s 5))]] .ret,[(3,.v)]⟩
theorem c116:Zc Try.prog fresh sig [.fz,.fz,.fz] [] Try.f116=some p116:=by kernel_rfl
def p117:Fn:=⟨4,[0,1,2,5],
pQ [pR [pV 3 pF],pC [.lt 4 [] (.bin .lss (.s 0) (.fld (.star (.fld (.star (.s 2)) 0)) 4)),.call 5 [(4,false)] (.id 113) false false [.fld (.star (.s 2)) 0,.s 1,pI 1,pI 4]] [pV 3 (.ite (.s 4) pT (.s 5))]] .ret,[(3,.v)]⟩
theorem c117:Zc Try.prog fresh sig [.fz,.fz,.fz] [] Try.f117=some p117:=by kernel_rfl
def p118:Fn:=⟨4,[0,1,2,5],
pQ [pR [pV 3 pF],pC [pK 4 113 [.fld (.star (.s 2)) 0,.s 1,pI 3,pI 4]] [pV 3 (.s 4)]] .ret,[(3,.v)]⟩
theorem c118:Zc Try.prog fresh sig [.fz,.fz,.fz] [] Try.f118=some p118:=by kernel_rfl
end Vm
end
section
namespace Vm
open Go Go.Proofs
set_option maxRecDepth 100000
set_option maxHeartbeats 1000000
def putA{α:Type}(l:List (Int×α))(k:Int)(v:α):List (Int×α):=match l.findIdx? (·.1==k)with
 |some i=>l.set i (k,v)
 |none=>l++ [(k,v)]
def getA{α:Type}(l:List (Int×α))(k:Int):Option α:=(l.find? (·.1==k)).map (·.2)
def mpA{α:Type}(f:α→V)(l:List (Int×α)):V:= .mp 0 (l.map fun x=>vu x.1) (l.map fun x=>f x.2)
theorem Qu{α:Type}{k:Int}: ∀ {l:List (Int×α)},KE (vu k) (l.map fun x=>vu x.1)=some (l.findIdx? (·.1==k))
 | []=>rfl
 |y::l=>by
  simp only[Z8Q,KE,Z22,Z9c,List.findIdx?_cons];by_cases h:k=y.1
  ·simp[h]
  ·have h2:(k==y.1)=false:=by simpa using h
   have h3:(y.1==k)=false:=by simpa using Zab h
   simp[h2,h3,Qu]
theorem XC{α:Type}{p:α→Bool}: ∀ {l:List α},l.find? p=(l.findIdx? p).bind fun i=>l[i]?
 | []=>rfl
 |x::l=>by
  rw[Zbt,List.findIdx?_cons];cases h:p x
  ·simp only[Z8U,Z9f];rw[XC (l:=l)];cases l.findIdx? p<;>simp
  ·simp
theorem Z1t{α:Type}{f:α→V}{l:List (Int×α)}{k:Int}{z:V}{ok:Bool}:lkV (.i .u64) (mpA f l) (vu k) z ok=match getA l k with
  |some x=>some (if ok then .tup [f x,.bool true]else f x)
  |none=>some (if ok then .tup [z,.bool false]else z):=by
 unfold lkV mpA getA;simp only[isK,Zbe,Zar,Z9f,Qu,XC];cases h:l.findIdx? (·.1==k)with
 |none=>rfl
 |some i=>
  have hlt:i<l.length:=(Z9m.1 h).1;simp[hlt]
theorem L6{α:Type}{f:α→V}{l:List (Int×α)}{k:Int}{x:α}:QI (.i .u64) (mpA f l) (vu k) (f x)=some (mpA f (putA l k x)):=by
 unfold QI mpA putA;simp only[isK,Zbe,Zar,Z9f,Qu];cases h:l.findIdx? (·.1==k)with
 |none=>simp
 |some i=>
  have hh:=Z9m.1 h;obtain⟨hlt,hk,_⟩:=hh;have hk':(l[i]).1=k:=by simpa using hk
  simp only[Z8l,V.mp.injEq,true_and];constructor
  ·rw[Zb1];apply ZaP;intro j;rw[List.getElem?_set];split
   ·rename_i e;subst e;simp[hlt,hk']
   ·rfl
  ·rw[Zb1]
@[simp] theorem Z7Q{α:Type}(f:α→V)(l:List (Int×α)):oneV (mpA f l)=some (mpA f l):=rfl
@[simp] theorem Z7k{α:Type}(f:α→V)(l:List (Int×α)):(mpA f l).cells= [mpA f l]:=rfl
@[simp] theorem Z86{α:Type}(f:α→V)(l:List (Int×α)):(mpA f l).one=true:=rfl
@[simp] theorem Z7T{α:Type}(f:α→V)(l:List (Int×α)):Jz (mpA f l)=some (vi l.length):=by simp[mpA]
theorem QM{α:Type}{l:List (Int×α)}{k j:Int}{x:α}:getA (putA l k x) j=if k=j then some x else getA l j:=by
 unfold getA putA;cases h:l.findIdx? (·.1==k)with
 |none=>
  have hn: ∀y∈l,¬y.1=k:=by
   intro y hy e;have:=ZbI.1 h y hy;simp[e]at this
  simp only[List.find?_append];by_cases e:k=j
  ·subst e
   have:l.find? (·.1==k)=none:=by
    rw[Zbx];intro y hy;simpa using hn y hy
   simp[this]
  ·have h3:(k==j)=false:=by simpa using e
   simp[e,h3]
 |some i=>
  obtain⟨hlt,hk,hmin⟩:=Z9m.1 h;have hk':(l[i]).1=k:=by simpa using hk
  simp only;by_cases e:k=j
  ·subst e;rw[if_pos rfl,XC]
   have:(l.set i (k,x)).findIdx? (·.1==k)=some i:=by
    rw[Z9m];refine⟨by simpa using hlt,by simp,?_⟩;intro q hq;rw[ZaC (by omega)];exact hmin q hq
   rw[this];simp[hlt]
  ·rw[if_neg e,XC,XC]
   have:(l.set i (k,x)).findIdx? (·.1==j)=l.findIdx? (·.1==j):=by
    apply Option.ext;intro q;rw[Z9m,Z9m];have hj:((k,x).1==j)=false:=by simpa using e
    have hj':((l[i]).1==j)=false:=by rw[hk'];simpa using e
    constructor
    ·rintro⟨h1,h2,h3⟩;have h1':q<l.length:=by simpa using h1
     by_cases eq:q=i
     ·subst eq;simp at h2;exact(e h2).elim
     ·rw[ZaC (Zab eq)]at h2;refine⟨h1',h2,fun r hr=> ?_⟩;by_cases er:r=i
      ·subst er;simp[hj']
      ·have:=h3 r hr;rw[ZaC (Zab er)]at this;exact this
    ·rintro⟨h1,h2,h3⟩;by_cases eq:q=i
     ·subst eq;rw[hj']at h2;cases h2
     ·refine⟨by simpa using h1,by rw[ZaC (Zab eq)];exact h2,fun r hr=> ?_⟩;by_cases er:r=i
      ·subst er;simp[hj]
      ·rw[ZaC (Zab er)];exact h3 r hr
   rw[this];cases hq:l.findIdx? (·.1==j)with
   |none=>rfl
   |some q=>
    obtain⟨h1,h2,_⟩:=Z9m.1 hq
    have:q≠i:=by
     intro eq;subst eq;rw[hk']at h2;exact e (by simpa using h2)
    simp[Z96 (Zab this)]
structure Ck where
 h:Hp
 o1:List Ob
 o2:List Ob
 o3:List Ob
 o4:List Ob
 pm:List (Int×Int)
 lm:List (Int×(Int×Int))
def Ck.obs(s:Ck)(k:Int):List Ob:=if k=1 then s.o1 else if k=2 then s.o2 else if k=3 then s.o3 else s.o4
def ckL(s:Ck):List V:= [vu s.h.base,vi s.h.cap,vi s.h.to,.bool s.h.cycle,vi s.h.scan,.sl (s.h.low.map vu),.sl (s.h.high.map vu),.sl (s.h.old.map vu),.sl (s.h.far.map vu),.sl (s.h.roots.map vu),
 vu s.h.base,vi s.h.cap,vi s.h.to,vi s.h.low.length,vi s.h.high.length,vi s.h.old.length,vi s.h.far.length,
 .sl (s.o1.map obV),.sl (s.o2.map obV),.sl (s.o3.map obV),.sl (s.o4.map obV),mpA vi s.pm,mpA shP s.lm]
def ckP(s:Ck):V:= .ptr (ckL s)
theorem LD:IntKind.i64.wrap 0=0:=by decide
theorem Rh:IntKind.i64.wrap 1=1:=by decide
theorem T8:IntKind.i64.wrap 2=2:=by decide
theorem Tt:IntKind.i64.wrap 3=3:=by decide
theorem zh{s:Ck}{k:Int}(hk:1≤k∧k≤4):VC Try.prog 109 false [ckP s,vi k] (.sl ((Z5 s.h k).map vu)):=by
 refine Z6 Try.func109 follows (by kernel_rfl) c109 rfl ?_;have:k=1∨k=2∨k=3∨k=4:=by omega
 rcases this with rfl|rfl|rfl|rfl<;>simp[p109,ckP,ckL,Z5,aiV,LD,Rh,T8,Tt]
def Zr(s:Ck)(w first last:Int):Bool:=decide (w=0)||(decide ((adr w).2=0)&&match getA s.pm (adr w).1 with
 |some k=>decide (first≤k)&&decide (k≤last)
 |none=>false)
theorem WR{s:Ck}{w first last:Int}(hw:U64 w):VC Try.prog 113 false [ckP s,vu w,vi first,vi last] (.bool (Zr s w first last)):=by
 refine Z6 Try.func113 follows (by kernel_rfl) c113 rfl ?_;unfold Zr;by_cases h0:w=0
 ·simp[p113,h0]
 simp[p113,h0,ckP,ckL];refine Z0 (Rr hw) (by simp) ?_;by_cases h1:(adr w).2=0
 case neg=>simp[h1]
 simp[h1,Z1t];cases hg:getA s.pm (adr w).1 with
 |none=>simp
 |some k=>
  by_cases h2:first≤k
  ·by_cases h3:k≤last<;>simp[h2,h3]
  ·simp[h2]
def YA(h:Hp)(k:Int):List (Int×Int)→List Ob→List (Int×Int)
 |m,[]=>m
 |m,o::l=>YA h k (putA m (ZC (layH h) k o.at_).1 k) l
def ZU(h:Hp)(k:Int):List (Int×(Int×Int))→List Ob→List (Int×(Int×Int))
 |m,[]=>m
 |m,o::l=>ZU h k (if k=1 then putA m (ZC (layH h) k o.at_).1 (o.size,o.ptrs)else m) l
def Ck.put(s:Ck)(k:Int)(l:List Ob):Ck:=if k=1 then {s with o1:=l}else if k=2 then {s with o2:=l}else if k=3 then {s with o3:=l}else {s with o4:=l}
def Xm(s:Ck)(k:Int)(l:List Ob):Ck:= {s.put k l with pm:=YA s.h k s.pm l,lm:=ZU s.h k s.lm l}
theorem XG{h:Hp}{k:Int}: ∀ {l:List Ob} {i:Nat} {o:Ob} {m:List (Int×Int)},l[i]? =some o→YA h k m (l.take (i+1))=putA (YA h k m (l.take i)) (ZC (layH h) k o.at_).1 k
 | [],_,_,_,h=>by simp at h
 |x::l,0,o,m,h=>by simp at h;subst h;simp[YA]
 |x::l,i+1,o,m,h=>by
  simp only[List.take_succ_cons,YA];exact XG (by simpa using h)
theorem XL{h:Hp}{k:Int}: ∀ {l:List Ob} {i:Nat} {o:Ob} {m:List (Int×(Int×Int))},l[i]? =some o→ZU h k m (l.take (i+1))=if k=1 then putA (ZU h k m (l.take i)) (ZC (layH h) k o.at_).1 (o.size,o.ptrs)else ZU h k m (l.take i)
 | [],_,_,_,h=>by simp at h
 |x::l,0,o,m,h=>by simp at h;subst h;simp[ZU]
 |x::l,i+1,o,m,h=>by
  simp only[List.take_succ_cons,ZU];exact XL (by simpa using h)
abbrev ckK:List CK:= [.fz,.fz,.fz,.fz,.fz,.fz,.fz,.fz,.fz,.fz,.fz,.fz,.fz,.fz,.fz,.fz,.fz,.fz,.fz,.fz,.fz,.own 80,.own 81]
@[simp] theorem Z78(s:Ck)(k:Int)(l:List Ob):(s.put k l).h=s.h:=by
 unfold Ck.put;split
 ·rfl
 split
 ·rfl
 split<;>rfl
theorem Qz{l:List (Int×Int)}{k x:Int}:QI (.i .u64) (mpA vi l) (vu k) (vi x)=some (mpA vi (putA l k x)):=L6
theorem TV{l:List (Int×(Int×Int))}{k a b:Int}:QI (.i .u64) (mpA shP l) (vu k) (.agg [vi a,vi b])=some (mpA shP (putA l k (a,b))):=L6 (f:=shP) (x:=(a,b))
theorem TL{s:Ck}(hh:s.h.ok){k:Int}(hk:1≤k∧k≤4){l:List Ob}(hl:l.length≤1000000):VCM Try.prog 112 [.mem ckK,.fz,.fz] [.agg (ckL s),vi k,.sl (l.map obV)] (.tup [.tup [],.agg (ckL (Xm s k l))]):=by
 refine Jq Try.func112 follows (by kernel_rfl) c112 (by kernel_rfl) ?_;have k4:k=1∨k=2∨k=3∨k=4:=by omega
 have hlim:l.length≤lim:=by unfold lim;omega
 have h0: ∀k,({s.put k l with pm:=s.pm,lm:=s.lm}:Ck)=s.put k l:=by
  intro k;unfold Ck.put;split
  ·rfl
  split
  ·rfl
  split<;>rfl
 have ka:=fun(k at_:Int)=>za hh.lay (part:=k) (at_:=at_);unfold layH lyV at ka;rcases k4 with rfl|rfl|rfl|rfl
 ·simp[p112,ckL,aiV,S8,LD,Rh,T8,Tt,setCells];refine Xg 3 l.length (fun i=> [(0,.m (ckL {s.put 1 l with pm:=YA s.h 1 s.pm (l.take i),lm:=ZU s.h 1 s.lm (l.take i)})),(3,.v (vi i))]) (fun _=>True) (by simp[ckL,Ck.put,YA,ZU]) (by simp) trivial ?_;intro i hi _;have hwi:=Z1 ((i:Int)+1) (by omega) (by omega);by_cases hlt:i<l.length
  ·have hx:l[i]? =some l[i]:=Z8n hlt;have e1:=XG (h:=s.h) (k:=1) (m:=s.pm) hx;have e2:=XL (h:=s.h) (k:=1) (m:=s.lm) hx;have ko:=ka 1 (l[i]).at_;simp[hlt,hx,hwi,ckL,idxV];refine Z0 ko (by simp) ?_;simp[Qz,TV,e1,e2,hwi,hlt]
   first|done|rfl|exact⟨rfl,rfl⟩
  ·have:i=l.length:=by omega
   subst this;simp[ckL,Xm,Z9a]
 ·simp[p112,ckL,aiV,S8,LD,Rh,T8,Tt,setCells];refine Xg 3 l.length (fun i=> [(0,.m (ckL {s.put 2 l with pm:=YA s.h 2 s.pm (l.take i),lm:=ZU s.h 2 s.lm (l.take i)})),(3,.v (vi i))]) (fun _=>True) (by simp[ckL,Ck.put,YA,ZU]) (by simp) trivial ?_;intro i hi _;have hwi:=Z1 ((i:Int)+1) (by omega) (by omega);by_cases hlt:i<l.length
  ·have hx:l[i]? =some l[i]:=Z8n hlt;have e1:=XG (h:=s.h) (k:=2) (m:=s.pm) hx;have e2:=XL (h:=s.h) (k:=2) (m:=s.lm) hx;have ko:=ka 2 (l[i]).at_;simp[hlt,hx,hwi,ckL,idxV];refine Z0 ko (by simp) ?_;simp[Qz,TV,e1,e2,hwi,hlt]
   first|done|rfl|exact⟨rfl,rfl⟩
  ·have:i=l.length:=by omega
   subst this;simp[ckL,Xm,Z9a]
 ·simp[p112,ckL,aiV,S8,LD,Rh,T8,Tt,setCells];refine Xg 3 l.length (fun i=> [(0,.m (ckL {s.put 3 l with pm:=YA s.h 3 s.pm (l.take i),lm:=ZU s.h 3 s.lm (l.take i)})),(3,.v (vi i))]) (fun _=>True) (by simp[ckL,Ck.put,YA,ZU]) (by simp) trivial ?_;intro i hi _;have hwi:=Z1 ((i:Int)+1) (by omega) (by omega);by_cases hlt:i<l.length
  ·have hx:l[i]? =some l[i]:=Z8n hlt;have e1:=XG (h:=s.h) (k:=3) (m:=s.pm) hx;have e2:=XL (h:=s.h) (k:=3) (m:=s.lm) hx;have ko:=ka 3 (l[i]).at_;simp[hlt,hx,hwi,ckL,idxV];refine Z0 ko (by simp) ?_;simp[Qz,TV,e1,e2,hwi,hlt]
   first|done|rfl|exact⟨rfl,rfl⟩
  ·have:i=l.length:=by omega
   subst this;simp[ckL,Xm,Z9a]
 ·simp[p112,ckL,aiV,S8,LD,Rh,T8,Tt,setCells];refine Xg 3 l.length (fun i=> [(0,.m (ckL {s.put 4 l with pm:=YA s.h 4 s.pm (l.take i),lm:=ZU s.h 4 s.lm (l.take i)})),(3,.v (vi i))]) (fun _=>True) (by simp[ckL,Ck.put,YA,ZU]) (by simp) trivial ?_;intro i hi _;have hwi:=Z1 ((i:Int)+1) (by omega) (by omega);by_cases hlt:i<l.length
  ·have hx:l[i]? =some l[i]:=Z8n hlt;have e1:=XG (h:=s.h) (k:=4) (m:=s.pm) hx;have e2:=XL (h:=s.h) (k:=4) (m:=s.lm) hx;have ko:=ka 4 (l[i]).at_;simp[hlt,hx,hwi,ckL,idxV];refine Z0 ko (by simp) ?_;simp[Qz,TV,e1,e2,hwi,hlt]
   first|done|rfl|exact⟨rfl,rfl⟩
  ·have:i=l.length:=by omega
   subst this;simp[ckL,Xm,Z9a]
end Vm
namespace Vm
open Go Go.Proofs
set_option maxRecDepth 100000
set_option maxHeartbeats 1000000
def boxP(s:Ck):V:= .ptr [ckP s]
theorem LB{s:Ck}{a w:Int}(hw:U64 w):VC Try.prog 115 false [vi a,vu w,boxP s] (.bool (Zr s w 1 2)):=by
 refine Z6 Try.func115 follows (by kernel_rfl) c115 rfl ?_;have k:=WR (s:=s) (first:=1) (last:=2) hw;unfold boxP ckP at*;simp[p115,oneV,V.one];refine Z0 k (by simp) ?_;simp
theorem L8{s:Ck}{a w:Int}(hw:U64 w):VC Try.prog 116 false [vi a,vu w,boxP s] (.bool (decide (s.h.scan≤a)||Zr s w 1 2)):=by
 refine Z6 Try.func116 follows (by kernel_rfl) c116 rfl ?_;have k:=WR (s:=s) (first:=1) (last:=2) hw;unfold boxP ckP at*;by_cases h:s.h.scan≤a
 ·simp[p116,oneV,V.one,ckL,h]
 ·simp[p116,oneV,V.one,ckL,h];refine Z0 k (by simp[ckL]) ?_;simp[h]
theorem Qk{s:Ck}{a w:Int}(hw:U64 w):VC Try.prog 117 false [vi a,vu w,boxP s] (.bool (decide (a<s.h.scan)||Zr s w 1 4)):=by
 refine Z6 Try.func117 follows (by kernel_rfl) c117 rfl ?_;have k:=WR (s:=s) (first:=1) (last:=4) hw;unfold boxP ckP at*;by_cases h:a<s.h.scan
 ·simp[p117,oneV,V.one,ckL,h]
 ·simp[p117,oneV,V.one,ckL,h];refine Z0 k (by simp[ckL]) ?_;simp[h]
theorem zy{s:Ck}{a w:Int}(hw:U64 w):VC Try.prog 118 false [vi a,vu w,boxP s] (.bool (Zr s w 3 4)):=by
 refine Z6 Try.func118 follows (by kernel_rfl) c118 rfl ?_;have k:=WR (s:=s) (first:=3) (last:=4) hw;unfold boxP ckP at*;simp[p118,oneV,V.one];refine Z0 k (by simp) ?_;simp
structure Ck.ok (s:Ck):Prop where
 h:s.h.ok
 ob: ∀k,∀o∈s.obs k,ObIn (Z5 s.h k).length o∧U64 o.target
 len: ∀k,(s.obs k).length≤1000000
def XX(ws:List Int)(k:Nat):Int:=(ws[k]?).getD 0
def obQ(s:Ck)(k:Int)(q:Int→Int→Bool)(o:Ob):Bool:=o.gone||(List.range o.ptrs.toNat).all fun j=>q ((o.at_.toNat+1+j:Nat):Int) (XX (Z5 s.h k) (o.at_.toNat+1+j))
def WO(s:Ck)(k:Int)(q:Int→Int→Bool):Bool:=(s.obs k).all (obQ s k q)
theorem Xa{s:Ck}(hs:s.ok){k:Int}(hk:1≤k∧k≤4){f:FuncId}{cs:List V}{q:Int→Int→Bool}(hq: ∀a w,U64 w→VC Try.prog f false ([vi a,vu w]++cs) (.bool (q a w))):
  VC Try.prog 114 false [ckP s,vi k,.clo f cs] (.bool (WO s k q)):=by
 refine Z6 Try.func114 follows (by kernel_rfl) c114 rfl ?_;simp[-List.all_eq_true,-List.all_eq_false,p114];refine Z0 (zh hk) (by simp) ?_;have hpt:fldV (.agg [.sl (s.o1.map obV),.sl (s.o2.map obV),.sl (s.o3.map obV),.sl (s.o4.map obV)]) 0=some (.sl (s.o1.map obV)):=rfl;have hlen:=hs.len k;have hob:=hs.ob k;have hw:=(Zx hs.h k).1;have hpl:=(Zx hs.h k).2
 have hai:aiV (.agg [.sl (s.o1.map obV),.sl (s.o2.map obV),.sl (s.o3.map obV),.sl (s.o4.map obV)]) (.int .i64 (IntKind.i64.wrap (k-1))) 4 1 true=some (.agg [.sl ((s.obs k).map obV)]):=by
  have:k=1∨k=2∨k=3∨k=4:=by omega
  rcases this with rfl|rfl|rfl|rfl<;>simp[aiV,Ck.obs,LD,Rh,T8,Tt]
 unfold WO;generalize hL:s.obs k=L at*;generalize hW:Z5 s.h k=ws at*;simp[-List.all_eq_true,-List.all_eq_false,ckP,ckL,hai];refine UD 5 L.length (fun i=>(L.take i).all (obQ s k q)=true) (by simp) (by simp) (by simp) ?_;intro i hi hall;have hwi:=Z1 ((i:Int)+1) (by omega) (by omega);by_cases hlt:i<L.length
 ·have hx:L[i]? =some L[i]:=Z8n hlt;obtain⟨⟨⟨a,ha,hfit⟩,hsh⟩,_⟩:=hob _ (Z8M hlt);generalize L[i]=o at*;obtain⟨s1,s2,s3,s4⟩:=Z4.1 hsh;obtain⟨m,hm⟩:=Z8H s3;have hwa:=Z1 ((a:Int)+1) (by omega) (by omega);have hnext:obQ s k q o=true→(L.take (i+1)).all (obQ s k q)=true:=fun h=>by rw[zp hx,hall,h];rfl
  have hex:obQ s k q o=false→L.all (obQ s k q)=false:=fun hno=>Z0A hx hno;cases hg:o.gone
  ·have hobp:obQ s k q o=(List.range m).all fun j=>q ((a+1+j:Nat):Int) (XX ws (a+1+j)):=by
    unfold obQ;rw[hm,ha,hW,hg];rfl
   simp[-List.all_eq_true,-List.all_eq_false,hlt,hx,ZM hx,idxV,hg,ha,hm];refine UD 11 m (fun j=>((List.range j).all fun j=>q ((a+1+j:Nat):Int) (XX ws (a+1+j)))=true) (by simp) (by simp) (by simp) ?_;intro j hj hal;have hwj:=Z1 ((j:Int)+1) (by omega) (by omega);by_cases hjm:j<m
   ·obtain⟨w,hmw,hu⟩: ∃w,ws[a+1+j]? =some w∧U64 w:=⟨_,Z8n (by omega),hw _ (Z8M _)⟩;have hww:XX ws (a+1+j)=w:=by unfold XX;rw[hmw];rfl
    have hsucc:((List.range (j+1)).all fun j=>q ((a+1+j:Nat):Int) (XX ws (a+1+j)))=(((List.range j).all fun j=>q ((a+1+j:Nat):Int) (XX ws (a+1+j)))&&q ((a+1+j:Nat):Int) w):=by
     rw[Zb6,List.all_append];simp[hww]
    have hno:q ((a+1+j:Nat):Int) w=false→L.all (obQ s k q)=false:=fun hno=>hex (by
     rw[hobp];exact Z0A (Zbp hjm) (by rw[hww];exact hno))
    obtain⟨n,hn⟩: ∃n,a+1+j=n:=⟨_,rfl⟩;have hn1:(a:Int)+1+(j:Int)=(n:Int):=by omega
    have hwn:=Z1 (n:Int) (by omega) (by omega);rw[hn]at hmw hsucc hno;have kq:=hq (n:Int) w hu;simp[-List.all_eq_true,-List.all_eq_false,hjm,hwa,hn1,hwn,hmw,ZM hmw,idxV];refine Z0 kq (by simp) ?_;cases hv:q (n:Int) w
    ·simp[-List.all_eq_true,-List.all_eq_false,hno hv]
    ·rw[hv]at hsucc;rw[hal]at hsucc;simp[-List.all_eq_true,-List.all_eq_false,hwj,hjm];simpa[-List.all_eq_true,-List.all_eq_false]using hsucc
   ·have:j=m:=by omega
    subst this;simp[-List.all_eq_true,-List.all_eq_false,hwi,hlt,hnext (by rw[hobp];exact hal)]
  ·have hobp:obQ s k q o=true:=by unfold obQ;rw[hg];rfl
   simp[-List.all_eq_true,-List.all_eq_false,hlt,hx,ZM hx,idxV,hg,ha,hm,hwi,hnext hobp]
 ·have:i=L.length:=by omega
  subst this;rw[Za1]at hall;simp[-List.all_eq_true,-List.all_eq_false,hall]
@[simp] theorem Z7I(l:List V):(V.ptr l).one=true:=rfl
@[simp] theorem Z62(l:List V):oneV (.ptr l)=some (.ptr l):=rfl
@[simp] theorem Z6O(f:FuncId)(l:List V):(V.clo f l).one=true:=rfl
@[simp] theorem Z6F(f:FuncId)(l:List V):oneV (.clo f l)=some (.clo f l):=rfl
@[simp] theorem Z6G(s:Ck):oneV (ckP s)=some (ckP s):=rfl
@[simp] theorem Z7p(s:Ck):(ckP s).one=true:=rfl
@[simp] theorem Z53(s:Ck):Sr (ckP s)=some (.agg (ckL s)):=rfl
@[simp] theorem Z6j(s:Ck):(ckL s)[4]? =some (vi s.h.scan):=rfl
@[simp] theorem Z5h(s:Ck):(ckL s)[3]? =some (.bool s.h.cycle):=rfl
@[simp] theorem Z5z(s:Ck):(ckL s)[9]? =some (.sl (s.h.roots.map vu)):=rfl
@[simp] theorem Z7e(s:Ck):(ckL s)[5]? =some (.sl (s.h.low.map vu)):=rfl
@[simp] theorem Z6h(s:Ck):(ckL s)[6]? =some (.sl (s.h.high.map vu)):=rfl
@[simp] theorem Z7B(s:Ck):(ckL s)[7]? =some (.sl (s.h.old.map vu)):=rfl
@[simp] theorem Z6T(s:Ck):(ckL s)[8]? =some (.sl (s.h.far.map vu)):=rfl
@[simp] theorem Z6Q(s:Ck):(ckL s)[1]? =some (vi s.h.cap):=rfl
def XW(s:Ck):Bool:=s.h.roots.all (fun w=>Zr s w 1 2)&&(WO s 2 (fun _ w=>Zr s w 1 2)&&WO s 1 (fun a w=>decide (s.h.scan≤a)||Zr s w 1 2))
theorem qf{s:Ck}(hs:s.ok):VC Try.prog 99 false [ckP s] (.bool (XW s)):=by
 refine Z6 Try.func99 follows (by kernel_rfl) c99 rfl ?_;have k1:=Xa hs (k:=2) (by omega) (f:=115) (cs:= [boxP s]) (q:=fun _ w=>Zr s w 1 2) (fun a w hw=>LB hw);have k2:=Xa hs (k:=1) (by omega) (f:=116) (cs:= [boxP s]) (q:=fun a w=>decide (s.h.scan≤a)||Zr s w 1 2) (fun a w hw=>L8 hw);have k0:=fun w (hw:U64 w)=>WR (s:=s) (first:=1) (last:=2) hw;have hrl:=hs.h.roots;have hrw:=hs.h.rootsW;unfold XW;unfold boxP at k1 k2;generalize WO s 2 (fun _ w=>Zr s w 1 2)=b1 at*;generalize WO s 1 (fun a w=>decide (s.h.scan≤a)||Zr s w 1 2)=b2 at*;simp[-List.all_eq_true,-List.all_eq_false,p99];refine UD 3 s.h.roots.length (fun i=>(s.h.roots.take i).all (fun w=>Zr s w 1 2)=true) (by simp) (by simp) (by simp) ?_;intro i hi hall;have hwi:=Z1 ((i:Int)+1) (by omega) (by omega);by_cases hlt:i<s.h.roots.length
 ·have hx:s.h.roots[i]? =some s.h.roots[i]:=Z8n hlt;have hu:=hrw _ (Z8M hlt);generalize s.h.roots[i]=w at*;have hex:Zr s w 1 2=false→s.h.roots.all (fun w=>Zr s w 1 2)=false:=fun hno=>Z0A hx hno;have hnext:=zp (q:=fun w=>Zr s w 1 2) hx;rw[hall]at hnext;simp[-List.all_eq_true,-List.all_eq_false,hlt,hx,ZM hx,idxV];refine Z0 (k0 w hu) (by simp) ?_;cases hv:Zr s w 1 2
  ·simp[-List.all_eq_true,-List.all_eq_false,hex hv]
  ·rw[hv]at hnext;simp[-List.all_eq_true,-List.all_eq_false,hwi,hlt,hnext]
 ·have:i=s.h.roots.length:=by omega
  subst this;rw[Za1]at hall;simp[-List.all_eq_true,-List.all_eq_false,hall];refine Z0 k1 (by simp[flV,V.flatc]) ?_;cases b1
  ·simp
  ·simp;refine Z0 k2 (by simp[flV,V.flatc]) ?_;simp
def YC(s:Ck):Bool:=WO s 1 (fun a w=>decide (a<s.h.scan)||Zr s w 1 4)
theorem K9{s:Ck}(hs:s.ok):VC Try.prog 100 false [ckP s] (.bool (YC s)):=by
 refine Z6 Try.func100 follows (by kernel_rfl) c100 rfl ?_;have k1:=Xa hs (k:=1) (by omega) (f:=117) (cs:= [boxP s]) (q:=fun a w=>decide (a<s.h.scan)||Zr s w 1 4) (fun a w hw=>Qk hw);unfold YC;unfold boxP at k1;simp[p100];refine Z0 k1 (by simp[flV,V.flatc]) ?_;simp
def K5(s:Ck):Bool:=WO s 3 (fun _ w=>Zr s w 3 4)&&WO s 4 (fun _ w=>Zr s w 3 4)
theorem Z3C{s:Ck}(hs:s.ok):VC Try.prog 101 false [ckP s] (.bool (K5 s)):=by
 refine Z6 Try.func101 follows (by kernel_rfl) c101 rfl ?_;have k1:=Xa hs (k:=3) (by omega) (f:=118) (cs:= [boxP s]) (q:=fun _ w=>Zr s w 3 4) (fun a w hw=>zy hw);have k2:=Xa hs (k:=4) (by omega) (f:=118) (cs:= [boxP s]) (q:=fun _ w=>Zr s w 3 4) (fun a w hw=>zy hw);unfold K5;unfold boxP at k1 k2;generalize WO s 3 (fun _ w=>Zr s w 3 4)=b1 at*;generalize WO s 4 (fun _ w=>Zr s w 3 4)=b2 at*;simp[p101];refine Z0 k1 (by simp[flV,V.flatc]) ?_;cases b1
 ·simp
 ·simp;refine Z0 k2 (by simp[flV,V.flatc]) ?_;simp
end Vm
namespace Vm
open Go Go.Proofs
set_option maxRecDepth 100000
set_option maxHeartbeats 1000000
def XN(s:Ck):Bool:=Z8 (layH s.h)&&(decide (s.h.roots.length≤16)&&(decide (0≤s.h.scan)&&decide (s.h.scan≤s.h.low.length)))
theorem qI{s:Ck}(hs:s.h.ok):VC Try.prog 95 false [ckP s] (.bool (XN s)):=by
 refine Z6 Try.func95 follows (by kernel_rfl) c95 rfl ?_;have k:=Va hs.lay;unfold XN;unfold layH lyV at k;simp[p95];simp[ckL];refine Z0 k (by simp) ?_;have e:Z8 {base:=s.h.base,cap:=s.h.cap,to:=s.h.to,low:=(s.h.low.length:Int),high:=(s.h.high.length:Int),old:=(s.h.old.length:Int),far:=(s.h.far.length:Int)}=Z8 (layH s.h):=rfl;rw[e];cases Z8 (layH s.h)
 ·simp
 by_cases h1:s.h.roots.length≤16
 ·have h1':(s.h.roots.length:Int)≤16:=by omega
  by_cases h2:0≤s.h.scan<;>by_cases h3:s.h.scan≤s.h.low.length<;>simp[h1,h1',h2,h3]
 ·have h1': ¬(s.h.roots.length:Int)≤16:=by omega
  simp[h1,h1']
def WC(s:Ck):Bool:=if s.h.cycle then decide (s.h.scan<s.h.low.length)else decide (s.h.old.length=0)&&(decide (s.h.far.length=0)&&decide (s.h.scan=s.h.low.length))
theorem yJ{s:Ck}:VC Try.prog 96 false [ckP s] (.bool (WC s)):=by
 refine Z6 Try.func96 follows (by kernel_rfl) c96 rfl ?_;unfold WC;cases hc:s.h.cycle
 ·by_cases h1:s.h.old.length=0
  ·have h1':s.h.old= []:=Z9O.1 h1;by_cases h2:s.h.far.length=0
   ·have h2':s.h.far= []:=Z9O.1 h2;simp[p96,hc,h1',h2']
   ·have h2': ¬s.h.far= []:=fun e=>h2 (by simp[e]);simp[p96,hc,h1',h2,h2']
  ·have h1': ¬s.h.old= []:=fun e=>h1 (by simp[e]);simp[p96,hc,h1,h1']
 ·simp[p96,hc]
def Qy(s:Ck):Nat:=wtL s.o3+wtL s.o4
@[simp] theorem Z8d(s:Ck):((ckL s).drop 17).take 4= [.sl (s.o1.map obV),.sl (s.o2.map obV),.sl (s.o3.map obV),.sl (s.o4.map obV)]:=rfl
@[simp] theorem Z71(s:Ck):(ckL s).length=23:=rfl
theorem SO{s:Ck}(hs:s.ok):VC Try.prog 44 false [ckP s] (vi (Qy s)):=by
 refine Z6 Try.func44 follows (by kernel_rfl) c44 rfl ?_;have hsh: ∀k,∀o∈s.obs k,Zo o.size o.ptrs=true:=fun k o ho=>(hs.ob k o ho).1.2;have hl3:s.o3.length≤1000000:=hs.len 3;have hl4:s.o4.length≤1000000:=hs.len 4;have hs3: ∀o∈s.o3,Zo o.size o.ptrs=true:=hsh 3;have hs4: ∀o∈s.o4,Zo o.size o.ptrs=true:=hsh 4;have hb3:=Ru hs3;have hb4:=Ru hs4;have a3:aiV (.agg [.sl (s.o1.map obV),.sl (s.o2.map obV),.sl (s.o3.map obV),.sl (s.o4.map obV)]) (.int .i64 2) 4 1 true=some (.agg [.sl (s.o3.map obV)]):=by simp[aiV]
 have a4:aiV (.agg [.sl (s.o1.map obV),.sl (s.o2.map obV),.sl (s.o3.map obV),.sl (s.o4.map obV)]) (.int .i64 3) 4 1 true=some (.agg [.sl (s.o4.map obV)]):=by simp[aiV]
 simp[p44];refine YM (fun(i:Nat)=> [(2,.v (vi ((if 0<i then wtL s.o3 else 0)+(if 1<i then wtL s.o4 else 0):Nat))),(3,.v (vi ((i+3:Nat):Int)))]) (fun i=>i≤2) (cnt 3 5) 0 (by simp) (by simp) ?_;rintro i hi;have hi':i=0∨i=1∨i=2:=by omega
 rcases hi' with rfl|rfl|rfl
 ·simp[T8,a3];refine Xg 5 s.o3.length (fun j=> [(2,.v (vi (wtL (s.o3.take j)))),(5,.v (vi j))]) (fun _=>True) (by simp[wtL]) (fun i=>by simp) trivial ?_;rintro j hj-;have hwj:=Z1 ((j:Int)+1) (by omega) (by omega);by_cases h1:j<s.o3.length
  ·have hx:s.o3[j]? =some s.o3[j]:=Z8n h1;have hsx:=hs3 _ (Z8M h1);have hsc:=zd hx;generalize s.o3[j]=o at*
   have hle:wtL (s.o3.take j)≤256*s.o3.length:=by
    refine Z8Y (Ru fun o ho=>hs3 o (Z9g ho)) ?_;simp;omega
   obtain⟨g1,g2,g3,g4⟩:=Z4.1 hsx;obtain⟨z,hz⟩:=Z8H g1;have w1:=Z1 (1+(z:Int)) (by omega) (by omega);have w2:=Z1 ((wtL (s.o3.take j):Int)+(1+z)) (by omega) (by omega);cases hg:o.gone
   ·have hwo:wtO o=1+z:=by simp[wtO,hg,hz]
    simp[idxV,h1,hx,ZM hx,hg,hz,w1,w2,hwj,hsc,hwo]
   ·have hwo:wtO o=0:=by simp[wtO,hg]
    simp[idxV,h1,hx,ZM hx,hg,hwj,hsc,hwo]
  ·have:j=s.o3.length:=by omega
   subst this;rw[Za1];simp[idxV,Z1];exact⟨1,by omega,by simp,by simp[cnt]⟩
 ·simp[Tt,a4];refine Xg 5 s.o4.length (fun j=> [(2,.v (vi (wtL s.o3+wtL (s.o4.take j):Nat))),(5,.v (vi j))]) (fun _=>True) (by simp[wtL]) (fun i=>by simp) trivial ?_;rintro j hj-;have hwj:=Z1 ((j:Int)+1) (by omega) (by omega);by_cases h1:j<s.o4.length
  ·have hx:s.o4[j]? =some s.o4[j]:=Z8n h1;have hsx:=hs4 _ (Z8M h1);have hsc:=zd hx;generalize s.o4[j]=o at*
   have hle:wtL (s.o4.take j)≤256*s.o4.length:=by
    refine Z8Y (Ru fun o ho=>hs4 o (Z9g ho)) ?_;simp;omega
   obtain⟨g1,g2,g3,g4⟩:=Z4.1 hsx;obtain⟨z,hz⟩:=Z8H g1;have w1:=Z1 (1+(z:Int)) (by omega) (by omega);have w2:=Z1 ((wtL s.o3:Int)+wtL (s.o4.take j)+(1+z)) (by omega) (by omega);cases hg:o.gone
   ·have hwo:wtO o=1+z:=by simp[wtO,hg,hz]
    simp[idxV,h1,hx,ZM hx,hg,hz,w1,w2,hwj,hsc,hwo];omega
   ·have hwo:wtO o=0:=by simp[wtO,hg]
    simp[idxV,h1,hx,ZM hx,hg,hwj,hsc,hwo]
  ·have:j=s.o4.length:=by omega
   subst this;rw[Za1];simp[idxV,Z1];exact⟨2,by omega,by simp,by simp[cnt]⟩
 ·simp[Qy]
def Th(s:Ck):Bool:=decide ((s.h.low.length:Int)+s.h.high.length+Qy s≤s.h.cap)
theorem Z0Z{s:Ck}(hs:s.ok):Qy s≤512*1000000:=by
 have hb3:=Ru (l:=s.o3) fun o ho=>(hs.ob 3 o ho).1.2;have hb4:=Ru (l:=s.o4) fun o ho=>(hs.ob 4 o ho).1.2;have hl3:s.o3.length≤1000000:=hs.len 3;have hl4:s.o4.length≤1000000:=hs.len 4;unfold Qy;omega
theorem Z16{s:Ck}(hs:s.ok):VC Try.prog 102 false [ckP s] (.bool (Th s)):=by
 refine Z6 Try.func102 follows (by kernel_rfl) c102 rfl ?_;have h1:=Z0Z hs;have h2:=hs.h.low;have h3:=hs.h.high;have w1:=Z1 ((s.h.low.length:Int)+s.h.high.length) (by omega) (by omega);have w2:=Z1 ((s.h.low.length:Int)+s.h.high.length+Qy s) (by omega) (by omega);simp[p102];refine Z0 (SO hs) (by simp) ?_;simp[w1,w2,Th]
end Vm
namespace Vm
open Go Go.Proofs
set_option maxRecDepth 100000
set_option maxHeartbeats 1000000
def Yb(lm:List (Int×(Int×Int)))(ws:List Int):Nat→Nat→List (Int×Int)→List (Int×Int)
 |0,_,acc=>acc
 |f+1,i,acc=>
  match ws[i]? with
  |none=>acc
  |some w=>if(adr w).2=0 then(match getA lm (adr w).1 with|none=>acc|some sh=>Yb lm ws f (i+1+sh.1.toNat) (acc++ [sh]))
   else if(unpk w).2.2=0 then Yb lm ws f (i+1+(unpk w).1.toNat) acc else acc
def YK(lm:List (Int×(Int×Int)))(ws:List Int):List (Int×Int):=Yb lm ws (ws.length+1) 0 []
theorem zi{α:Type}{l:List (Int×α)}{k:Int}{x:α}(h:getA l k=some x):(k,x)∈l:=by
 unfold getA at h;obtain⟨y,hy,rfl⟩:=Z8p.1 h;have h1:=Za5 hy;have h2:=ZaM hy;have:y.1=k:=by simpa using h2
 rw[←this];exact h1
theorem yE{s:Ck}(hlm: ∀x∈s.lm,Zo x.2.1 x.2.2=true){ws:List Int}(hl:ws.length≤1000000)(hw: ∀w∈ws,U64 w):
  VC Try.prog 111 false [ckP s,.sl (ws.map vu)] (.sl ((YK s.lm ws).map shP)):=by
 refine Z6 Try.func111 follows (by kernel_rfl) c111 rfl ?_
 have hlk: ∀k,lkV (.i .u64) (mpA shP s.lm) (vu k) (.agg [vi 0,vi 0]) true=match getA s.lm k with
  |some x=>some (.tup [shP x,.bool true])
  |none=>some (.tup [.agg [vi 0,vi 0],.bool false]):=fun k=>by rw[Z1t];cases getA s.lm k<;>simp
 have h22:(ckL s)[22]? =some (mpA shP s.lm):=rfl;simp[p111]
 refine YM (fun(p:Nat×List (Int×Int))=> [(3,.v (.sl (p.2.map shP))),(4,.v (vi p.1))])
  (fun p=>p.1≤ws.length+256∧p.2.length≤p.1∧ ∃f,ws.length<f+p.1∧0<f∧YK s.lm ws=Yb s.lm ws f p.1 p.2) (cnt 4 ws.length) (0,[]) (by simp) ⟨by simp,by simp,ws.length+1,by simp,by omega,rfl⟩ ?_
 rintro⟨i,acc⟩ ⟨hi,hacc,f,hf,hf0,hR⟩;simp only at hi hacc hf hR;cases f with
 |zero=>omega
 |succ f=>
 by_cases hlt:i<ws.length
 ·have hx:ws[i]? =some ws[i]:=Z8n hlt;have hu:=hw _ (Z8M hlt);generalize ws[i]=w at*;simp only[Yb,hx]at hR;have hlim:acc.length+1≤lim:=by simp[lim];omega
  simp[hlt,hx,ZM hx,idxV];refine Z0 (Rr hu) (by simp) ?_;by_cases ha:(adr w).2=0
  ·rw[if_pos ha]at hR;simp[ha,h22,hlk];cases hat:getA s.lm (adr w).1 with
   |none=>
    rw[hat]at hR;simp only at hR;rw[hR];simp
   |some sh=>
    rw[hat]at hR;simp only at hR;have hsh:0≤sh.1∧sh.1≤255∧0≤sh.2∧sh.2≤sh.1:=Z4.1 (hlm _ (zi hat));obtain⟨z,hz⟩:=Z8H hsh.1;have hw1:=Z1 (1+(z:Int)) (by omega) (by omega);have hw2:=Z1 ((i:Int)+(1+z)) (by omega) (by omega);rw[hz,Z8B]at hR;simp[hlim,hz,hw1,hw2];refine⟨i+1+z,acc++ [sh],⟨by omega,by simp;omega,f,by omega,?_,hR⟩,⟨by simp[shP,hz],by omega⟩,by simp[cnt];omega⟩;omega
  ·rw[if_neg ha]at hR;simp[ha,hx,ZM hx,hlt,idxV];refine Z0 (KL hu) (by simp) ?_;by_cases hun:(unpk w).2.2=0
   ·rw[if_pos hun]at hR;have hsh:=Z4.1 (LA hun);obtain⟨z,hz⟩:=Z8H hsh.1;have hw1:=Z1 (1+(z:Int)) (by omega) (by omega);have hw2:=Z1 ((i:Int)+(1+z)) (by omega) (by omega);rw[hz,Z8B]at hR;simp[hun,hz,hw1,hw2];refine⟨i+1+z,acc,⟨by omega,by omega,f,by omega,?_,hR⟩,⟨rfl,by omega⟩,by simp[cnt];omega⟩;omega
   ·rw[if_neg hun]at hR;rw[hR];simp[hun]
 ·have hx:ws[i]? =none:=Z9x (by omega);simp only[Yb,hx]at hR;rw[hR];have: ¬((i:Int) <ws.length):=by omega
  simp[hlt,this]
end Vm
namespace Vm
open Go Go.Proofs
set_option maxRecDepth 100000
set_option maxHeartbeats 1000000
def copQ(pm:List (Int×Int)):List Ob→List (Int×Bool)→Option (List (Int×Bool))
 | [],m=>some m
 |o::l,m=>if o.gone=true then(if(getA pm o.target).getD 0=1∧(getA m o.target).getD false=false then copQ pm l (putA m o.target true)else none)else copQ pm l m
def XY(s:Ck):Bool:= !s.h.cycle||match(copQ s.pm s.o3 []).bind (copQ s.pm s.o4)with
 |none=>false
 |some m=>decide (m.length=s.o1.length)
theorem Z0x{l:List (Int×Bool)}{k:Int}{x:Bool}:QI (.i .u64) (mpA .bool l) (vu k) (.bool x)=some (mpA .bool (putA l k x)):=L6
theorem q9{l:List (Int×Bool)}{k:Int}:lkV (.i .u64) (mpA .bool l) (vu k) (.bool false) false=some (.bool ((getA l k).getD false)):=by
 rw[Z1t];cases getA l k<;>simp
theorem yQ{l:List (Int×Int)}{k:Int}:lkV (.i .u64) (mpA vi l) (vu k) (vi 0) false=some (vi ((getA l k).getD 0)):=by
 rw[Z1t];cases getA l k<;>simp
theorem Z0d{α:Type}(f:α→V):mpA f []= .mp 0 [] []:=rfl
theorem yx{s:Ck}(hs:s.ok):VC Try.prog 98 false [ckP s] (.bool (XY s)):=by
 refine Z6 Try.func98 follows (by kernel_rfl) c98 rfl ?_;have hl3:s.o3.length≤1000000:=hs.len 3;have hl4:s.o4.length≤1000000:=hs.len 4;have hu3: ∀o∈s.o3,U64 o.target:=fun o ho=>(hs.ob 3 o ho).2;have hu4: ∀o∈s.o4,U64 o.target:=fun o ho=>(hs.ob 4 o ho).2;have a3:aiV (.agg [.sl (s.o1.map obV),.sl (s.o2.map obV),.sl (s.o3.map obV),.sl (s.o4.map obV)]) (.int .i64 2) 4 1 true=some (.agg [.sl (s.o3.map obV)]):=by simp[aiV]
 have a4:aiV (.agg [.sl (s.o1.map obV),.sl (s.o2.map obV),.sl (s.o3.map obV),.sl (s.o4.map obV)]) (.int .i64 3) 4 1 true=some (.agg [.sl (s.o4.map obV)]):=by simp[aiV]
 have a1:aiV (.agg [.sl (s.o1.map obV),.sl (s.o2.map obV),.sl (s.o3.map obV),.sl (s.o4.map obV)]) (.int .i64 0) 4 1 true=some (.agg [.sl (s.o1.map obV)]):=by simp[aiV]
 have h21:(ckL s)[21]? =some (mpA vi s.pm):=rfl;have hm0:=(Z0d V.bool).symm;unfold XY;cases hc:s.h.cycle
 ·simp[p98,hc]
 simp[p98,hc,hm0]
 refine YM (fun(p:Nat×List (Int×Bool))=> [(3,.v (mpA .bool p.2)),(4,.v (vi ((p.1+3:Nat):Int)))])
  (fun p=>(p.1=0∧p.2= [])∨(p.1=1∧copQ s.pm s.o3 []=some p.2)∨(p.1=2∧(copQ s.pm s.o3 []).bind (copQ s.pm s.o4)=some p.2)) (cnt 4 5) (0,[]) (by simp) (by simp) ?_
 rintro⟨i,m⟩ (⟨rfl,rfl⟩ | ⟨rfl,hm⟩ | ⟨rfl,hm⟩)
 ·simp[T8,a3];refine YM (fun(p:Nat×List (Int×Bool))=> [(3,.v (mpA .bool p.2)),(6,.v (vi p.1))]) (fun p=>p.1≤s.o3.length∧copQ s.pm s.o3 []=copQ s.pm (s.o3.drop p.1) p.2) (cnt 6 s.o3.length) (0,[]) (by simp) (by simp) ?_;rintro⟨j,mj⟩ ⟨hj,he⟩;simp only at hj he;have hwj:=Z1 ((j:Int)+1) (by omega) (by omega);by_cases h1:j<s.o3.length
  ·have hx:s.o3[j]? =some s.o3[j]:=Z8n h1;have hd:=Z9q h1;have hut:=hu3 _ (Z8M h1);generalize s.o3[j]=o at*;rw[hd,copQ]at he;cases hg:o.gone
   ·rw[hg]at he;rw[if_neg (by simp)]at he;simp[idxV,h1,hx,ZM hx,hg,hwj];exact⟨j+1,mj,⟨by omega,he⟩,⟨rfl,by omega⟩,by simp[cnt];omega⟩
   ·rw[hg]at he;rw[if_pos rfl]at he;by_cases h2:(getA s.pm o.target).getD 0=1
    ·cases h3:(getA mj o.target).getD false
     ·rw[if_pos ⟨h2,h3⟩]at he;simp[idxV,h1,hx,ZM hx,hg,hwj,h21,yQ,q9,flV,V.flatc,h2,h3,Z0x];exact⟨j+1,putA mj o.target true,⟨by omega,he⟩,⟨rfl,by omega⟩,by simp[cnt];omega⟩
     ·rw[if_neg (by simp[h3])]at he;simp[idxV,h1,hx,ZM hx,hg,hwj,h21,yQ,q9,flV,V.flatc,h2,h3,he]
    ·rw[if_neg (by simp[h2])]at he;simp[idxV,h1,hx,ZM hx,hg,hwj,h21,yQ,q9,flV,V.flatc,h2,he]
  ·have:j=s.o3.length:=by omega
   subst this;rw[List.drop_length,copQ]at he;simp[Z1];exact⟨1,mj,by simp[he],by simp,by simp[cnt]⟩
 ·simp[Tt,a4];refine YM (fun(p:Nat×List (Int×Bool))=> [(3,.v (mpA .bool p.2)),(6,.v (vi p.1))]) (fun p=>p.1≤s.o4.length∧copQ s.pm s.o4 m=copQ s.pm (s.o4.drop p.1) p.2) (cnt 6 s.o4.length) (0,m) (by simp) (by simp) ?_;rintro⟨j,mj⟩ ⟨hj,he⟩;simp only at hj he;have hwj:=Z1 ((j:Int)+1) (by omega) (by omega);by_cases h1:j<s.o4.length
  ·have hx:s.o4[j]? =some s.o4[j]:=Z8n h1;have hd:=Z9q h1;have hut:=hu4 _ (Z8M h1);generalize s.o4[j]=o at*;rw[hd,copQ]at he;cases hg:o.gone
   ·rw[hg]at he;rw[if_neg (by simp)]at he;simp[idxV,h1,hx,ZM hx,hg,hwj];exact⟨j+1,mj,⟨by omega,he⟩,⟨rfl,by omega⟩,by simp[cnt];omega⟩
   ·rw[hg]at he;rw[if_pos rfl]at he;by_cases h2:(getA s.pm o.target).getD 0=1
    ·cases h3:(getA mj o.target).getD false
     ·rw[if_pos ⟨h2,h3⟩]at he;simp[idxV,h1,hx,ZM hx,hg,hwj,h21,yQ,q9,flV,V.flatc,h2,h3,Z0x];exact⟨j+1,putA mj o.target true,⟨by omega,he⟩,⟨rfl,by omega⟩,by simp[cnt];omega⟩
     ·rw[if_neg (by simp[h3])]at he;simp[idxV,h1,hx,ZM hx,hg,hwj,h21,yQ,q9,flV,V.flatc,h2,h3,hm,he]
    ·rw[if_neg (by simp[h2])]at he;simp[idxV,h1,hx,ZM hx,hg,hwj,h21,yQ,q9,flV,V.flatc,h2,hm,he]
  ·have:j=s.o4.length:=by omega
   subst this;rw[List.drop_length,copQ]at he;simp[Z1];exact⟨2,mj,by simp[hm,he],by simp,by simp[cnt]⟩
 ·simp[LD,T8,a1];rw[hm];simp;omega
end Vm
namespace Vm
open Go Go.Proofs
set_option maxRecDepth 100000
set_option maxHeartbeats 1000000
def RQ:Prop:= ∀ws:List Int,ws.length≤1000000→(∀w∈ws,U64 w)→VC Try.prog 108 true [.sl (ws.map vu)] (.tup [.sl ((Zp ws [] false).1.map obV),vi (Zp ws [] false).2])
def Wk:Prop:= ∀(ws:List Int) (shs:List (Int×Int)),ws.length≤1000000→shs.length≤1000000→(∀w∈ws,U64 w)→(∀x∈shs,Zo x.1 x.2=true)→
 VC Try.prog 110 true [.sl (ws.map vu),.sl (shs.map shP)] (.tup [.sl ((Zp ws shs true).1.map obV),vi (Zp ws shs true).2])
def Zs(s:Ck)(k:Int):List Ob×Int:=if k≤2 then Zp (Z5 s.h k) [] false else Zp (Z5 s.h k) (YK s.lm (Z5 s.h k)) true
def Yg:List Int→Ck→Bool×Ck
 | [],s=>(true,s)
 |k::l,s=>if(Zs s k).2=0 then Yg l (Xm s k (Zs s k).1)else(false,s)
def ZT(s:Ck):Bool×Ck:=Yg [1,2,3,4] s
theorem VS(s:Ck)(k:Int)(l:List Ob):(Xm s k l).h=s.h:=Z78 s k l
theorem Z1w{α:Type}{l:List (Int×α)}{k:Int}{x:α}{y:Int×α}(h:y∈putA l k x):y=(k,x)∨y∈l:=by
 unfold putA at h;split at h
 ·rcases Z9r h with h|h
  ·exact .inr h
  ·exact .inl h
 ·rcases Z90.1 h with h|h
  ·exact .inr h
  ·simp at h;exact .inl h
theorem Wj{h:Hp}{k:Int}: ∀ {l:List Ob} {m:List (Int×(Int×Int))},(∀o∈l,Zo o.size o.ptrs=true)→(∀x∈m,Zo x.2.1 x.2.2=true)→ ∀x∈ZU h k m l,Zo x.2.1 x.2.2=true
 | [],m,_,hm=>hm
 |o::l,m,ho,hm=>by
  rw[ZU];refine Wj (fun p hp=>ho p (Z9h _ hp)) ?_;split
  ·intro x hx;rcases Z1w hx with rfl|hx
   ·exact ho o (.head _)
   ·exact hm x hx
  ·exact hm
theorem XJ{s:Ck}(hh:s.h.ok){k:Int}:(∀o∈(Zs s k).1,ObIn (Z5 s.h k).length o∧U64 o.target)∧(Zs s k).1.length≤(Z5 s.h k).length:=by
 unfold Zs;split
 ·exact⟨zO (Zx hh k).1,JA⟩
 ·exact⟨zO (Zx hh k).1,JA⟩
theorem VU{lm:List (Int×(Int×Int))}{ws:List Int}: ∀ {f i:Nat} {acc:List (Int×Int)},acc.length≤i→acc.length≤ws.length→(Yb lm ws f i acc).length≤ws.length
 |0,i,acc,_,h=>h
 |f+1,i,acc,hi,h=>by
  rw[Yb];cases hx:ws[i]? with
  |none=>exact h
  |some w=>
   have hlt:i<ws.length:=(Z8o.1 hx).1;simp only;split
   ·split
    ·exact h
    ·exact VU (by simp;omega) (by simp;omega)
   ·split
    ·exact VU (by omega) h
    ·exact h
theorem Ra{lm:List (Int×(Int×Int))}{ws:List Int}:(YK lm ws).length≤ws.length:=VU (by simp) (by simp)
theorem Vv{lm:List (Int×(Int×Int))}{ws:List Int}(hlm: ∀x∈lm,Zo x.2.1 x.2.2=true): ∀ {f i:Nat} {acc:List (Int×Int)},(∀x∈acc,Zo x.1 x.2=true)→ ∀x∈Yb lm ws f i acc,Zo x.1 x.2=true
 |0,i,acc,h=>h
 |f+1,i,acc,h=>by
  rw[Yb];cases hx:ws[i]? with
  |none=>exact h
  |some w=>
   simp only;split
   ·split
    ·exact h
    ·rename_i sh hsh;refine Vv hlm ?_;intro x hx;rcases Z90.1 hx with hx|hx
     ·exact h x hx
     ·simp at hx;subst hx;exact hlm _ (zi hsh)
   ·split
    ·exact Vv hlm h
    ·exact h
theorem Z15:IntKind.i64.wrap 4=4:=by decide
theorem qB(hW:RQ)(hWO:Wk){s:Ck}(hh:s.h.ok)(hlm: ∀x∈s.lm,Zo x.2.1 x.2.2=true):VCM Try.prog 97 [.mem ckK] [.agg (ckL s)] (.tup [.bool (ZT s).1,.agg (ckL (ZT s).2)]):=by
 refine Jq Try.func97 follows (by kernel_rfl) c97 (by kernel_rfl) ?_;simp[p97];refine YM (fun(p:Nat×Ck)=> [(0,.m (ckL p.2)),(3,.v (vi p.1))]) (fun p=>p.1≤4∧p.2.h=s.h∧(∀x∈p.2.lm,Zo x.2.1 x.2.2=true)∧ZT s=Yg ([1,2,3,4].drop p.1) p.2) (cnt 3 4) (0,s) (by simp) ⟨by simp,rfl,hlm,rfl⟩ ?_;rintro⟨i,q⟩ ⟨hi,hq,hql,hR⟩;simp only at hi hq hql hR;have hqh:q.h.ok:=hq▸hh;have hi':i=0∨i=1∨i=2∨i=3∨i=4:=by omega
 have kw:=fun k hk=>zh (s:=q) (k:=k) hk;have ks:=fun k=>yE (s:=q) hql (Zx hqh k).2 (Zx hqh k).1;rcases hi' with rfl|rfl|rfl|rfl|rfl
 ·replace kw:=kw 1 (by omega);have st:=XJ hqh (k:=1);have kn:=TL (s:=q) hqh (k:=1) (by omega) (l:=(Zs q 1).1) (Z8Y st.2 (Zx hqh 1).2);have k1:=hW _ (Zx hqh 1).2 (Zx hqh 1).1;have hsh:=Wj (h:=q.h) (k:=1) (l:=(Zs q 1).1) (m:=q.lm) (fun o ho=>(st.1 o ho).1.2) hql;replace hR:ZT s=Yg (1:: [2,3,4]) q:=hR;rw[Yg]at hR;have hws:Zs q 1=Zp (Z5 q.h 1) [] false:=rfl;rw[←hws]at k1;generalize Zs q 1=z at*;obtain⟨l,e⟩:=z;simp only at k1 kn hR hsh st;unfold ckP ckL at kw;unfold ckL at kn;simp[ckL,Rh,T8,Tt,Z15];refine Z0 kw (by simp) ?_;simp;refine Z0 k1 (by simp) ?_;simp;by_cases he:e=0
  ·rw[if_pos he]at hR;simp[he];refine WV kn ?_;simp[Z1];exact⟨1,Xm q 1 l,⟨by omega,by rw[VS,hq],fun a b c h=>hsh (a,b,c) h,hR⟩,⟨by simp,rfl⟩,by simp[cnt]⟩
  ·rw[if_neg he]at hR;simp[he,hR,ckL]
 ·replace kw:=kw 2 (by omega);have st:=XJ hqh (k:=2);have kn:=TL (s:=q) hqh (k:=2) (by omega) (l:=(Zs q 2).1) (Z8Y st.2 (Zx hqh 2).2);have k1:=hW _ (Zx hqh 2).2 (Zx hqh 2).1;have hsh:=Wj (h:=q.h) (k:=2) (l:=(Zs q 2).1) (m:=q.lm) (fun o ho=>(st.1 o ho).1.2) hql;replace hR:ZT s=Yg (2:: [3,4]) q:=hR;rw[Yg]at hR;have hws:Zs q 2=Zp (Z5 q.h 2) [] false:=rfl;rw[←hws]at k1;generalize Zs q 2=z at*;obtain⟨l,e⟩:=z;simp only at k1 kn hR hsh st;unfold ckP ckL at kw;unfold ckL at kn;simp[ckL,Rh,T8,Tt,Z15];refine Z0 kw (by simp) ?_;simp;refine Z0 k1 (by simp) ?_;simp;by_cases he:e=0
  ·rw[if_pos he]at hR;simp[he];refine WV kn ?_;simp[Z1];exact⟨2,Xm q 2 l,⟨by omega,by rw[VS,hq],fun a b c h=>hsh (a,b,c) h,hR⟩,⟨by simp,rfl⟩,by simp[cnt]⟩
  ·rw[if_neg he]at hR;simp[he,hR,ckL]
 ·replace kw:=kw 3 (by omega);have st:=XJ hqh (k:=3);have kn:=TL (s:=q) hqh (k:=3) (by omega) (l:=(Zs q 3).1) (Z8Y st.2 (Zx hqh 3).2);have k1:=hWO _ (YK q.lm (Z5 q.h 3)) (Zx hqh 3).2 (Z8Y Ra (Zx hqh 3).2) (Zx hqh 3).1 (Vv hql (by simp));replace ks:=ks 3;have hsh:=Wj (h:=q.h) (k:=3) (l:=(Zs q 3).1) (m:=q.lm) (fun o ho=>(st.1 o ho).1.2) hql;replace hR:ZT s=Yg (3:: [4]) q:=hR;rw[Yg]at hR;have hws:Zs q 3=Zp (Z5 q.h 3) (YK q.lm (Z5 q.h 3)) true:=rfl;rw[←hws]at k1;generalize Zs q 3=z at*;obtain⟨l,e⟩:=z;simp only at k1 kn hR hsh st;unfold ckP ckL at kw ks;unfold ckL at kn;simp[ckL,Rh,T8,Tt,Z15];refine Z0 kw (by simp) ?_;simp;refine Z0 kw (by simp) ?_;simp;refine Z0 ks (by simp) ?_;simp;refine Z0 k1 (by simp) ?_;simp;by_cases he:e=0
  ·rw[if_pos he]at hR;simp[he];refine WV kn ?_;simp[Z1];exact⟨3,Xm q 3 l,⟨by omega,by rw[VS,hq],fun a b c h=>hsh (a,b,c) h,hR⟩,⟨by simp,rfl⟩,by simp[cnt]⟩
  ·rw[if_neg he]at hR;simp[he,hR,ckL]
 ·replace kw:=kw 4 (by omega);have st:=XJ hqh (k:=4);have kn:=TL (s:=q) hqh (k:=4) (by omega) (l:=(Zs q 4).1) (Z8Y st.2 (Zx hqh 4).2);have k1:=hWO _ (YK q.lm (Z5 q.h 4)) (Zx hqh 4).2 (Z8Y Ra (Zx hqh 4).2) (Zx hqh 4).1 (Vv hql (by simp));replace ks:=ks 4;have hsh:=Wj (h:=q.h) (k:=4) (l:=(Zs q 4).1) (m:=q.lm) (fun o ho=>(st.1 o ho).1.2) hql;replace hR:ZT s=Yg (4:: []) q:=hR;rw[Yg]at hR;have hws:Zs q 4=Zp (Z5 q.h 4) (YK q.lm (Z5 q.h 4)) true:=rfl;rw[←hws]at k1;generalize Zs q 4=z at*;obtain⟨l,e⟩:=z;simp only at k1 kn hR hsh st;unfold ckP ckL at kw ks;unfold ckL at kn;simp[ckL,Rh,T8,Tt,Z15];refine Z0 kw (by simp) ?_;simp;refine Z0 kw (by simp) ?_;simp;refine Z0 ks (by simp) ?_;simp;refine Z0 k1 (by simp) ?_;simp;by_cases he:e=0
  ·rw[if_pos he]at hR;simp[he];refine WV kn ?_;simp[Z1];exact⟨4,Xm q 4 l,⟨by omega,by rw[VS,hq],fun a b c h=>hsh (a,b,c) h,hR⟩,⟨by simp,rfl⟩,by simp[cnt]⟩
  ·rw[if_neg he]at hR;simp[he,hR,ckL]
 ·replace hR:ZT s=(true,q):=hR;simp[hR,ckL]
end Vm
namespace Vm
open Go Go.Proofs
set_option maxRecDepth 100000
set_option maxHeartbeats 1000000
theorem yV{P:Program}{f:FuncId}{ks:List CK}{cs:List V}{r:V}(hv:VC P f false [.ptr cs] r)(hfl:r.flatc=true)(hlen:cs.length=ks.length)(hone:cs.all V.one=true)(hdd:ks.all (fun k=> !(k== .dead))=true):
  VCM P f [.mem ks] [.agg cs] (.tup [r,.agg cs]):=by
 obtain⟨h1,h2⟩:=hv;refine⟨h1,fun B w h vs hok hA=> ?_⟩;obtain⟨hxl,hvl,hAi⟩:=hA;obtain⟨tk,harg,hrel⟩:=hAi 0 (.mem ks) (.agg cs) rfl rfl;simp only[argK]at harg;rw[if_pos hlen]at harg;simp only[Z8l]at harg;subst harg;obtain⟨b,us,T,hb0,hv0,hh,hcs⟩:=hrel
 have hcells: ∀(ks:List CK) (cs:List V),cs.length=ks.length→Y0 [] (((ks.zip cs).map fun y=>(y.1,E.c y.2)).map (·.2))=some cs:=by
  intro ks
  induction ks with
  |nil=>intro cs hl;have:cs= []:=Z9O.1 hl;subst this;rfl
  |cons k ks ih=>
   intro cs hl;cases cs with
   |nil=>simp at hl
   |cons c cs=>
    simp only[ZbD,Z8Q,Y0,eval];rw[ih cs (by simpa using hl)];rfl
 have hz:eval [] (.pt none (((ks.zip cs).map fun y=>(y.1,E.c y.2)).map (·.2)))=some (.ptr cs):=by
  simp only[eval,hcells ks cs hlen,Z8y,ptV,hone,Z9c]
 have hd:ZV ((ks.zip cs).map fun y=>(y.1,E.c y.2))=false:=by
  rw[ZV,Zba];intro x hx;obtain⟨y,hy,rfl⟩:=Z8S.1 hx;have:=Z8A.1 hdd y.1 (List.of_mem_zip hy).1;simpa using this
 have hrd:=SY (G':=fun b=>h.F b∨ ∃t i,h.bl t i=some b) hb0 hh hcs hd hz (fun b hb=> .inl hb) fun i b hb=> .inr ⟨0,i,hb⟩;refine Zap (h2 w (fun b=>h.F b∨ ∃t i,h.bl t i=some b) vs (fun b hb=> ?_) (by simpa using hvl) fun i x hx=> ?_) fun e w' he=> ?_
 ·rcases hb with hb| ⟨t,i,hb⟩
  ·exact hok.f_lt b hb
  ·exact(hok.b_lt t i b hb).2.1
 ·cases i with
  |zero=>
   simp at hx;subst hx;rw[hv0];exact hrd
  |succ i=>simp at hx
 ·obtain⟨v,rfl,hbel,hrv⟩:=he;have hsz:=hbel.size;have hF:Same h.F w w':=fun b hb=>hbel.block b (hok.f_lt b hb);have hB: ∀t i b,h.bl t i=some b→w'.heap[b]? =w.heap[b]? :=fun t i b hb=>hbel.block b (hok.b_lt t i b hb).2.1
  have hlen1:us.size=cs.length:=by
   have:=hcs.1;simp[hlen]at this;omega
  refine⟨v,r,[.agg cs],h,rfl,hbel.mono hok.base,fun b hb=>hbel.block b (hok.k_lt b hb),⟨Z8Y hok.base hsz,fun b hb=>Z8z (hok.f_lt b hb) hsz,hok.f_or,hok.g_F,fun t i b hb=> ?_,hok.inj,fun b hb=>Z8z (hok.k_lt b hb) hsz,hok.k_bl,hok.k_F⟩,rfl,hrv.flat hfl,⟨rfl,fun i k y hk hkz hy=> ?_⟩,rfl⟩
  ·obtain⟨q1,q2,q3⟩:=hok.b_lt t i b hb;exact⟨q1,Z8z q2 hsz,q3⟩
  ·cases i with
   |zero=>
    simp at hk hy;subst hk;subst hy;refine⟨.mem ((ks.zip cs).map fun y=>(y.1,.c y.2)),by rw[argK,if_pos hlen],b,us,T,hb0,hv0,?_,hcs.keep hF (fun _ hb=>hb) (fun _=>rfl) fun i b hb=>hB 0 _ b hb⟩;rw[hB 0 0 b hb0];exact hh
   |succ i=>simp at hk
end Vm
namespace Vm
open Go Go.Proofs
set_option maxRecDepth 100000
set_option maxHeartbeats 1000000
def V1:List FuncId:= [95,96,97,98,99,100,101,102]
def fnA(f:FuncId):V:= .agg [.fn f]
theorem Z1a:VC Try.prog 76 false [] (.sl (V1.map fnA)):=by
 refine Z6 Try.func76 follows (by kernel_rfl) c76 rfl ?_;simp[p76,V1,fnA]
def QH(f:FuncId)(s:Ck):Bool×Ck:=
 if f=95 then(XN s,s)else if f=96 then(WC s,s)else if f=97 then ZT s
 else if f=98 then(XY s,s)else if f=99 then(XW s,s)else if f=100 then(YC s,s)else if f=101 then(K5 s,s)else(Th s,s)
structure Ck.okk (s:Ck):Prop where
 ok:s.ok
 lm: ∀x∈s.lm,Zo x.2.1 x.2.2=true
theorem Ck.obs_put(s:Ck)(k:Int)(l:List Ob)(hk:1≤k∧k≤4)(j:Int):(s.put k l).obs j=if j=k∨(k=4∧ ¬(j=1∨j=2∨j=3))then l else s.obs j:=by
 have:k=1∨k=2∨k=3∨k=4:=by omega
 rcases this with rfl|rfl|rfl|rfl<;>simp[Ck.put,Ck.obs]<;>(split<;>simp_all)<;>(try split<;>simp_all)<;>(try split<;>simp_all)
theorem Z03{s:Ck}(hs:s.okk){k:Int}(hk:1≤k∧k≤4):(Xm s k (Zs s k).1).okk:=by
 have st:=XJ hs.ok.h (k:=k);have hpl:=(Zx hs.ok.h k).2;have hobs: ∀j,(Xm s k (Zs s k).1).obs j=((s.put k (Zs s k).1).obs j):=fun j=>rfl;refine⟨⟨by rw[VS];exact hs.ok.h,fun j o ho=> ?_,fun j=> ?_⟩,Wj (fun o ho=>(st.1 o ho).1.2) hs.lm⟩
 ·rw[VS];rw[hobs,Ck.obs_put _ _ _ hk]at ho;split at ho
  ·rename_i h
   have:Z5 s.h j=Z5 s.h k:=by
    rcases h with rfl| ⟨rfl,h⟩
    ·rfl
    ·simp only[not_or]at h;simp[Z5,h]
   rw[this];exact st.1 o ho
  ·exact hs.ok.ob j o ho
 ·rw[hobs,Ck.obs_put _ _ _ hk];split
  ·exact Z8Y st.2 hpl
  ·exact hs.ok.len j
theorem Rc: ∀ {l:List Int} {s:Ck},(∀k∈l,1≤k∧k≤4)→s.okk→(Yg l s).2.okk∧(Yg l s).2.h=s.h
 | [],s,_,hs=>⟨hs,rfl⟩
 |k::l,s,hl,hs=>by
  rw[Yg];split
  ·have:=Rc (l:=l) (fun k hk=>hl k (Z9h _ hk)) (Z03 hs (hl k (Zb4 ..)));exact⟨this.1,this.2.trans (VS ..)⟩
  ·exact⟨hs,rfl⟩
theorem Ln{s:Ck}(hs:s.okk):(ZT s).2.okk∧(ZT s).2.h=s.h:=Rc (by intro k hk;simp at hk;omega) hs
theorem Kj{s:Ck}(hs:s.okk){f:FuncId}:(QH f s).2.okk∧(QH f s).2.h=s.h:=by
 unfold QH
 repeat' split
 all_goals first|exact⟨hs,rfl⟩ |exact Ln hs
theorem Z2j(hW:RQ)(hWO:Wk){s:Ck}(hs:s.okk){f:FuncId}(hf:f∈V1):VCM Try.prog f [.mem ckK] [.agg (ckL s)] (.tup [.bool (QH f s).1,.agg (ckL (QH f s).2)]):=by
 have go: ∀ {f b},VC Try.prog f false [ckP s] (.bool b)→VCM Try.prog f [.mem ckK] [.agg (ckL s)] (.tup [.bool b,.agg (ckL s)]):=fun h=>yV h rfl rfl rfl rfl;simp only[V1,Z8V,ZaX,Zcj]at hf;rcases hf with rfl|rfl|rfl|rfl|rfl|rfl|rfl|rfl
 ·exact go (qI hs.ok.h)
 ·exact go yJ
 ·exact qB hW hWO hs.ok.h hs.lm
 ·exact go (yx hs.ok)
 ·exact go (qf hs.ok)
 ·exact go (K9 hs.ok)
 ·exact go (Z3C hs.ok)
 ·exact go (Z16 hs.ok)
def Li:List FuncId→Ck→Option Ck
 | [],s=>some s
 |f::l,s=>if(QH f s).1=true then Li l (QH f s).2 else none
def ZS(h:Hp):Ck:= {h:=h,o1:= [],o2:= [],o3:= [],o4:= [],pm:= [],lm:= []}
def Tz(h:Hp):Option Ck:=Li V1 (ZS h)
theorem Qb{h:Hp}(hh:h.ok):(ZS h).okk:=by
 have h0: ∀k,(ZS h).obs k= []:=fun k=>by simp[ZS,Ck.obs]
 refine⟨⟨hh,fun k o ho=> ?_,fun k=> ?_⟩,fun x hx=>(by simp[ZS]at hx)⟩
 ·rw[h0]at ho;simp at ho
 ·rw[h0];simp
theorem qZ(hW:RQ)(hWO:Wk){h:Hp}(hh:h.ok):VC Try.prog 42 false [hpV h] (.tup [match Tz h with|some s=>ckP s|none=> .nul 0,.bool (Tz h).isSome]):=by
 refine Z6 Try.func42 follows (by kernel_rfl) c42 rfl ?_;have k1:=SK (h:=h);have k2:=Z1a;have hlen:V1.length=8:=rfl;unfold hpV at k1;simp[p42];refine Z0 k1 (by simp) ?_;simp[lyV,layH];refine Z0 k2 (by simp) ?_;simp;refine YM (fun(p:Nat×Ck)=> [(5,.m (ckL p.2)),(6,.v (vi p.1))]) (fun p=>p.1≤8∧p.2.okk∧Tz h=Li (V1.drop p.1) p.2) (cnt 6 8) (0,ZS h) (by simp[ckL,ZS,Z0d]) ⟨by simp,Qb hh,rfl⟩ ?_;rintro⟨i,q⟩ ⟨hi,hq,hR⟩;simp only at hi hq hR;have hwi:=Z1 ((i:Int)+1) (by omega) (by omega);by_cases hlt:i<V1.length
 ·have hx:V1[i]? =some V1[i]:=Z8n hlt;have hd:=Z9q hlt;have hm:=Z8M hlt;generalize V1[i]=f at*;rw[hd,Li]at hR;have kr:=Z2j hW hWO hq hm;have hok:=(Kj hq (f:=f)).1;rw[hlen]at hlt;have hlt':(i:Int) <8:=by omega
  simp[idxV,hlt,hlt',hx,ZM hx,hlen,fnA,ckL];unfold ckL at kr;refine WV kr ?_;cases hb:(QH f q).1
  ·rw[if_neg (by simp[hb])]at hR;simp[hR]
  ·rw[if_pos hb]at hR;simp[hwi];exact⟨i+1,(QH f q).2,⟨by omega,hok,hR⟩,⟨by simp,by omega⟩,by simp[cnt];omega⟩
 ·have:i=8:=by omega
  subst this;replace hR:Tz h=some q:=hR;simp[hlen,hR,ckL,ckP]
theorem J5: ∀ {l:List FuncId} {s q:Ck},s.okk→Li l s=some q→q.okk∧q.h=s.h
 | [],s,q,hs,h=>by simp only[Li,Z8l]at h;subst h;exact⟨hs,rfl⟩
 |f::l,s,q,hs,h=>by
  rw[Li]at h;split at h
  ·have h1:=Kj hs (f:=f);have h2:=J5 h1.1 h;exact⟨h2.1,h2.2.trans h1.2⟩
  ·cases h
theorem jI{h:Hp}(hh:h.ok){q:Ck}(hq:Tz h=some q):q.okk∧q.h=h:=J5 (Qb hh) hq
theorem Z0V(hW:RQ)(hWO:Wk){h:Hp}(hh:h.ok):VC Try.prog 33 false [hpV h] (.bool (Tz h).isSome):=by
 refine Z6 Try.func33 follows (by kernel_rfl) c33 rfl ?_;simp[p33];refine Z0 (qZ hW hWO hh) (by simp) ?_;simp
def yu(h:Hp):Nat:=match Tz h with
 |some s=>Qy s
 |none=>0
theorem LM(hW:RQ)(hWO:Wk){h:Hp}(hh:h.ok):VC Try.prog 26 false [hpV h] (vi (yu h)):=by
 refine Z6 Try.func26 follows (by kernel_rfl) c26 rfl ?_;simp[p26];refine Z0 (qZ hW hWO hh) (by simp) ?_;unfold yu;cases hl:Tz h with
 |none=>simp
 |some s=>
  simp;refine Z0 (SO (jI hh hl).1.ok) (by simp) ?_;simp
end Vm
end
section
namespace Vm
open Go Go.Proofs
set_option maxRecDepth 100000
structure Stands (ws:List Int) (old:Bool) (o:Ob):Prop where
 nat:0≤o.at_
 shape:Zo o.size o.ptrs=true
 fits:o.at_+1+o.size≤ws.length
 slots:ZL ((ws.drop (o.at_.toNat+1)).take o.size.toNat) o.gone o.ptrs 0=true
 word: ∃w,ws[o.at_.toNat]? =some w∧(if o.gone then old=true∧(adr w).2=0∧o.target=(adr w).1 else(old=true→ ¬(adr w).2=0)∧unpk w=(o.size,o.ptrs,0)∧o.target=0)
def Tiles(ws:List Int)(old:Bool):Nat→List Ob→Prop
 |a,[]=>ws.length≤a
 |a,o::l=>o.at_=a∧Stands ws old o∧Tiles ws old (a+1+o.size.toNat) l
theorem Lo{ws:List Int}{shs:List (Int×Int)}{old:Bool}{a tk t:Nat}{w:Int}{o:Ob}(hw:ws[a]? =some w)(ho:objR shs old a tk w=some (o,t))(hl: ¬(ws.length:Int) <a+1+o.size)
  (hs: ¬ZL ((ws.drop (a+1)).take o.size.toNat) o.gone o.ptrs 0=false):o.at_=a∧Stands ws old o:=by
 have h2:=Vk ho;refine⟨h2.2,?_,h2.1,?_,?_,w,?_,?_⟩
 ·rw[h2.2];omega
 ·rw[h2.2];omega
 ·rw[h2.2];simpa using hs
 ·rw[h2.2];simpa using hw
 ·unfold objR at ho;split at ho
  ·rename_i hc;split at ho
   ·cases ho
   ·split at ho
    ·cases ho;simpa using hc
    ·cases ho
  ·rename_i hc;split at ho
   ·rename_i hu;cases ho;simp only[Z8U,Z9f];refine⟨fun h1 h3=>hc ⟨h1,h3⟩,?_,trivial⟩;rw[←hu]
   ·cases ho
theorem R9{ws:List Int}{shs:List (Int×Int)}{old:Bool}: ∀(f a tk:Nat) (acc l:List Ob),YN ws shs old f a tk acc=(l,0)→ ∃r,l=acc++r∧Tiles ws old a r
 |0,_,_,_,_,h=>by simp[YN]at h
 |f+1,a,tk,acc,l,h=>by
  unfold YN at h;split at h
  ·rename_i hn;split at h
   ·simp at h
   ·simp only[Z8w,Zcb]at h;subst h;exact⟨[],by simp,ZaT.1 hn⟩
  ·rename_i w hw;split at h
   ·simp at h
   ·rename_i o t ho;split at h
    ·simp at h
    rename_i h1;split at h
    ·simp at h
    rename_i h2;obtain⟨r,rfl,hr⟩:=R9 f _ _ _ _ h;have hs:=Lo hw ho h1 h2;exact⟨o::r,by simp,hs.1,hs.2,hr⟩
theorem Yc{ws:List Int}{shs:List (Int×Int)}{old:Bool}{l:List Ob}(h:Zp ws shs old=(l,0)):Tiles ws old 0 l:=by
 obtain⟨r,h1,h2⟩:=R9 _ _ _ _ _ h;simp at h1;subst h1;exact h2
theorem Tiles.stands{ws:List Int}{old:Bool}: ∀ {a:Nat} {l:List Ob},Tiles ws old a l→ ∀o∈l,Stands ws old o∧(a:Int)≤o.at_
 |_,[],_,_,h=>by simp at h
 |a,o::l,h,x,hx=>by
  have hs:=Z4.1 h.2.1.shape;rcases Z8V.1 hx with rfl|hx
  ·exact⟨h.2.1,by rw[h.1];omega⟩
  ·have:=Tiles.stands h.2.2 x hx;exact⟨this.1,by have:=this.2;omega⟩
theorem Tiles.apart{ws:List Int}{old:Bool}: ∀ {a:Nat} {l:List Ob},Tiles ws old a l→ ∀o∈l,∀q∈l,o=q∨o.at_+1+o.size≤q.at_∨q.at_+1+q.size≤o.at_
 |_,[],_,_,h,_,_=>by simp at h
 |a,x::l,h,o,ho,q,hq=>by
  have hs:=Z4.1 h.2.1.shape;have e:=h.1;rcases Z8V.1 ho with rfl|ho
  ·rcases Z8V.1 hq with rfl|hq
   ·exact .inl rfl
   ·have:=(Tiles.stands h.2.2 q hq).2;exact .inr (.inl (by omega))
  ·rcases Z8V.1 hq with hq|hq
   ·have:=(Tiles.stands h.2.2 o ho).2;rw[hq];exact .inr (.inr (by omega))
   ·exact Tiles.apart h.2.2 o ho q hq
structure RightH (h:Hp) (p:Pts):Prop where
 parts:Y6 h=some p
 num:numR h=true
 ok:Ue h p=true
 low:Tiles h.low false 0 p.low
 high:Tiles h.high false 0 p.high
 old:Tiles h.old true 0 p.old
 far:Tiles h.far true 0 p.far
theorem jS{h:Hp}(hr:ZD h=true): ∃p,RightH h p:=by
 obtain⟨p,h1,h2,h3⟩:=Lv hr;refine⟨p,h1,h3,h2,?_,?_,?_,?_⟩
 all_goals
  clear h3;unfold Y6 at h1;dsimp only at h1;split at h1
  ·cases h1
  rename_i c1;split at h1
  ·cases h1
  rename_i c2;cases h1
  have c3:(Zp h.low [] false).2=0∧(Zp h.high [] false).2=0:=by
   refine⟨Z9j fun hc=>c1 (.inl hc),Z9j fun hc=>c1 (.inr hc)⟩
  have c4: ∀x:Int,¬x≠0→x=0:=fun x hx=>Z9j hx;have e3:=c4 _ (fun hx=>c2 (.inr (.inr (.inl hx))));have e4:=c4 _ (fun hx=>c2 (.inr (.inr (.inr hx))))
  first|exact Yc (Zb5 rfl c3.1) |exact Yc (Zb5 rfl c3.2) |exact Yc (Zb5 rfl e3) |exact Yc (Zb5 rfl e4)
theorem RightH.tiles{h:Hp}{p:Pts}(r:RightH h p){k:Int}(hk:1≤k∧k≤4):Tiles (Z5 h k) (decide (2<k)) 0 (p.at k):=by
 have:k=1∨k=2∨k=3∨k=4:=by omega
 rcases this with rfl|rfl|rfl|rfl
 ·exact r.low
 ·exact r.high
 ·exact r.old
 ·exact r.far
theorem RightH.lay{h:Hp}{p:Pts}(r:RightH h p):Z8 (layH h)=true:=by
 have:=r.num;unfold numR at this;simp only[Z8u]at this;exact this.1.1.1.1
def refR(l:Ly)(k a:Int):Int:=2*(fstL l k+a)+1
theorem Xi{l:Ly}(hr:Z8 l=true){k a:Int}(ha:0≤a):adr (refR l k a)=(fstL l k+a,0):=by
 have:=Zv hr k;unfold adr refR;rw[if_neg (by omega),if_neg (by omega)];simp only[Z8w,Zcb];omega
theorem U7{l:Ly}(hr:Z8 l=true){k a:Int}(hk:1≤k∧k≤4)(ha:0≤a∧a<sizL l k):ZC l k a=(fstL l k+a,0):=by
 unfold ZC;rw[if_neg (by simp[hr]),if_neg (by omega),if_neg (by omega)]
theorem V8{l:Ly}(hr:Z8 l=true){k a:Int}(hk:1≤k∧k≤4)(ha:0≤a∧a<sizL l k):ZJ l (fstL l k+a)=(k,a,0):=by
 have h:=Zm.1 hr;have ht:=Z1D hr;unfold ZJ inL;rw[if_neg (by simp[hr])];simp only[Z8u,Z8L];have hk4:k=1∨k=2∨k=3∨k=4:=by omega
 rcases hk4 with rfl|rfl|rfl|rfl
 ·rw[if_pos (by omega)];simp;omega
 ·simp only[fstL,sizL]at ha⊢;simp only[show ¬(2:Int)=1 by omega,Z9f,Z9c]at ha⊢;rw[if_neg (by omega),if_pos (by omega)];simp;omega
 ·simp only[fstL,sizL]at ha⊢;simp only[show ¬(3:Int)=1 by omega,show ¬(3:Int)=2 by omega,show ¬(2:Int)=1 by omega,Z9f,Z9c]at ha⊢;rw[if_neg (by omega),if_neg (by omega),if_pos (by omega)];simp;omega
 ·simp only[fstL,sizL]at ha⊢;simp only[show ¬(4:Int)=1 by omega,show ¬(4:Int)=2 by omega,show ¬(4:Int)=3 by omega,show ¬(3:Int)=1 by omega,show ¬(3:Int)=2 by omega,show ¬(2:Int)=1 by omega,Z9f,Z9c]at ha⊢;rw[if_neg (by omega),if_neg (by omega),if_neg (by omega),if_pos (by omega)];simp;omega
end Vm
namespace Vm
open Go Go.Proofs
set_option maxRecDepth 100000
theorem TS{g:Hp}(hr:Z8 (layH g)=true):fwd g 0=(0,g,0):=by simp[fwd,hr]
theorem R1{l:Ly}(hr:Z8 l=true){k a:Int}(ha:0≤a): ¬refR l k a=0:=by
 have:=Zv hr k;unfold refR;omega
theorem fwd_here{g:Hp}(hr:Z8 (layH g)=true){k a:Int}(hk:1≤k∧k≤2)(ha:0≤a∧a< (Z5 g k).length):fwd g (refR (layH g) k a)=(refR (layH g) k a,g,0):=by
 have h1:=R1 hr (k:=k) ha.1;have h2:=Xi hr (k:=k) ha.1;have h3:=V8 hr (k:=k) (a:=a) (by omega) (by rw[Ym (by omega)];exact ha);unfold fwd;simp[hr,h1,h2,h3,show k<3 by omega]
theorem fwd_gone{g:Hp}(hr:Z8 (layH g)=true){k:Int}{a:Nat}(hk:3≤k∧k≤4){u:Int}(hu:(Z5 g k)[a]? =some u)(h0:(adr u).2=0):fwd g (refR (layH g) k a)=(u,g,0):=by
 have hl:a< (Z5 g k).length:=(Z8o.1 hu).1;have h1:=R1 hr (k:=k) (a:=(a:Int)) (by omega);have h2:=Xi hr (k:=k) (a:=(a:Int)) (by omega);have h3:=V8 hr (k:=k) (a:=(a:Int)) (by omega) (by rw[Ym (by omega)];omega);have h4:(Z5 g k).getD a 0=u:=by simp[List.getD,hu]
 unfold fwd;simp[-List.getD_eq_getElem?_getD,hr,h1,h2,h3,show ¬k<3 by omega,h4,h0]
def movH(g:Hp)(k:Int)(a n:Nat):Hp:=YE (Y2 g k a n) k ((zr (Z5 g k) a n).set a (refR (layH g) 1 g.low.length))
theorem Wp{g:Hp}{k:Int}{a n:Nat}(hl:a+n≤(Z5 g k).length):layH (Y2 g k a n)= {layH g with low:=(g.low.length+n:Nat)}:=by
 unfold layH Y2;simp only[Ly.mk.injEq,true_and,Zcb];simp;omega
theorem R7{g:Hp}(hr:Z8 (layH g)=true){k:Int}{a n:Nat}(hl:a+n≤(Z5 g k).length)(hm:(n:Int)≤YZ (layH g)):Z8 (layH (Y2 g k a n))=true:=by
 rw[Wp hl];have h:=Zm.1 hr;have e:YZ (layH g)=(layH g).cap- (layH g).low- (layH g).high:=by unfold YZ;rw[hr];rfl
 have e1:(layH g).low=g.low.length:=rfl;apply Zm.2;simp only;omega
theorem QC{g:Hp}{k:Int}(hk:3≤k∧k≤4){a n:Nat}(hl:a+n≤(Z5 g k).length):layH (movH g k a n)= {layH g with low:=(g.low.length+n:Nat)}:=by
 rw[←Wp hl];unfold movH;apply S7;rw[Z9y,yg];have:k=3∨k=4:=by omega
 rcases this with rfl|rfl<;>rfl
theorem qo{g:Hp}(hr:Z8 (layH g)=true){k:Int}(hk:3≤k∧k≤4){a n:Nat}(hl:a+n≤(Z5 g k).length)(hm:(n:Int)≤YZ (layH g)):Z8 (layH (movH g k a n))=true:=by
 rw[QC hk hl,←Wp hl];exact R7 hr hl hm
theorem Z0s{g:Hp}{k:Int}(hk:3≤k∧k≤4){a n:Nat}(hl:a+n≤(Z5 g k).length)(j b:Int):refR (layH (movH g k a n)) j b=refR (layH g) j b:=by
 rw[QC hk hl];rfl
theorem fwd_wait{g:Hp}(hr:Z8 (layH g)=true){k:Int}{a:Nat}(hk:3≤k∧k≤4){u:Int}(hu:(Z5 g k)[a]? =some u)(h0: ¬(adr u).2=0){n:Nat}{pt:Int}(hun:unpk u=((n:Int),pt,0))
  (hl:a+(n+1)≤(Z5 g k).length) (hm:((n+1:Nat):Int)≤YZ (layH g)):fwd g (refR (layH g) k a)=(refR (layH g) 1 g.low.length,movH g k a (n+1),0):=by
 have h1:=R1 hr (k:=k) (a:=(a:Int)) (by omega);have h2:=Xi hr (k:=k) (a:=(a:Int)) (by omega);have h3:=V8 hr (k:=k) (a:=(a:Int)) (by omega) (by rw[Ym (by omega)];omega);have h4:(Z5 g k).getD a 0=u:=by simp[List.getD,hu]
 have hmr:=R7 hr hl hm
 have h5:ZC (layH (Y2 g k a (n+1))) 1 g.low.length=(fstL (layH g) 1+g.low.length,0):=by
  have:=U7 hmr (k:=1) (a:=(g.low.length:Int)) (by omega) (by rw[Wp hl];simp only[sizL,Z9c];omega);rw[this,Wp hl];rfl
 have hrng:=Zv hmr 1;rw[Wp hl]at hrng;simp only[sizL,Z9c]at hrng;have hf1:fstL {layH g with low:=(g.low.length+(n+1):Nat)} 1=fstL (layH g) 1:=rfl;rw[hf1]at hrng
 have h6:YO (fstL (layH g) 1+g.low.length)=(refR (layH g) 1 g.low.length,0):=by
  unfold YO refR;rw[if_neg (by omega)]
 unfold fwd;have hk3: ¬k<3:=by omega
 simp only[hr,h1,h2,h3,if_neg hk3,Zar,Z9f,ne_eq,Zbc,Z8B,h4,h0,hun];unfold fwdC;rw[if_neg (by omega),if_neg (by omega)];simp only[h5,h6];rfl
theorem Z3o{ws:List Int}{a:Nat}: ∀(n j:Nat),j<a∨a+n≤j→(zr ws a n)[j]? =ws[j]?
 |0,_,_=>rfl
 |n+1,j,h=>by
  unfold zr;rw[Z96 (by omega)];exact Z3o n j (by omega)
theorem K8{g:Hp}{k:Int}(hk:3≤k∧k≤4){a n:Nat}(hn:0<n){j:Int}(hj:3≤j∧j≤4){b:Nat}(hb:j≠k∨b<a∨a+n≤b):(Z5 (movH g k a n) j)[b]? =(Z5 g j)[b]? :=by
 have hk':k=3∨k=4:=by omega
 have hj':j=3∨j=4:=by omega
 rcases hk' with rfl|rfl<;>rcases hj' with rfl|rfl<;>simp only[movH,Y2,Z4D,Z54,zj,yi]
 ·rw[Z96 (by omega)];exact Z3o _ _ (by omega)
 ·rw[Z96 (by omega)];exact Z3o _ _ (by omega)
theorem QF{g:Hp}{k:Int}(hk:3≤k∧k≤4){a n:Nat}{j:Int}(hj:3≤j∧j≤4):(Z5 (movH g k a n) j).length=(Z5 g j).length:=by
 have hk':k=3∨k=4:=by omega
 have hj':j=3∨j=4:=by omega
 rcases hk' with rfl|rfl<;>rcases hj' with rfl|rfl<;>simp[movH,Y2]
theorem Z2v{g:Hp}{k:Int}(hk:3≤k∧k≤4){a n:Nat}(hl:a+n≤(Z5 g k).length):(movH g k a n).low.length=g.low.length+n∧(movH g k a n).high=g.high:=by
 have hk':k=3∨k=4:=by omega
 rcases hk' with rfl|rfl<;>simp only[zj,yi]at hl<;>simp[movH,Y2]<;>omega
end Vm
namespace Vm
open Go Go.Proofs
set_option maxRecDepth 100000
theorem U3{h:Hp}{ws:List Int}{low:List Ob}: ∀(f i:Nat) (acc l:List (Int×Int)),Yn h ws low f i acc=some l→ ∃r,l=acc++r
 |0,_,_,_,he=>by simp[Yn]at he
 |f+1,i,acc,l,he=>by
  unfold Yn at he;split at he
  ·cases he;exact⟨[],by simp⟩
  ·split at he
   ·split at he
    ·cases he
    ·obtain⟨r,hr⟩:=U3 f _ _ _ he;exact⟨_,by rw[hr,Z92]⟩
   ·split at he
    ·exact U3 f _ _ _ he
    ·cases he
theorem WB{h:Hp}{ws:List Int}{low:List Ob}: ∀(f i:Nat) (acc shs:List (Int×Int)),Yn h ws low f i acc=some shs→ ∀(f':Nat) (acc' l:List Ob),YN ws shs true f' i acc.length acc'=(l,0)→
  ∃r,l=acc'++r∧ ∀o∈r,o.gone=true→ ∃q,atR h 1 low o.target=some q∧q.size=o.size∧q.ptrs=o.ptrs
 |0,_,_,_,he=>by simp[Yn]at he
 |f+1,i,acc,shs,he=>by
  intro f' acc' l hw;cases f' with
  |zero=>simp[YN]at hw
  |succ f'=>
   unfold Yn at he;unfold YN at hw;cases hwi:ws[i]? with
   |none=>
    simp only[hwi]at hw;split at hw
    ·simp at hw
    ·simp only[Z8w,Zcb]at hw;exact⟨[],by simp[hw],by simp⟩
   |some w=>
    simp only[hwi]at he hw;by_cases ha:(adr w).2=0
    ·simp only[ha,Z9c]at he;cases hq:atR h 1 low (adr w).1 with
     |none=>simp only[hq]at he;cases he
     |some q=>
      simp only[hq]at he;obtain⟨r,hr⟩:=U3 _ _ _ _ he;have hs:shs[acc.length]? =some (q.size,q.ptrs):=by rw[hr];simp
      unfold objR at hw;rw[if_pos ⟨rfl,ha⟩]at hw;simp only[hs]at hw;by_cases hsh:Zo q.size q.ptrs=true
      ·rw[if_pos hsh]at hw;simp only at hw;split at hw
       ·simp at hw
       split at hw
       ·simp at hw
       have hlen:acc.length+1=(acc++ [(q.size,q.ptrs)]).length:=by simp
       rw[hlen]at hw;obtain⟨r',h1,h2⟩:=WB f _ _ _ he _ _ _ hw;refine⟨_::r',by rw[h1,Z92];rfl,?_⟩;intro o ho hg;rcases Z8V.1 ho with rfl|ho
       ·exact⟨q,hq,rfl,rfl⟩
       ·exact h2 o ho hg
      ·rw[if_neg hsh]at hw;simp at hw
    ·simp only[ha,Z9f]at he;by_cases hu:(unpk w).2.2=0
     ·simp only[hu,Z9c]at he;unfold objR at hw;rw[if_neg (fun hc=>ha hc.2),if_pos hu]at hw;simp only at hw;split at hw
      ·simp at hw
      split at hw
      ·simp at hw
      obtain⟨r',h1,h2⟩:=WB f _ _ _ he _ _ _ hw;refine⟨_::r',by rw[h1,Z92];rfl,?_⟩;intro o ho hg;rcases Z8V.1 ho with rfl|ho
      ·simp at hg
      ·exact h2 o ho hg
     ·simp only[hu,Z9f]at he;cases he
theorem RightH.gone_low{h:Hp}{p:Pts}(r:RightH h p){k:Int}(hk:3≤k∧k≤4){o:Ob}(ho:o∈p.at k)(hg:o.gone=true): ∃q∈p.low,ZE h 1 q.at_=o.target∧q.size=o.size∧q.ptrs=o.ptrs:=by
 have h1:=r.parts;unfold Y6 at h1;dsimp only at h1;split at h1
 ·cases h1
 split at h1
 ·cases h1
 rename_i c2
 have aux: ∀(ws:List Int) (x:Option (List (Int×Int))),x=Yx h ws (Zp h.low [] false).1→ ¬x=none→(Zp ws (x.getD []) true).2=0→o∈(Zp ws (x.getD []) true).1→
   ∃q∈(Zp h.low [] false).1,ZE h 1 q.at_=o.target∧q.size=o.size∧q.ptrs=o.ptrs:=by
  intro ws x hx hn h0 ho;cases x with
  |none=>exact(hn rfl).elim
  |some shs=>
   simp only[Z91]at h0 ho;obtain⟨r',e1,e2⟩:=WB _ _ _ _ hx.symm (ws.length+1) [] (Zp ws shs true).1 (Zb5 rfl h0);simp only[Z9d]at e1;rw[e1]at ho;obtain⟨q,hq,hs⟩:=e2 o ho hg;have:=ZaM hq;exact⟨q,Z2D hq,by simpa using this,hs⟩
 have e3: ¬Yx h h.old (Zp h.low [] false).1=none:=fun e=>c2 (.inl e);have e4: ¬Yx h h.far (Zp h.low [] false).1=none:=fun e=>c2 (.inr (.inl e));have e5:(Zp h.old ((Yx h h.old (Zp h.low [] false).1).getD []) true).2=0:=Z9j fun e=>c2 (.inr (.inr (.inl e)));have e6:(Zp h.far ((Yx h h.far (Zp h.low [] false).1).getD []) true).2=0:=Z9j fun e=>c2 (.inr (.inr (.inr e)));cases h1;have:k=3∨k=4:=by omega
 rcases this with rfl|rfl
 ·exact aux _ _ rfl e3 e5 (by simpa using ho)
 ·exact aux _ _ rfl e4 e6 (by simpa using ho)
theorem ju{l:List Ob}{o:Ob}(h:o∈l):wtO o≤wtL l:=by
 unfold wtL
 induction l with
 |nil=>simp at h
 |cons x l ih=>
  simp only[Z8Q,ZbO];rcases Z8V.1 h with rfl|h
  ·omega
  ·have:=ih h;omega
theorem Z0k{p:Pts}{k:Int}(hk:3≤k∧k≤4){o:Ob}(h:o∈p.at k):wtO o≤Yi p:=by
 have:k=3∨k=4:=by omega
 unfold Yi;rcases this with rfl|rfl
 ·have:=ju (l:=p.old) h;omega
 ·have:=ju (l:=p.far) h;omega
theorem Z2n{l:Ly}(hr:Z8 l=true){k j a b:Int}(hk:1≤k∧k≤4)(hj:1≤j∧j≤4)(ha:0≤a∧a<sizL l k)(hb:0≤b∧b<sizL l j)(h:refR l k a=refR l j b):k=j∧a=b:=by
 have h1:=V8 hr hk ha;have h2:=V8 hr hj hb;have:fstL l k+a=fstL l j+b:=by unfold refR at h;omega
 rw[this,h2]at h1;simp only[Z8w,Zcb]at h1;omega
theorem ja{u a:Int}(h0:(adr u).2=0)(h:(adr u).1=a):u=2*a+1:=by
 unfold adr at h0 h;by_cases c1:u=0
 ·simp[c1]at h0
 rw[if_neg c1]at h0 h;by_cases c2:u%2=0∨u=1
 ·rw[if_pos c2]at h0;simp at h0
 rw[if_neg c2]at h;simp only at h;omega
theorem zH{u:Int}(h:(unpk u).2.2=0): ¬(adr u).2=0:=by
 unfold unpk at h;split at h
 ·rename_i hc;unfold adr;split
  ·simp
  rw[if_pos (.inl hc.1)];simp
 ·simp at h
end Vm
namespace Vm
open Go Go.Proofs
set_option maxRecDepth 100000
end Vm
end
section
namespace Vm
open Go Go.Proofs
set_option maxRecDepth 100000
theorem Tiles.order{ws:List Int}{old:Bool}: ∀ {a:Nat} {l:List Ob},Tiles ws old a l→l.Pairwise fun x y=>x.at_<y.at_
 |_,[],_=> .nil
 |a,o::l,h=>by
  have hs:=Z4.1 h.2.1.shape;refine .cons (fun x hx=> ?_) (Tiles.order h.2.2);have:=(Tiles.stands h.2.2 x hx).2;have:=h.1;omega
theorem QZ{h:Hp}(hr:Z8 (layH h)=true){k:Int}(hk:1≤k∧k≤4){old:Bool}{o:Ob}(hs:Stands (Z5 h k) old o):ZE h k o.at_=fstL (layH h) k+o.at_:=by
 have:=Z4.1 hs.shape;have:=hs.fits;have:=hs.nat;unfold ZE;rw[U7 hr hk ⟨by omega,by rw[Ym hk];omega⟩]
theorem qw{h:Hp}(hr:Z8 (layH h)=true){k:Int}(hk:1≤k∧k≤4){old:Bool}{o:Ob}(hs:Stands (Z5 h k) old o):ZJ (layH h) (ZE h k o.at_)=(k,o.at_,0):=by
 have:=Z4.1 hs.shape;have:=hs.fits;have:=hs.nat;rw[QZ hr hk hs];exact V8 hr hk ⟨by omega,by rw[Ym hk];omega⟩
theorem Tiles.starts{h:Hp}(hr:Z8 (layH h)=true){k:Int}(hk:1≤k∧k≤4){old:Bool}{l:List Ob}(ht:Tiles (Z5 h k) old 0 l):l.Pairwise fun x y=>ZE h k x.at_≠ZE h k y.at_:=by
 refine List.Pairwise.imp_of_mem ?_ ht.order;intro x y hx hy hlt;rw[QZ hr hk (ht.stands x hx).1,QZ hr hk (ht.stands y hy).1];omega
theorem Jo{h:Hp}{a:Int}: ∀ {l:List Ob} {m:List (Int×(Int×Int))},(l.Pairwise fun x y=>ZE h 1 x.at_≠ZE h 1 y.at_)→getA (ZU h 1 m l) a=match atR h 1 l a with
  |some o=>some (o.size,o.ptrs)
  |none=>getA m a
 | [],m,_=>rfl
 |o::l,m,hp=>by
  obtain⟨h1,h2⟩:=ZbE.1 hp;rw[ZU,Jo h2];unfold atR;rw[Zbt];cases hf:l.find? (fun o=>ZE h 1 o.at_==a)with
  |some q=>
   have hq:=Za5 hf;have he:ZE h 1 q.at_=a:=by have:=ZaM hf;simpa using this
   have hne:(ZE h 1 o.at_==a)=false:=by
    have:=h1 q hq;simp only[Zal];omega
   rw[hne]
  |none=>
   simp only[Z9c,QM];by_cases he:ZE h 1 o.at_=a
   ·have he':(ZC (layH h) 1 o.at_).1=a:=he;simp[he,he']
   ·have he': ¬(ZC (layH h) 1 o.at_).1=a:=he;have:(ZE h 1 o.at_==a)=false:=by simpa using he
    simp[this,he']
theorem Vb{h:Hp}{k:Int}(hk: ¬k=1): ∀ {l:List Ob} {m:List (Int×(Int×Int))},ZU h k m l=m
 | [],m=>rfl
 |o::l,m=>by rw[ZU,if_neg hk];exact Vb hk
theorem Vi{h:Hp}{k a:Int}: ∀ {l:List Ob} {m:List (Int×Int)},getA (YA h k m l) a=if(atR h k l a).isSome=true then some k else getA m a
 | [],m=>rfl
 |o::l,m=>by
  rw[YA,Vi];unfold atR;rw[Zbt,QM];by_cases he:ZE h k o.at_=a
  ·have he':(ZC (layH h) k o.at_).1=a:=he;have:(ZE h k o.at_==a)=true:=by simpa using he
   simp[this,he']
  ·have he': ¬(ZC (layH h) k o.at_).1=a:=he;have:(ZE h k o.at_==a)=false:=by simpa using he
   simp[this,he']
theorem U4{lm:List (Int×(Int×Int))}{ws:List Int}: ∀(f i:Nat) (acc:List (Int×Int)),∃r,Yb lm ws f i acc=acc++r
 |0,_,acc=>⟨[],by simp[Yb]⟩
 |f+1,i,acc=>by
  rw[Yb];cases ws[i]? with
  |none=>exact⟨[],by simp⟩
  |some w=>
   simp only;split
   ·split
    ·exact⟨[],by simp⟩
    ·obtain⟨r,hr⟩:=U4 (lm:=lm) (ws:=ws) f _ _;exact⟨_,by rw[hr,Z92]⟩
   ·split
    ·exact U4 f _ _
    ·exact⟨[],by simp⟩
theorem Vs{lm:List (Int×(Int×Int))}{h:Hp}{low:List Ob}(hlm: ∀a,getA lm a=(atR h 1 low a).map fun o=>(o.size,o.ptrs)){ws:List Int}: ∀(f i:Nat) (acc shs:List (Int×Int)),Yn h ws low f i acc=some shs→Yb lm ws f i acc=shs
 |0,_,_,_,he=>by simp[Yn]at he
 |f+1,i,acc,shs,he=>by
  rw[Yn]at he;rw[Yb];cases hw:ws[i]? with
  |none=>rw[hw]at he;simpa using he
  |some w=>
   rw[hw]at he;simp only at he⊢;by_cases ha:(adr w).2=0
   ·rw[if_pos ha]at he⊢;rw[hlm];cases hq:atR h 1 low (adr w).1 with
    |none=>rw[hq]at he;cases he
    |some o=>rw[hq]at he;exact Vs hlm _ _ _ _ he
   ·rw[if_neg ha]at he⊢;by_cases hu:(unpk w).2.2=0
    ·rw[if_pos hu]at he⊢;exact Vs hlm _ _ _ _ he
    ·rw[if_neg hu]at he;cases he
theorem XT{lm:List (Int×(Int×Int))}{h:Hp}{low:List Ob}(hlm: ∀a,getA lm a=(atR h 1 low a).map fun o=>(o.size,o.ptrs)){ws:List Int}: ∀(f i:Nat) (acc:List (Int×Int)),0<f→ws.length<f+i→Yn h ws low f i acc=none→
  ∀(f':Nat) (acc':List Ob),(YN ws (Yb lm ws f i acc) true f' i acc.length acc').2≠0
 |0,_,_,h0,_,_=>by omega
 |f+1,i,acc,h0,hf,he=>by
  intro f' acc';cases f' with
  |zero=>simp[YN]
  |succ f'=>
   rw[Yn]at he;rw[Yb,YN];cases hw:ws[i]? with
   |none=>rw[hw]at he;cases he
   |some w=>
    have hlt:=(Z8o.1 hw).1;rw[hw]at he;simp only at he⊢;by_cases ha:(adr w).2=0
    ·rw[if_pos ha]at he⊢;rw[hlm];cases hq:atR h 1 low (adr w).1 with
     |none=>
      simp only[Zbo]
      have:objR acc true i acc.length w=none:=by
       unfold objR;rw[if_pos ⟨rfl,ha⟩];simp
      rw[this];simp
     |some o=>
      rw[hq]at he;simp only[Z9w]at he⊢;obtain⟨r,hr⟩:=U4 (lm:=lm) (ws:=ws) f (i+1+o.size.toNat) (acc++ [(o.size,o.ptrs)]);have ih:=XT hlm f (i+1+o.size.toNat) (acc++ [(o.size,o.ptrs)]) (by omega) (by omega) he f';generalize Yb lm ws f (i+1+o.size.toNat) (acc++ [(o.size,o.ptrs)])=shs at*;have hs:shs[acc.length]? =some (o.size,o.ptrs):=by rw[hr];simp
      unfold objR;rw[if_pos ⟨rfl,ha⟩,hs];simp only;by_cases hsh:Zo o.size o.ptrs=true
      ·rw[if_pos hsh];simp only;split
       ·simp
       split
       ·simp
       simpa using ih _
      ·rw[if_neg hsh];simp
    ·rw[if_neg ha]at he⊢;by_cases hu:(unpk w).2.2=0
     ·rw[if_pos hu]at he⊢;have ih:=XT hlm f (i+1+(unpk w).1.toNat) acc (by omega) (by omega) he f';generalize Yb lm ws f (i+1+(unpk w).1.toNat) acc=shs at*;unfold objR;rw[if_neg (fun hc=>ha hc.2),if_pos hu];simp only;split
      ·simp
      split
      ·simp
      exact ih _
     ·rw[if_neg hu]
      have:objR acc true i acc.length w=none:=by
       unfold objR;rw[if_neg (fun hc=>ha hc.2),if_neg hu]
      rw[this];simp
structure Found (h:Hp) (s:Ck) (p:Pts):Prop where
 hp:s.h=h
 o1:s.o1=p.low
 o2:s.o2=p.high
 o3:s.o3=p.old
 o4:s.o4=p.far
 pm:s.pm=YA h 4 (YA h 3 (YA h 2 (YA h 1 [] p.low) p.high) p.old) p.far
theorem JB{h:Hp}(hr:Z8 (layH h)=true):match Y6 h with
  |some p=>(ZT (ZS h)).1=true∧Found h (ZT (ZS h)).2 p
  |none=>(ZT (ZS h)).1=false:=by
 unfold ZT Y6;dsimp only;have s1:Zs (ZS h) 1=Zp h.low [] false:=rfl;rw[Yg,s1];by_cases e1:(Zp h.low [] false).2=0
 case neg=>rw[if_neg e1,if_pos (.inl e1)]
 rw[if_pos e1];have hT:Tiles h.low false 0 (Zp h.low [] false).1:=Yc (ws:=h.low) (shs:= []) (Zb5 rfl e1);generalize (Zp h.low [] false).1=l1 at*;have s2:Zs (Xm (ZS h) 1 l1) 2=Zp h.high [] false:=rfl;rw[Yg,s2];by_cases e2:(Zp h.high [] false).2=0
 case neg=>rw[if_neg e2,if_pos (.inr e2)]
 rw[if_pos e2,if_neg (by simp[e1,e2])];generalize (Zp h.high [] false).1=l2 at*
 have hlm: ∀a,getA (ZU h 1 [] l1) a=(atR h 1 l1 a).map fun o=>(o.size,o.ptrs):=by
  intro a;rw[Jo (Tiles.starts hr (k:=1) (by omega) (by simpa using hT))];cases atR h 1 l1 a<;>rfl
 have hlm2:(Xm (Xm (ZS h) 1 l1) 2 l2).lm=ZU h 1 [] l1:=Vb (by omega)
 have s3:Zs (Xm (Xm (ZS h) 1 l1) 2 l2) 3=Zp h.old (YK (ZU h 1 [] l1) h.old) true:=by
  rw[←hlm2];rfl
 rw[Yg,s3];cases hp:Yx h h.old l1 with
 |none=>
  have:=XT hlm (h.old.length+1) 0 [] (by omega) (by omega) hp (h.old.length+1) [];have e3: ¬(Zp h.old (YK (ZU h 1 [] l1) h.old) true).2=0:=this;rw[if_neg e3,if_pos (.inl rfl)]
 |some shs=>
 have hs3:YK (ZU h 1 [] l1) h.old=shs:=Vs hlm _ _ _ _ hp;rw[hs3];simp only[Z91];by_cases e3:(Zp h.old shs true).2=0
 case neg=>rw[if_neg e3,if_pos (.inr (.inr (.inl e3)))]
 rw[if_pos e3];generalize (Zp h.old shs true).1=l3 at*
 have hlm3:(Xm (Xm (Xm (ZS h) 1 l1) 2 l2) 3 l3).lm=ZU h 1 [] l1:=by
  rw[←hlm2];exact Vb (by omega)
 have s4:Zs (Xm (Xm (Xm (ZS h) 1 l1) 2 l2) 3 l3) 4=Zp h.far (YK (ZU h 1 [] l1) h.far) true:=by
  rw[←hlm3];rfl
 rw[Yg,s4];cases hq:Yx h h.far l1 with
 |none=>
  have:=XT hlm (h.far.length+1) 0 [] (by omega) (by omega) hq (h.far.length+1) [];have e4: ¬(Zp h.far (YK (ZU h 1 [] l1) h.far) true).2=0:=this;rw[if_neg e4,if_pos (.inr (.inl rfl))]
 |some shs'=>
 have hs4:YK (ZU h 1 [] l1) h.far=shs':=Vs hlm _ _ _ _ hq;rw[hs4];simp only[Z91];by_cases e4:(Zp h.far shs' true).2=0
 case neg=>rw[if_neg e4,if_pos (.inr (.inr (.inr e4)))]
 rw[if_pos e4,if_neg (by simp[e3,e4])];generalize (Zp h.far shs' true).1=l4 at*;exact⟨rfl,rfl,rfl,rfl,rfl,rfl,rfl⟩
end Vm
namespace Vm
open Go Go.Proofs
set_option maxRecDepth 100000
theorem U5{h:Hp}{p:Pts}(h1:Y6 h=some p){k:Int}(hk:1≤k∧k≤4):Tiles (Z5 h k) (decide (2<k)) 0 (p.at k):=by
 have:k=1∨k=2∨k=3∨k=4:=by omega
 unfold Y6 at h1;dsimp only at h1;split at h1
 ·cases h1
 rename_i c1;split at h1
 ·cases h1
 rename_i c2;cases h1
 have c3:(Zp h.low [] false).2=0∧(Zp h.high [] false).2=0:=by
  refine⟨Z9j fun hc=>c1 (.inl hc),Z9j fun hc=>c1 (.inr hc)⟩
 have c4: ∀x:Int,¬x≠0→x=0:=fun x hx=>Z9j hx;have e3:=c4 _ (fun hx=>c2 (.inr (.inr (.inl hx))));have e4:=c4 _ (fun hx=>c2 (.inr (.inr (.inr hx))));rcases this with rfl|rfl|rfl|rfl
 ·exact Yc (Zb5 rfl c3.1)
 ·exact Yc (Zb5 rfl c3.2)
 ·exact Yc (Zb5 rfl e3)
 ·exact Yc (Zb5 rfl e4)
theorem Ro{h:Hp}{p:Pts}(h1:Y6 h=some p){k:Int}(hk:3≤k∧k≤4){o:Ob}(ho:o∈p.at k)(hg:o.gone=true): ∃q∈p.low,ZE h 1 q.at_=o.target∧q.size=o.size∧q.ptrs=o.ptrs:=by
 unfold Y6 at h1;dsimp only at h1;split at h1
 ·cases h1
 split at h1
 ·cases h1
 rename_i c2
 have aux: ∀(ws:List Int) (x:Option (List (Int×Int))),x=Yx h ws (Zp h.low [] false).1→ ¬x=none→(Zp ws (x.getD []) true).2=0→o∈(Zp ws (x.getD []) true).1→
   ∃q∈(Zp h.low [] false).1,ZE h 1 q.at_=o.target∧q.size=o.size∧q.ptrs=o.ptrs:=by
  intro ws x hx hn h0 ho;cases x with
  |none=>exact(hn rfl).elim
  |some shs=>
   simp only[Z91]at h0 ho;obtain⟨r',e1,e2⟩:=WB _ _ _ _ hx.symm (ws.length+1) [] (Zp ws shs true).1 (Zb5 rfl h0);simp only[Z9d]at e1;rw[e1]at ho;obtain⟨q,hq,hs⟩:=e2 o ho hg;have:=ZaM hq;exact⟨q,Z2D hq,by simpa using this,hs⟩
 have e3: ¬Yx h h.old (Zp h.low [] false).1=none:=fun e=>c2 (.inl e);have e4: ¬Yx h h.far (Zp h.low [] false).1=none:=fun e=>c2 (.inr (.inl e));have e5:(Zp h.old ((Yx h h.old (Zp h.low [] false).1).getD []) true).2=0:=Z9j fun e=>c2 (.inr (.inr (.inl e)));have e6:(Zp h.far ((Yx h h.far (Zp h.low [] false).1).getD []) true).2=0:=Z9j fun e=>c2 (.inr (.inr (.inr e)));cases h1;have:k=3∨k=4:=by omega
 rcases this with rfl|rfl
 ·exact aux _ _ rfl e3 e5 (by simpa using ho)
 ·exact aux _ _ rfl e4 e6 (by simpa using ho)
theorem Z0O{h:Hp}(hr:Z8 (layH h)=true){p:Pts}(hp:Y6 h=some p){k:Int}(hk:1≤k∧k≤4){a:Int}(hi:(atR h k (p.at k) a).isSome=true): ∃b,ZJ (layH h) a=(k,b,0):=by
 obtain⟨o,ho⟩:=Z9E.1 hi;have h1:=Za5 ho;have h2:ZE h k o.at_=a:=by have:=ZaM ho;simpa using this
 rw[←h2];exact⟨_,qw hr hk ((U5 hp hk).stands o h1).1⟩
theorem Z2F{h:Hp}(hr:Z8 (layH h)=true){p:Pts}(hp:Y6 h=some p){k j:Int}(hk:1≤k∧k≤4)(hj:1≤j∧j≤4)(hn:k≠j){a:Int}(hi:(atR h k (p.at k) a).isSome=true):(atR h j (p.at j) a).isSome=false:=by
 cases hx:(atR h j (p.at j) a).isSome with
 |false=>rfl
 |true=>
  obtain⟨b,hb⟩:=Z0O hr hp hk hi;obtain⟨c,hc⟩:=Z0O hr hp hj hx;rw[hb]at hc;simp only[Z8w]at hc;exact(hn hc.1).elim
section
variable {h:Hp} {s:Ck} {p:Pts}
theorem Found.obs(hf:Found h s p){k:Int}:s.obs k=p.at k:=by
 unfold Ck.obs Pts.at;rw[hf.o1,hf.o2,hf.o3,hf.o4]
theorem Found.pm_at(hf:Found h s p)(a:Int):getA s.pm a=if(atR h 4 (p.at 4) a).isSome=true then some 4 else if(atR h 3 (p.at 3) a).isSome=true then some 3 else if(atR h 2 (p.at 2) a).isSome=true then some 2 else if(atR h 1 (p.at 1) a).isSome=true then some 1 else none:=by
 rw[hf.pm,Vi,Vi,Vi,Vi];rfl
theorem Found.points(hf:Found h s p)(hr:Z8 (layH h)=true)(hp:Y6 h=some p)(w:Int):Zr s w 1 2=YP h p w 1 2∧Zr s w 3 4=YP h p w 3 4∧Zr s w 1 4=(YP h p w 1 2||YP h p w 3 4):=by
 unfold Zr YP;by_cases h0:w=0
 ·simp[h0]
 by_cases h1:(adr w).2=0
 case neg=>simp[h0,h1]
 simp only[h0,h1,ZaL,Zbe,Zaf,Zaz];rw[hf.pm_at];generalize (adr w).1=a;have o:=fun k j hk hj hn=>Z2F (k:=k) (j:=j) hr hp hk hj hn (a:=a);have o43:=o 4 3 (by omega) (by omega) (by omega);have o42:=o 4 2 (by omega) (by omega) (by omega);have o41:=o 4 1 (by omega) (by omega) (by omega);have o32:=o 3 2 (by omega) (by omega) (by omega);have o31:=o 3 1 (by omega) (by omega) (by omega);have o21:=o 2 1 (by omega) (by omega) (by omega);clear o;generalize (atR h 1 (p.at 1) a).isSome=b1 at*;generalize (atR h 2 (p.at 2) a).isSome=b2 at*;generalize (atR h 3 (p.at 3) a).isSome=b3 at*;generalize (atR h 4 (p.at 4) a).isSome=b4 at*;cases b1<;>cases b2<;>cases b3<;>cases b4<;>simp_all
end
end Vm
namespace Vm
open Go Go.Proofs
set_option maxRecDepth 100000
def tgS(l:List Ob):List Int:=(l.filter (·.gone)).map (·.target)
theorem Z1q{α:Type}{l:List (Int×α)}{k:Int}{x:α}(h:getA l k=none):(putA l k x).length=l.length+1:=by
 unfold getA at h;rw[ZbV]at h
 have:l.findIdx? (·.1==k)=none:=by
  rw[ZbI];intro y hy;have:=Zbx.1 h y hy;simpa using this
 unfold putA;rw[this];simp
theorem Up{pm:List (Int×Int)}: ∀ {l:List Ob} {m:List (Int×Bool)} {K:List Int},K.Nodup→(∀a,getA m a=if a∈K then some true else none)→m.length=K.length→
  match copQ pm l m with
  |some m'=>(∀t∈tgS l,(getA pm t).getD 0=1)∧(K++tgS l).Nodup∧m'.length=(K++tgS l).length∧ ∀a,getA m' a=if a∈K++tgS l then some true else none
  |none=> ¬((∀t∈tgS l,(getA pm t).getD 0=1)∧(K++tgS l).Nodup)
 | [],m,K,hK,hm,hl=>by simp only[copQ,tgS,List.filter_nil,Z9I,Z9t];exact⟨by simp,hK,hl,hm⟩
 |o::l,m,K,hK,hm,hl=>by
  rw[copQ];cases hg:o.gone with
  |false=>
   rw[if_neg (by simp)];have:tgS (o::l)=tgS l:=by simp[tgS,hg]
   rw[this];exact Up hK hm hl
  |true=>
   rw[if_pos rfl];have ht:tgS (o::l)=o.target::tgS l:=by simp[tgS,hg]
   rw[ht];by_cases h1:(getA pm o.target).getD 0=1
   ·by_cases h2:o.target∈K
    ·rw[if_neg (by rw[hm,if_pos h2];simp)];rintro⟨_,hn⟩;exact(Zbd.1 hn).2.2 _ h2 _ (Zb4 ..) rfl
    ·have hno:getA m o.target=none:=by rw[hm,if_neg h2]
     rw[if_pos ⟨h1,by rw[hno];rfl⟩]
     have ih:=Up (pm:=pm) (l:=l) (m:=putA m o.target true) (K:=K++ [o.target]) (by
       rw[Zbd];refine⟨hK,by simp,fun a ha b hb=> ?_⟩;simp at hb;subst hb;intro e;subst e;exact h2 ha) (fun a=>by
       rw[QM,hm];by_cases e:o.target=a
       ·simp[e]
       ·have e': ¬a=o.target:=fun x=>e x.symm;simp[e,e']) (by rw[Z1q hno,hl];simp)
     rw[Z92,List.singleton_append]at ih;cases hc:copQ pm l (putA m o.target true)with
     |none=>
      rw[hc]at ih;rintro⟨q1,q2⟩;exact ih ⟨fun t ht=>q1 t (Z9h _ ht),q2⟩
     |some m'=>
      rw[hc]at ih;refine⟨fun t ht=> ?_,ih.2⟩;rcases Z8V.1 ht with rfl|ht
      ·exact h1
      ·exact ih.1 t ht
   ·rw[if_neg (fun hc=>h1 hc.1)];rintro⟨q1,_⟩;exact h1 (q1 _ (Zb4 ..))
theorem KF{l:List Ob}{a:Int}:tgL l a=(tgS l).count a:=by
 unfold tgL tgS
 induction l with
 |nil=>rfl
 |cons o l ih=>
  cases hg:o.gone
  ·simpa[hg]using ih
  ·by_cases ht:o.target=a
   ·simp only[ZaY,hg,ht];simpa[ht]using ih
   ·have: ¬(o.target==a)=true:=by simpa using ht
    simp only[ZaY,hg,ht];simpa[List.count_cons,ht]using ih
theorem Z2u{T S:List Int}(hS:S.Nodup)(hTS:T⊆S):(T.Nodup∧T.length=S.length)↔ ∀a∈S,T.count a=1:=by
 constructor
 ·rintro⟨hT,hl⟩ a ha;rw[hT.count];by_cases hm:a∈T
  ·rw[if_pos hm]
  ·have h1:T⊆S.erase a:=fun x hx=>(hS.mem_erase_iff).2 ⟨fun e=>hm (e▸hx),hTS hx⟩;have h2:=hT.length_le_of_subset h1;rw[List.length_erase_of_mem ha]at h2;have:=List.length_pos_of_mem ha;omega
 ·intro h
  have hT:T.Nodup:=List.nodup_iff_count.2 fun a=>by
   by_cases hm:a∈T
   ·rw[h a (hTS hm)];omega
   ·rw[List.count_eq_zero_of_not_mem hm];omega
  refine⟨hT,Nat.le_antisymm (hT.length_le_of_subset hTS) (hS.length_le_of_subset fun a ha=> ?_)⟩;exact List.count_pos_iff.1 (by rw[h a ha];omega)
section
variable {h:Hp} {s:Ck} {p:Pts}
theorem Found.copied(hf:Found h s p)(hr:Z8 (layH h)=true)(hp:Y6 h=some p):XY s=(!h.cycle||p.low.all (tgOk h p)):=by
 have hT:=U5 hp (k:=1) (by omega)
 have hS:(p.low.map fun o=>ZE h 1 o.at_).Nodup:=by
  have:=Tiles.starts hr (k:=1) (by omega) hT;rw[List.nodup_iff_pairwise_ne,List.pairwise_map];exact this
 have hin: ∀t∈tgS s.o3++tgS s.o4,t∈p.low.map fun o=>ZE h 1 o.at_:=by
  intro t ht
  have: ∃k,(3≤k∧k≤4)∧t∈tgS (p.at k):=by
   rcases Z90.1 ht with ht|ht
   ·exact⟨3,by omega,by rw[hf.o3]at ht;exact ht⟩
   ·exact⟨4,by omega,by rw[hf.o4]at ht;exact ht⟩
  obtain⟨k,hk,ht⟩:=this;simp only[tgS,Z8S,Zb3]at ht;obtain⟨o,⟨ho,hg⟩,rfl⟩:=ht;obtain⟨q,hq,he,_⟩:=Ro hp hk ho hg;exact Z8S.2 ⟨q,hq,he⟩
 have hpm: ∀t∈tgS s.o3++tgS s.o4,(getA s.pm t).getD 0=1:=by
  intro t ht;obtain⟨q,hq,he⟩:=Z8S.1 (hin t ht)
  have h1:(atR h 1 (p.at 1) t).isSome=true:=by
   unfold atR;rw[List.find?_isSome];exact⟨q,hq,by simpa using he⟩
  have o:=fun k hk hn=>Z2F (k:=1) (j:=k) hr hp (by omega) hk hn h1;rw[hf.pm_at,o 4 (by omega) (by omega),o 3 (by omega) (by omega),o 2 (by omega) (by omega),h1];rfl
 unfold XY;rw[hf.hp];cases hc:h.cycle
 ·rfl
 simp only[Zbk,Zaf];have key:=Z2u hS (T:=tgS s.o3++tgS s.o4) hin
 have hall:p.low.all (tgOk h p)=true↔ ∀a∈(p.low.map fun o=>ZE h 1 o.at_),(tgS s.o3++tgS s.o4).count a=1:=by
  rw[Z8A];constructor
  ·intro hx a ha;obtain⟨o,ho,rfl⟩:=Z8S.1 ha;have:=hx o ho;simp only[tgOk,Z8L,Sh,KF]at this;rw[List.count_append,hf.o3,hf.o4];exact this
  ·intro hx o ho;have:=hx _ (Z8S.2 ⟨o,ho,rfl⟩);rw[List.count_append,hf.o3,hf.o4]at this;simp only[tgOk,Z8L,Sh,KF];exact this
 rw[Z8P]at key;have c1:=Up (pm:=s.pm) (l:=s.o3) (m:= []) (K:= []) (by simp) (by simp[getA]) rfl;simp only[Z9d]at c1;rw[Zc6,hall,←key];cases h1:copQ s.pm s.o3 []with
 |none=>
  rw[h1]at c1;simp only[Option.bind_none];constructor
  ·intro hx;cases hx
  ·rintro⟨hn,_⟩;exact(c1 ⟨fun t ht=>hpm t (Z9A _ ht),(Zbd.1 hn).1⟩).elim
 |some m=>
  rw[h1]at c1;obtain⟨q1,q2,q3,q4⟩:=c1;simp only[Z8y];have c2:=Up (pm:=s.pm) (l:=s.o4) (m:=m) (K:=tgS s.o3) q2 q4 q3;cases h2:copQ s.pm s.o4 m with
  |none=>
   rw[h2]at c2;constructor
   ·intro hx;cases hx
   ·rintro⟨hn,_⟩;exact(c2 ⟨fun t ht=>hpm t (Zbi _ ht),hn⟩).elim
  |some m'=>
   rw[h2]at c2;obtain⟨r1,r2,r3,r4⟩:=c2;simp only[Z8L,r3,hf.o1];exact⟨fun hx=>⟨r2,hx⟩,fun hx=>hx.2⟩
end
end Vm
namespace Vm
open Go Go.Proofs
set_option maxRecDepth 100000
theorem Q9: ∀ {l:List Int} {ptrs:Int} {i:Nat},ZL l true ptrs i=true→ ∀w∈l,w=0
 | [],_,_,_,w,hw=>by simp at hw
 |x::l,ptrs,i,h,w,hw=>by
  simp only[ZL,Z8u,Zbk,Zaf,Z8L]at h;rcases Z8V.1 hw with rfl|hw
  ·exact h.1.1
  ·exact Q9 h.2 w hw
theorem WS{s:Ck}{k:Int}{q:Int→Int→Bool}:WO s k q=true↔ ∀o∈s.obs k,o.gone=false→ ∀j,j<o.ptrs.toNat→q ((o.at_.toNat+1+j:Nat):Int) (XX (Z5 s.h k) (o.at_.toNat+1+j))=true:=by
 unfold WO obQ;rw[Z8A];constructor
 ·intro h o ho hg j hj;have:=h o ho;rw[hg,Zaf,Z8A]at this;exact this j (Z9T.2 hj)
 ·intro h o ho;cases hg:o.gone
  ·rw[Zaf,Z8A];intro j hj;exact h o ho hg j (Z9T.1 hj)
  ·rfl
theorem Z0F{h:Hp}{p:Pts}(hp:Y6 h=some p){k:Int}(hk:1≤k∧k≤4):Wm h p k=true↔ ∀o∈p.at k,o.gone=false→ ∀j,j<o.ptrs.toNat→UR h p k (o.at_.toNat+1+j)=true:=by
 unfold Wm yk;rw[Z8A];constructor
 ·intro h o ho hg j hj;have:=h o ho;rw[Z8A]at this;exact this j (Z9T.2 hj)
 ·intro h' o ho;rw[Z8A];intro j hj;have hj:=Z9T.1 hj;cases hg:o.gone
  ·exact h' o ho hg j hj
  ·have hs:=((U5 hp hk).stands o ho).1;have hsh:=Z4.1 hs.shape;have h1:=hs.slots;rw[hg]at h1;have hz:=Q9 h1;have hfit:=hs.fits;have hnat:=hs.nat;have hlt:o.at_.toNat+1+j< (Z5 h k).length:=by omega
   have hw:(Z5 h k)[o.at_.toNat+1+j]? =some 0:=by
    rw[Z8n hlt];refine Z9U some (hz _ ?_);rw[Zbg];refine⟨j,?_⟩;rw[Z8T,if_pos (by omega),Z8N,Z8n hlt]
   have hgo: ∀a b,YP h p 0 a b=true:=fun a b=>by simp[YP]
   unfold UR;simp[hw,hgo]
section
variable {h:Hp} {s:Ck} {p:Pts}
theorem Found.ptrs(hf:Found h s p)(hr:Z8 (layH h)=true)(hp:Y6 h=some p):(XW s&&(YC s&&K5 s))=(h.roots.all (fun w=>YP h p w 1 2)&&Wm h p 1&&Wm h p 2&&Wm h p 3&&Wm h p 4):=by
 have hpt:=hf.points hr hp
 have hroots:s.h.roots.all (fun w=>Zr s w 1 2)=h.roots.all (fun w=>YP h p w 1 2):=by
  rw[hf.hp];congr 1;funext w;exact(hpt w).1
 have hob:=fun k=>hf.obs (k:=k)
 have hpk: ∀(k:Int) (q:Nat→Int→Bool) (hk:1≤k∧k≤4),(∀a,UR h p k a=q a (XX (Z5 h k) a))→(Wm h p k=true↔ ∀o∈p.at k,o.gone=false→ ∀j,j<o.ptrs.toNat→q (o.at_.toNat+1+j) (XX (Z5 h k) (o.at_.toNat+1+j))=true):=by
  intro k q hk hq;rw[Z0F hp hk];simp only[hq]
 have p2:=hpk 2 (fun _ w=>YP h p w 1 2) (by omega) (fun a=>by simp[UR,XX]);have p3:=hpk 3 (fun _ w=>YP h p w 3 4) (by omega) (fun a=>by simp[UR,XX]);have p4:=hpk 4 (fun _ w=>YP h p w 3 4) (by omega) (fun a=>by simp[UR,XX]);have p1:=hpk 1 (fun a w=>if h.scan≤a then YP h p w 1 2||YP h p w 3 4 else YP h p w 1 2) (by omega) (fun a=>by simp[UR,XX])
 have q2:WO s 2 (fun _ w=>Zr s w 1 2)=true↔Wm h p 2=true:=by
  rw[p2,WS,hob,hf.hp];simp only[(hpt _).1]
 have q3:WO s 3 (fun _ w=>Zr s w 3 4)=true↔Wm h p 3=true:=by
  rw[p3,WS,hob,hf.hp];simp only[(hpt _).2.1]
 have q4:WO s 4 (fun _ w=>Zr s w 3 4)=true↔Wm h p 4=true:=by
  rw[p4,WS,hob,hf.hp];simp only[(hpt _).2.1]
 have q1:(WO s 1 (fun a w=>decide (s.h.scan≤a)||Zr s w 1 2)=true∧WO s 1 (fun a w=>decide (a<s.h.scan)||Zr s w 1 4)=true)↔Wm h p 1=true:=by
  rw[p1,WS,WS,hob,hf.hp];simp only[(hpt _).1,(hpt _).2.2];constructor
  ·rintro⟨ha,hb⟩ o ho hg j hj;have ha:=ha o ho hg j hj;have hb:=hb o ho hg j hj;generalize o.at_.toNat+1+j=n at*;by_cases hs:h.scan≤(n:Int)
   ·have: ¬(n:Int) <h.scan:=by omega
    simpa[hs,this]using hb
   ·simpa[hs]using ha
  ·intro hx;refine⟨fun o ho hg j hj=> ?_,fun o ho hg j hj=> ?_⟩
   ·have hx:=hx o ho hg j hj;generalize o.at_.toNat+1+j=n at*;by_cases hs:h.scan≤(n:Int)
    ·simp[hs]
    ·simpa[hs]using hx
   ·have hx:=hx o ho hg j hj;generalize o.at_.toNat+1+j=n at*;by_cases hs:h.scan≤(n:Int)
    ·have: ¬(n:Int) <h.scan:=by omega
     simpa[hs,this]using hx
    ·have:(n:Int) <h.scan:=by omega
     simp[this]
 unfold XW YC K5;rw[hroots,Zc6];simp only[Z8u];rw[q2,q3,q4,←q1];constructor
 ·rintro⟨⟨a,b,c⟩,d,e,f⟩;exact⟨⟨⟨⟨a,c,d⟩,b⟩,e⟩,f⟩
 ·rintro⟨⟨⟨⟨a,c,d⟩,b⟩,e⟩,f⟩;exact⟨⟨a,b,c⟩,d,e,f⟩
theorem Found.roomy(hf:Found h s p):Th s=decide ((h.low.length:Int)+h.high.length+Yi p≤h.cap):=by
 unfold Th Qy Yi;rw[hf.hp,hf.o3,hf.o4]
end
theorem Z5t(h:Hp):numR h=(XN (ZS h)&&WC (ZS h)):=by
 unfold numR XN WC ZS;simp only;cases Z8 (layH h)
 ·simp
 by_cases h1:h.roots.length≤16<;>by_cases h2:0≤h.scan<;>by_cases h3:h.scan≤h.low.length<;>cases hc:h.cycle<;>simp[h1,h2,h3]
 by_cases h4:h.scan=h.low.length<;>by_cases h5:h.old= []<;>by_cases h6:h.far= []<;>simp[h4,h5,h6]
theorem RN(h:Hp):(Tz h).isSome=ZD h∧ ∀s,Tz h=some s→ ∃p,Y6 h=some p∧Found h s p:=by
 have hl:Tz h=(if XN (ZS h)=true then if WC (ZS h)=true then if(ZT (ZS h)).1=true then
   if XY (ZT (ZS h)).2=true then if XW (ZT (ZS h)).2=true then if YC (ZT (ZS h)).2=true then if K5 (ZT (ZS h)).2=true then if Th (ZT (ZS h)).2=true then
    some (ZT (ZS h)).2 else none else none else none else none else none else none else none else none):=rfl
 have hn:=Z5t h;unfold ZD;rw[hn];cases hb:XN (ZS h)
 ·rw[hb]at hl;rw[hl];simp
 have hr:Z8 (layH h)=true:=by
  unfold XN at hb;simp only[Z8u]at hb;exact hb.1
 cases hre:WC (ZS h)
 ·rw[hb,hre]at hl;rw[hl];simp
 have hw:=JB hr;cases hp:Y6 h with
 |none=>
  rw[hp]at hw;simp only at hw;rw[hb,hre,hw]at hl;rw[hl];simp
 |some p=>
  rw[hp]at hw;obtain⟨h1,hf⟩:=hw;rw[hb,hre,h1]at hl;simp only[Z9c]at hl;generalize (ZT (ZS h)).2=s at*;have e1:=hf.copied hr hp;have e2:=hf.ptrs hr hp;have e3:=hf.roomy
  have e4:Ue h p=(XY s&&((XW s&&(YC s&&K5 s))&&Th s)):=by
   rw[e1,e2,e3];unfold Ue;simp only[Bool.and_assoc]
  simp only[Zaz];rw[e4];cases c1:XY s
  ·rw[c1]at hl;rw[hl];simp
  cases c2:XW s
  ·rw[c1,c2]at hl;rw[hl];simp
  cases c3:YC s
  ·rw[c1,c2,c3]at hl;rw[hl];simp
  cases c4:K5 s
  ·rw[c1,c2,c3,c4]at hl;rw[hl];simp
  cases c5:Th s
  ·rw[c1,c2,c3,c4,c5]at hl;rw[hl];simp
  rw[c1,c2,c3,c4,c5]at hl;simp only[Z9c]at hl;rw[hl];refine⟨rfl,fun q hq=>⟨p,rfl,?_⟩⟩;cases hq;exact hf
theorem Z0l(h:Hp):((yu h:Nat):Int)=Uh h:=by
 obtain⟨h1,h2⟩:=RN h;unfold yu Uh;cases hl:Tz h with
 |none=>
  rw[hl]at h1;have h1':ZD h=false:=h1.symm;simp[h1']
 |some s=>
  rw[hl]at h1;have h1':ZD h=true:=h1.symm;obtain⟨p,hp,hf⟩:=h2 s hl;simp only[h1',hp,Z91,Z9c];unfold Qy Yi;rw[hf.o3,hf.o4]
end Vm
end
section
namespace Vm
open Go Go.Proofs Go.RowKit
def SeqP{α:Type}(F:Fence)(n:Nat)(P:Program)(g:Nat)(lb:Array Value)(encs:α→Array Value)(Kp:World→World→Prop)(S:List α→World→Prop)(Pp:List PanicEntry→List α→World→Prop)(N:Nat)(bt:Option Nat)(Ex:World→Prop)(w:World):Prop:=
 ∀(l:Nat) (J:List α→World→Prop) (W:World),Below w.heap.size w W→(∀pre W,J pre W→Ex W)→(∀s A B row,J s A→A.grownBy B row→(∀r,row=some r→some r=bt)→J s B)→
  (∀pre x W1,J pre W1→pre.length<N→YieldAt F (n-1) P l (encs x) W1 fun e W'=>e= .returned (.bool true)∧J (pre++ [x]) W'∧Kp W1 W')→
  J [] W→
  CallsIn F n P g (#[.func (.yield l) #[] #[]]++lb) W fun e W'=>(∃v xs,e= .returned v∧S xs W'∧J xs W')∨(∃chain pre,e= .panicked chain∧Pp chain pre W'∧J pre W')
def Z7o{α:Type}(B:Nat)(Kp:World→World→Prop)(I:List α→World→Prop)(xs:List α)(W:World):Exit→Act→World→Prop
 | .normal,_,W'=>KeepsFrom B W W'∧Kp W W'∧I xs W'
 |_,_,_=>False
def OwnP{β:Type}(bt:Option Nat)(B:Nat)(I:β→World→Prop):Prop:=
 ∀s X Y row,I s X→X.grownBy Y row→(∀r,row=some r→some r=bt∨(B≤r∧ ∃o:Obj,X.heap[r]? =some o∧o.isCells=false))→I s Y
theorem OwnP.putObj{β:Type}{bt:Option Nat}{B:Nat}{I:β→World→Prop}(h:OwnP bt B I){s:β}{W:World}{l:Nat}{o:Obj}(o':Obj)(hs:I s W)(hB:B≤l)(hl:W.heap[l]? =some o)(ho:o.isCells=false):I s (W.putObj l o'):=
 h s W _ (some l) hs (ZaO W l o') (fun r e=>by cases e;exact .inr ⟨hB,o,hl,ho⟩)
theorem OwnP.alloc{β:Type}{bt:Option Nat}{B:Nat}{I:β→World→Prop}(h:OwnP bt B I){s:β}{W:World}(o:Obj)(hs:I s W):I s (W.alloc o):=
 h s W _ none hs (Z9K W o none) (fun r e=>by cases e)
variable {F:Fence} {n:Nat} {P:Program}
theorem Tw{α:Type}{g:Operand}{ps:Array Tmp}{assign body:Code}{Q:Exit→Act→World→Prop}{a:Act}{w:World}
  (hro:F.round=none) (h1:1≤n) {gf:Nat} {lb:Array Value} (hg:a.eval g= .func (.func gf) #[] lb) (hFg:F.fn gf) (eg: ∀args w,(callFunc gf args).run P w= .ok (.enter gf args) w)
  {encs:α→Array Value} {Kp:World→World→Prop} {S:List α→World→Prop} {Pp:List PanicEntry→List α→World→Prop} {N:Nat} {bt:Option Nat} {Ex:World→Prop} {w0:World} (hseq:SeqP F (n-1) P gf lb encs Kp S Pp N bt Ex w0)
  (hbt: ∀r,bt=some r→r<w.heap.size)
  (hKt: ∀ {A B C:World},Kp A B→Kp B C→Kp A C) (hKb: ∀(W:World) (l:Nat) (o o':Obj),w.heap.size≤l→W.heap[l]? =some o→o.isCells=false→o.isWalk=false→Kp W (W.putObj l o')) (hb0:Below w0.heap.size w0 w) (hps: ∀x,(encs x).size=ps.size)
  (I:List α→World→Prop) (hI:OwnP bt w.heap.size I) (hEx: ∀pre W,I pre W→Ex W) (h0:I [] w) (hS:OwnP none w.heap.size S) (Ax:α→Act→World→Prop) (hAx: ∀x a',OwnP none w.heap.size (fun(_:Unit) W=>Ax x a' W))
  (hassign: ∀(l:Nat) (pre:List α) (x:α) (W:World) (K:Act→World→Prop),I pre W→(∀a' W',KeepsFrom w.heap.size W W'→Kp W W'→I pre W'→Ax x a' W'→K a' W')→
   assign.wpIn (F.inRound l) (n-1-1) P (Exit.then K (fun _ _ _=>False)) {tmps:=(ps.zip (encs x)).foldl (fun t (p,v)=>t.setIfInBounds p v) a.tmps,defers:= []} W)
  (hbody: ∀(l:Nat) (pre:List α) (x:α) (a':Act) (W:World),I pre W→Ax x a' W→pre.length<N→body.wpIn (F.inRound l) (n-1-1) P (Z7o w.heap.size Kp I (pre++ [x]) W) a' W)
  (hdone: ∀(D:Nat) (xs:List α) (W:World),w.heap.size≤D→S xs W→I xs W→W.heap[D]? =some (.deferred (some []))→Q .normal {a with defers:= {target:= .collected D,args:= #[]}::a.defers} W)
  (hpanic: ∀(D:Nat) (chain:List PanicEntry) (pre:List α) (W:World),w.heap.size≤D→Pp chain pre W→I pre W→W.heap[D]? =some (.deferred (some []))→Q (.panic chain) {a with defers:= {target:= .collected D,args:= #[]}::a.defers} W):
  (Code.rangeFunc g ps assign body).wpIn F n P Q a w:=by
 refine wpIn_rangeFunc fun fn hfn=> ?_;rw[hro];obtain⟨rec,hrec⟩: ∃rec:LoopState→Option Code→Loop,rec=fun st pe=> {state:=st,pending:=pe,fn,tmps:=a.tmps,params:=ps,assign,body,defers:=w.heap.size}:=⟨_,rfl⟩;obtain⟨W1,hW1⟩: ∃W1,(w.alloc (.deferred (some []))).alloc (.loop (rec .ready none))=W1:=⟨_,rfl⟩
 have hL1:W1.heap[w.heap.size+1]? =some (.loop (rec .ready none)):=by
  have:=Z9C (w.alloc (.deferred (some []))) (.loop (rec .ready none));rw[Za2]at this;rw[←hW1];exact this
 have hK1:W1.heap[w.heap.size]? =some (.deferred (some [])):=by
  rw[←hW1];exact(Z8t _ _ _ (by simp)).trans (Z9C w _)
 have hb1:Below w0.heap.size w0 W1:=by
  rw[←hW1];exact hb0.trans ((((Z8E _ w).alloc (Z8v _) _).alloc (by simp) _).mono hb0.size)
 refine⟨w.heap.size+1,[{target:= .collected w.heap.size,args:= #[]}],W1,{target:= .fn (.func gf) lb,args:= #[.func (.yield (w.heap.size+1)) #[] #[]]},W1,gf,
  #[.func (.yield (w.heap.size+1)) #[] #[]]++lb,W1,?_,?_,?_,?_,fun _=>h1,?_⟩
 ·rw[←hW1,hrec];exact run_enterLoop_outer _ _ _ _ _
 ·simp only[resolve,hg];simp[go_sem]
 ·intro f' hf';simp[Target.leads]at hf';subst hf';exact hFg
 ·simp[invoke,go_sem,eg]
 have hrow: ∀ {A B:World} {row:Option Nat} {k:Nat} {o:Obj},A.grownBy B row→(∀r,row=some r→some r=bt)→w.heap.size≤k→A.heap[k]? =some o→B.heap[k]? =some o:=by
  intro A B row k o hgr hr hk ho;refine(hgr.block k (Z8Z.1 ho).1 fun e=> ?_).trans ho;have:=hbt k (hr k e.symm).symm;omega
 refine(hseq (w.heap.size+1) (fun pre W=>I pre W∧W.heap[w.heap.size+1]? =some (.loop (rec .ready none))∧W.heap[w.heap.size]? =some (.deferred (some []))) W1 hb1 (fun pre W h=>hEx pre W h.1)
  (fun s A B row hs hgr hr=>⟨hI s A B row hs.1 hgr (fun r e=> .inl (hr r e)),hrow hgr hr (by omega) hs.2.1,hrow hgr hr (Z8v _) hs.2.2⟩) ?_ ⟨by rw[←hW1];exact hI.alloc _ (hI.alloc _ h0),hL1,hK1⟩).mono ?_
 ·rintro pre x W ⟨hi,hl,hk⟩ hlen;have hy:=run_yield (P:=P) (args:=encs x) hl (by rw[hrec];exact hps x);rw[hrec]at hy;refine⟨fn,_,assign,body,hy,roundIn_of_wpIn hfn (hassign _ pre x W _ hi ?_)⟩;intro a' V hkf hkp hiV hax;have hlV:=hkf.same _ _ (by omega) hl rfl;have hkV:=hkf.same _ _ (Z8v _) hk rfl;have hlt:w.heap.size+1<V.heap.size:=(Z8Z.1 hlV).1;refine⟨_,run_beginRound hlV (by rw[hrec]),?_⟩;have hl2:(V.putObj (w.heap.size+1) (.loop {rec .ready none with state:= .busy})).heap[w.heap.size+1]? =some (.loop {rec .ready none with state:= .busy}):=ZaI hlt;have hk2:(V.putObj (w.heap.size+1) (.loop {rec .ready none with state:= .busy})).heap[w.heap.size]? =some (.deferred (some [])):=(Z94 (by omega)).trans hkV;have hp2:Kp V (V.putObj (w.heap.size+1) (.loop {rec .ready none with state:= .busy})):=hKb _ _ _ _ (by omega) hlV rfl rfl;refine wpIn_mono (hbody _ pre x a' _ (hI.putObj _ hiV (by omega) hlV rfl) ((hAx x a').putObj (s:=()) _ hax (by omega) hlV rfl) hlen) ?_;rintro e a3 W3 hp;cases e with
  |normal=>
   obtain⟨hk3,hkp3,hi3⟩:=hp;have hl3:=hk3.same _ _ (by omega) hl2 rfl;have hd3:=hk3.same _ _ (Z8v _) hk2 rfl;have hend:=run_endRound (P:=P) none hl3;refine⟨_,_,hend,rfl,⟨hI.putObj _ hi3 (by omega) hl3 rfl,?_,(Z94 (by omega)).trans hd3⟩,hKt hkp (hKt (hKt hp2 hkp3) (hKb _ _ _ _ (by omega) hl3 rfl rfl))⟩;rw[ZaI (Z8Z.1 hl3).1,hrec];rfl
  |ret=>exact hp.elim
  |exit id=>exact hp.elim
  |goto t=>exact hp.elim
  |panic ch=>exact hp.elim
  |outgrown=>exact hp.elim
 ·rintro e W2 (⟨v,xs,rfl,hs,hi,hl,hk⟩ | ⟨chain,pre,rfl,hp,hi,hl,hk⟩)
  ·have hend:=run_endLoop (P:=P) hl (by rw[hrec];simp);rw[hrec]at hend;exact⟨none,_,hend,hdone _ xs _ (Z8v _) (hS.putObj _ hs (by omega) hl rfl) (hI.putObj _ hi (by omega) hl rfl) ((Z94 (by omega)).trans hk)⟩
  ·exact hpanic _ chain pre _ (Z8v _) hp hi hk
end Vm
end
section
namespace Vm
open Go
open Go.Proofs
set_option maxRecDepth 100000
def p128:Fn:=⟨4,[0,2,3,4],
pQ [pR [pV 1 pF],pC [pK 4 59 [.s 0]] [pV 2 (.ext (.s 4) 0),pV 3 (.ext (.s 4) 1)],.reg ⟨[.lt 5 [] (.bin .eql (.s 0) (pU 0))],[([(5,false)],.bin .eql (.s 3) (pI 0))],[pV 1 (.ite (.s 5) pT (.bin .eql (.s 3) (pI 0)))]⟩] .ret,[(1,.v)]⟩
theorem c128:Zc Try.prog fresh sig [.fz] [] Try.f128=some p128:=by kernel_rfl
end Vm
end
section
namespace Vm
open Go Go.Proofs Go.RowKit
set_option maxHeartbeats 1000000
set_option maxRecDepth 100000
theorem qC{x:Int}(hx:U64 x):VC Try.prog 128 false [vu x] (.bool (U1 x)):=by
 refine Z6 Try.func128 follows (by kernel_rfl) c128 rfl ?_;simp[p128];refine Z0 (Rr hx) (by simp) ?_;by_cases h:x=0<;>simp[U1,h]
theorem Uu{x:Int}(hx:U64 x)(w:World):Calls Try.prog 128 #[.int .u64 x] w fun e w'=>e= .returned (.bool (U1 x))∧Below w.heap.size w w':=
 Yf (qC hx) rfl rfl w
structure Words (w:World) (ws:List Int) (g o cap:Nat):Prop where
 at_: ∀(i:Nat) (x:Int),ws[i]? =some x→w.cell? ⟨g,o+i,none⟩=some (.int .u64 x)
 le:ws.length≤cap
 cap:cap≤maxLen
 len:ws.length≤1000000
 u64: ∀x∈ws,U64 x
def Xk(e:Int):List PanicEntry:= [{v:= .iface 182 (.agg #[.int .i64 e]),recovered:=false}]
def obA(o:Ob):Value:= .agg #[.int .i64 o.at_,.int .i64 o.size,.int .i64 o.ptrs,.bool o.gone,.int .u64 o.target]
def Z24(ws:List Int)(o:Ob):Ending:=
 if(ws.length:Int) <o.at_+1+o.size then .panicked (Xk 2)else if ZL ((ws.drop (o.at_.toNat+1)).take o.size.toNat) o.gone o.ptrs 0=false then .panicked (Xk 3)else .returned (.tuple #[])
theorem jW(w:World)(ws:List Int)(g o cap:Nat)(hw:Words w ws g o cap)(hg:g<w.heap.size)(ob:Ob)(a:Nat)(ha:ob.at_=a)(hlt:a<ws.length)(hsh:Zo ob.size ob.ptrs=true):
  Calls Try.prog 127 #[.slice (some ⟨g,o,none⟩) ws.length cap,obA ob] w fun e w'=>e=Z24 ws ob∧Below w.heap.size w w':=by
 have hl:=hw.len;have hc:=hw.le;have hm:=hw.cap;obtain⟨at_,size,ptrs,gone,target⟩:=ob;simp only at ha hsh;subst ha;obtain⟨s1,s2,s3,s4⟩:=Z4.1 hsh;obtain⟨m,rfl⟩:=Z8H s1;have HW:=Z8r hw;have he:Z24 ws ⟨a,m,ptrs,gone,target⟩=if(ws.length:Int) <a+1+m then .panicked (Xk 2)else if ZL ((ws.drop (a+1)).take m) gone ptrs 0=false then .panicked (Xk 3)else .returned (.tuple #[]):=rfl
 generalize Z24 ws ⟨a,m,ptrs,gone,target⟩=E at*;unfold obA;dsimp only;by_cases hfit:(ws.length:Int) <a+1+m
 ·rw[if_pos hfit]at he;have HE:=Z8r he;clear he;have hlt2:((ws.length- (a+1):Nat):Int) <m:=by omega
  go_enter Try.func127,Try.ntmps127;go_wp2
  all_goals exact⟨rfl,HE.out.symm,(Z8E _ _).alloc (Z8v _) _⟩
 ·rw[if_neg hfit]at he;have HE:=Z8r he;clear he;have hge2:(m:Int)≤((ws.length- (a+1):Nat):Int):=by omega
  have hge3:m≤ws.length- (a+1):=by omega
  have hnlt:(ws.length- (a+1) <m)=False:=Zan (by omega);have hcm:m≤cap- (a+1):=by omega
  have hm5:m≤255:=by omega
  clear hw hfit;by_cases hcap:cap=a+1
  ·have hm0:m=0:=by omega
   subst hm0;subst hcap;go_enter Try.func127,Try.ntmps127;go_wp2
   go_loopw [26] (fun i wr=>i= .int .i64 0∧Hid (Below w.heap.size w wr)) (fun i _=>0)
   case atStart=>exact⟨rfl,Z8r ((Z8E _ _).alloc (Z8v _) _)⟩
   case round=>
    obtain⟨rfl,HB⟩:=hrel;go_wp2
    go_end0
    exact⟨HE.out.symm,HB.out⟩
  ·go_enter Try.func127,Try.ntmps127;go_wp2
   go_loopw [26] (fun i wr=> ∃k:Nat,i= .int .i64 k∧k≤m∧Hid (Below w.heap.size w wr∧wr.heap[w.heap.size]? =some (.cells #[.int .i64 a,.int .i64 m,.int .i64 ptrs,.bool gone,.int .u64 target] 49 (0,0))∧
     ZL ((ws.drop (a+1)).take m) gone ptrs 0=ZL (((ws.drop (a+1)).take m).drop k) gone ptrs k)) (fun i _=>m- (intOf i).toNat)
   case atStart=>exact⟨0,rfl,by omega,Z8r ⟨(Z8E _ _).alloc (Z8v _) _,Z8C w _,rfl⟩⟩
   case round=>
    obtain⟨k,rfl,hk,HI⟩:=hrel;by_cases hlt:k<m
    ·obtain⟨x,hx⟩: ∃x,ws[a+1+k]? =some x:=⟨_,Z8n (by omega)⟩;have hu:U64 x:=HW.out.u64 x (Z8x hx)
     have hT:((ws.drop (a+1)).take m)[k]? =some x:=by
      rw[Z8T,if_pos hlt,Z8N];exact hx
     have c0:wr.cell? ⟨g,o+(a+1)+k,none⟩=some (.int .u64 x):=by
      rw[Z9i];exact(HI.out.1.cell (p:=⟨g,o+(a+1+k),none⟩) hg).trans (HW.out.at_ _ _ hx)
     have c1:wr.cell? ⟨w.heap.size,1,none⟩=some (.int .i64 m):=by rw[Z8s _ _ _ _ _ _ HI.out.2.1];rfl
     have c2:wr.cell? ⟨w.heap.size,2,none⟩=some (.int .i64 ptrs):=by rw[Z8s _ _ _ _ _ _ HI.out.2.1];rfl
     have c3:wr.cell? ⟨w.heap.size,3,none⟩=some (.bool gone):=by rw[Z8s _ _ _ _ _ _ HI.out.2.1];rfl
     have hs:=JT (gone:=gone) (ptrs:=ptrs) hT;have hlt':(k:Int) <m:=by omega
     have hbs:=Za HI.out.2.1;clear hx hT
     have stop:ZL (((ws.drop (a+1)).take m).drop k) gone ptrs k=false→E= .panicked (Xk 3):=fun h=>by
      rw[HE.out,HI.out.2.2,h,if_pos rfl]
     cases gone
     ·by_cases hp:(k:Int) <ptrs
      ·cases hip:U1 x
       ·have HE2:=Z8r (stop (by rw[hs];simp[hip,hp]));clear stop hs
        go_wp2_with (go_at_call 128;refine(Uu hu _).mono ?_;rintro e w1 ⟨rfl,hb1⟩;have HB1:=Z8r hb1;clear hb1)
        exact⟨rfl,HE2.out.symm,HI.out.1.trans (HB1.out.mono HI.out.1.size)⟩
       ·have HS:=Z8r (hs.trans (by simp[hip]:_=ZL (((ws.drop (a+1)).take m).drop (k+1)) false ptrs (k+1)));clear stop hs
        go_wp2_with (go_at_call 128;refine(Uu hu _).mono ?_;rintro e w1 ⟨rfl,hb1⟩;have HB1:=Z8r hb1;clear hb1)
        go_wp2
        go_roundw
        case rel=>
         exact⟨k+1,by go_num,by omega,Z8r ⟨HI.out.1.trans (HB1.out.mono HI.out.1.size),(HB1.out.block _ hbs).trans HI.out.2.1,HI.out.2.2.trans HS.out⟩⟩
        case measure=>simp[intOf];omega
      ·have HS:=Z8r (hs.trans (by simp[hp]:_=ZL (((ws.drop (a+1)).take m).drop (k+1)) false ptrs (k+1)));clear stop hs;go_wp2
       go_roundw
       case rel=>exact⟨k+1,by go_num,by omega,Z8r ⟨HI.out.1,HI.out.2.1,HI.out.2.2.trans HS.out⟩⟩
       case measure=>simp[intOf];omega
     ·by_cases h0:x=0
      ·subst h0;have HS:=Z8r (hs.trans (by simp[U1]:_=ZL (((ws.drop (a+1)).take m).drop (k+1)) true ptrs (k+1)));clear stop hs;go_wp2
       go_roundw
       case rel=>exact⟨k+1,by go_num,by omega,Z8r ⟨HI.out.1,HI.out.2.1,HI.out.2.2.trans HS.out⟩⟩
       case measure=>simp[intOf];omega
      ·have HE2:=Z8r (stop (by rw[hs];simp[h0]));clear stop hs;go_wp2;exact⟨rfl,HE2.out.symm,HI.out.1⟩
    ·have:k=m:=by omega
     subst this;have h3:=HI.out.2.2;have hd:((ws.drop (a+1)).take k).drop k= []:=Za3 (by rw[Z9N];omega);rw[hd]at h3;have HE2:=Z8r (HE.out.trans (by rw[h3];rfl:_=Ending.returned (.tuple #[])));clear h3 hd;go_wp2
     go_end0
     exact⟨HE2.out.symm,HI.out.1⟩
end Vm
namespace Vm
open Go Go.Proofs Go.RowKit
set_option maxHeartbeats 1000000
set_option maxRecDepth 100000
theorem Z3K(w:World):Sem.run Try.prog (binOp .neq 183 .nilFunc .nilFunc) w= .ok (.bool false) w:=by rfl
theorem Z0b(w:World)(f:FuncId)(vs:Array Value):Sem.run Try.prog (binOp .neq 183 (.func (.func f) #[] vs) .nilFunc) w= .ok (.bool true) w:=by rfl
theorem row5{w:World}{b:Nat}{T:TypeId}{v0 v1 v2 v3 v4:Value}(h:w.heap[b]? =some (.cells #[v0,v1,v2,v3,v4] T (0,0))) (O:Obj):
  ((w.alloc O).cell? ⟨b,0,none⟩=some v0∧(w.alloc O).cell? ⟨b,1,none⟩=some v1∧(w.alloc O).cell? ⟨b,2,none⟩=some v2∧(w.alloc O).cell? ⟨b,3,none⟩=some v3∧(w.alloc O).cell? ⟨b,4,none⟩=some v4)∧
  (w.alloc O).frozen? ⟨b,0,none⟩=false∧(w.alloc O).frozen? ⟨b,1,none⟩=false∧(w.alloc O).frozen? ⟨b,2,none⟩=false∧(w.alloc O).frozen? ⟨b,3,none⟩=false∧(w.alloc O).frozen? ⟨b,4,none⟩=false:=by
 have h':(w.alloc O).heap[b]? =some (.cells #[v0,v1,v2,v3,v4] T (0,0)):=(Z8t _ _ _ (Za h)).trans h;refine⟨⟨?_,?_,?_,?_,?_⟩,Zk h',Zk h',Zk h',Zk h',Zk h'⟩<;>(rw[Z8s _ _ _ _ _ _ h'];rfl)
def begE(a:Nat)(x:Int):Ending:=if(unpk x).2.2=0 then .returned (obA ⟨a,(unpk x).1,(unpk x).2.1,false,0⟩)else .panicked (Xk 3)
theorem Z0w(w:World)(ws:List Int)(g o cap:Nat)(hw:Words w ws g o cap)(hg:g<w.heap.size)(a:Nat)(x:Int)(hx:ws[a]? =some x):
  Calls Try.prog 126 #[.slice (some ⟨g,o,none⟩) ws.length cap,.int .i64 a,.nilFunc] w fun e w'=>e=begE a x∧Below w.heap.size w w':=by
 have hl:=hw.len;have hc:=hw.le;have hm:=hw.cap;have hlt:a<ws.length:=(Z8o.1 hx).1;have hlt':(a:Int) <ws.length:=by omega
 have hu:U64 x:=hw.u64 x (Z8x hx);have c0:=hw.at_ a x hx;have cc: ∀W,Below w.heap.size w W→W.cell? ⟨g,o+a,none⟩=some (.int .u64 x):=fun W hb=>(hb.cell (p:=⟨g,o+a,none⟩) hg).trans c0;have he:begE a x=if(unpk x).2.2=0 then .returned (obA ⟨a,(unpk x).1,(unpk x).2.1,false,0⟩)else .panicked (Xk 3):=rfl
 generalize begE a x=E at*;have HC:=Z8r cc;have hnil:=Z3K;clear hw hx cc;by_cases h0:(unpk x).2.2=0
 ·rw[if_pos h0]at he;have HE:=Z8r he;clear he;go_enter Try.func126,Try.ntmps126
  go_wp2_with (first
   | (go_at_call 59;refine(ZQ hu _).mono ?_;rintro e w1 ⟨rfl,hb1⟩;have HB1:=Z8r hb1;have d0:=HC.out w1 (((((Z8E _ w).alloc (Z8v _) _).alloc (by simp) _).trans (hb1.mono (by simp;omega))));clear hb1)
   | (go_at_call 62;refine(X2 hu _).mono ?_;rintro e w2 ⟨rfl,hb2⟩;have HB2:=Z8r hb2
      have hB:=HB1.out.block;have r0:w2.heap[w.heap.size]? =some (.cells #[.int .i64 0,.int .i64 0,.int .i64 0,.bool false,.int .u64 0] 49 (0,0)):=(hb2.block _ (by have:=HB1.out.size;simp at this;omega)).trans ((HB1.out.block _ (by simp;omega)).trans ((Z8t _ _ _ (by simp)).trans (Z8C w _)));have r1:w2.heap[w.heap.size+1]? =some (.cells #[.int .i64 a,.int .i64 0,.int .i64 0,.bool false,.int .u64 0] 49 (0,0)):=(hb2.block _ (by have:=HB1.out.size;simp at this;omega)).trans ((HB1.out.block _ (by simp)).trans (by have:=Z8C (w.alloc (.cells #[.int .i64 0,.int .i64 0,.int .i64 0,.bool false,.int .u64 0] 49)) (.cells #[.int .i64 a,.int .i64 0,.int .i64 0,.bool false,.int .u64 0] 49);simpa using this));obtain⟨⟨x0,x1,x2,x3,x4⟩,y0,y1,y2,y3,y4⟩:=row5 r0 (.cells #[.int .i64 (unpk x).1,.int .i64 (unpk x).2.1] 47);obtain⟨⟨p0,p1,p2,p3,p4⟩,q0,q1,q2,q3,q4⟩:=row5 r1 (.cells #[.int .i64 (unpk x).1,.int .i64 (unpk x).2.1] 47);have HR:=Z8r (And.intro r0 r1);clear hb2 hB r0 r1))
  refine Z8K (v:=obA ⟨a,(unpk x).1,(unpk x).2.1,false,0⟩) ?_ rfl ⟨HE.out.symm,?_⟩
  ·simp[results,Try.results126,go_sem,obA,x0,x1,x2,x3,x4]
  ·have h1:=(((Z8E _ w).alloc (Z8v _) (.cells #[.int .i64 0,.int .i64 0,.int .i64 0,.bool false,.int .u64 0] 49)).alloc (by simp) (.cells #[.int .i64 a,.int .i64 0,.int .i64 0,.bool false,.int .u64 0] 49)).trans (HB1.out.mono (by simp;omega));have h2:=(h1.trans (HB2.out.mono (by have:=h1.size;omega))).alloc (by have:=h1.size;have:=HB2.out.size;omega) (.cells #[.int .i64 (unpk x).1,.int .i64 (unpk x).2.1] 47);exact((((((h2.setCell (p:=⟨w.heap.size+1,1,none⟩) (by simp) _).setCell (p:=⟨w.heap.size+1,2,none⟩) (by simp) _).setCell (p:=⟨w.heap.size,0,none⟩) (Z8v _) _).setCell (p:=⟨w.heap.size,1,none⟩) (Z8v _) _).setCell (p:=⟨w.heap.size,2,none⟩) (Z8v _) _).setCell (p:=⟨w.heap.size,3,none⟩) (Z8v _) _).setCell (p:=⟨w.heap.size,4,none⟩) (Z8v _) _
 ·rw[if_neg h0]at he;have HE:=Z8r he;clear he;have h0':((unpk x).2.2=0)=False:=Zan h0;go_enter Try.func126,Try.ntmps126
  go_wp2_with (first
   | (go_at_call 59;refine(ZQ hu _).mono ?_;rintro e w1 ⟨rfl,hb1⟩;have HB1:=Z8r hb1;have d0:=HC.out w1 (((((Z8E _ w).alloc (Z8v _) _).alloc (by simp) _).trans (hb1.mono (by simp;omega))));clear hb1)
   | (go_at_call 62;refine(X2 hu _).mono ?_;rintro e w2 ⟨rfl,hb2⟩;have HB2:=Z8r hb2;clear hb2))
  refine⟨rfl,HE.out.symm,?_⟩;have h1:=(((Z8E _ w).alloc (Z8v _) (.cells #[.int .i64 0,.int .i64 0,.int .i64 0,.bool false,.int .u64 0] 49)).alloc (by simp) (.cells #[.int .i64 a,.int .i64 0,.int .i64 0,.bool false,.int .u64 0] 49)).trans (HB1.out.mono (by simp;omega));exact(h1.trans (HB2.out.mono (by have:=h1.size;omega))).alloc (by have:=h1.size;have:=HB2.out.size;omega) _
end Vm
namespace Vm
open Go Go.Proofs Go.RowKit
set_option maxHeartbeats 1000000
set_option maxRecDepth 100000
theorem UF(s p:Int)(w:World):Calls Try.prog 81 #[.agg #[.int .i64 s,.int .i64 p]] w fun e w'=>e= .returned (.bool (Zo s p))∧Below w.heap.size w w':=
 Yf R4 rfl rfl w
structure Shps (w:World) (shs:List (Int×Int)) (bs:Nat) (v:Value):Prop where
 box:w.heap[bs]? =some (.cells #[v] 159 (0,0))
 val:(∃g o cap,v= .slice (some ⟨g,o,none⟩) shs.length cap∧shs.length≤cap∧cap≤maxLen∧g<w.heap.size∧ ∀(i:Nat) (x:Int×Int),shs[i]? =some x→w.cell? ⟨g,o+i*2,none⟩=some (.int .i64 x.1)∧w.cell? ⟨g,o+i*2+1,none⟩=some (.int .i64 x.2))∨
  (∃a cap,v= .slice a 0 cap∧shs= [])
theorem Z2k(w:World)(shs:List (Int×Int))(bt bs:Nat)(v:Value)(hl:shs.length≤1000000)(hs:Shps w shs bs v)(hb:w.heap[bt]? =some (.cells #[.int .i64 shs.length] 3 (0,0))):
  Calls Try.prog 121 #[.pointer (some ⟨bt,0,none⟩),.pointer (some ⟨bs,0,none⟩)] w fun e w'=>e= .panicked (Xk 3)∧Below w.heap.size w w':=by
 have c0:w.cell? ⟨bt,0,none⟩=some (.int .i64 shs.length):=by rw[Z8s _ _ _ _ _ _ hb];rfl
 have hbl:=Za hb;have hbl2:=Za hs.box;have c1:w.cell? ⟨bs,0,none⟩=some v:=by rw[Z8s _ _ _ _ _ _ hs.box];rfl
 rcases hs.val with ⟨g,o,cap,rfl,h1,h2,h3,h4⟩ | ⟨a,cap,rfl,rfl⟩
 ·clear h4 hs hb;go_enter Try.func121,Try.ntmps121;go_wp2;exact⟨rfl,rfl,(Z8E _ _).alloc (Z8v _) _⟩
 ·clear hs hb;simp only[Z9L]at c0;go_enter Try.func121,Try.ntmps121;go_wp2;exact⟨rfl,rfl,(Z8E _ _).alloc (Z8v _) _⟩
theorem Z1O(w:World)(shs:List (Int×Int))(bt bs t:Nat)(v:Value)(x:Int×Int)(hl:shs.length≤1000000)(hs:Shps w shs bs v)(hb:w.heap[bt]? =some (.cells #[.int .i64 t] 3 (0,0))) (hx:shs[t]? =some x) (hn:Zo x.1 x.2=false):
  Calls Try.prog 121 #[.pointer (some ⟨bt,0,none⟩),.pointer (some ⟨bs,0,none⟩)] w fun e w'=>e= .panicked (Xk 3)∧Below w.heap.size w w':=by
 have c0:w.cell? ⟨bt,0,none⟩=some (.int .i64 t):=by rw[Z8s _ _ _ _ _ _ hb];rfl
 have hbl:=Za hb;have hbl2:=Za hs.box;have hlt:t<shs.length:=(Z8o.1 hx).1;have hne: ¬t=shs.length:=by omega
 have hlt':(t:Int) <shs.length:=by omega
 have c1:w.cell? ⟨bs,0,none⟩=some v:=by rw[Z8s _ _ _ _ _ _ hs.box];rfl
 rcases hs.val with ⟨g,o,cap,rfl,h1,h2,h3,h4⟩ | ⟨a,cap,rfl,rfl⟩
 ·obtain⟨d0,d1⟩:=h4 t x hx;have e2:=UF x.1 x.2;rw[hn]at e2;clear h4 hs hb hx hn;go_enter Try.func121,Try.ntmps121
  go_wp2_with (go_at_call 81;refine(e2 _).mono ?_;rintro e w1 ⟨rfl,hb1⟩;have HB1:=Z8r hb1;clear hb1)
  exact⟨rfl,rfl,((Z8E _ w).alloc (Z8v _) _).trans (HB1.out.mono (by simp))⟩
 ·simp at hx
theorem Z3v(w:World)(shs:List (Int×Int))(bt bs t:Nat)(v:Value)(x:Int×Int)(hl:shs.length≤1000000)(hs:Shps w shs bs v)(hb:w.heap[bt]? =some (.cells #[.int .i64 t] 3 (0,0))) (hx:shs[t]? =some x) (hn:Zo x.1 x.2=true) (hbs:bs≠bt)
  (hgb: ∀g o cap,v= .slice (some ⟨g,o,none⟩) shs.length cap→g≠bt):
  Calls Try.prog 121 #[.pointer (some ⟨bt,0,none⟩),.pointer (some ⟨bs,0,none⟩)] w fun e w'=>e= .returned (.agg #[.int .i64 x.1,.int .i64 x.2])∧w.grownBy w' (some bt)∧w'.heap[bt]? =some (.cells #[.int .i64 ((t+1:Nat):Int)] 3 (0,0)):=by
 have c0:w.cell? ⟨bt,0,none⟩=some (.int .i64 t):=by rw[Z8s _ _ _ _ _ _ hb];rfl
 have hbl:=Za hb;have hbl2:=Za hs.box;have hlt:t<shs.length:=(Z8o.1 hx).1;have hne: ¬t=shs.length:=by omega
 have hlt':(t:Int) <shs.length:=by omega
 have c1:w.cell? ⟨bs,0,none⟩=some v:=by rw[Z8s _ _ _ _ _ _ hs.box];rfl
 have hf:=Zk (o:=0) hb;have hbs': ¬bs=bt:=hbs;have hbs2: ¬bt=bs:=fun e=>hbs e.symm;rcases hs.val with ⟨g,o,cap,rfl,h1,h2,h3,h4⟩ | ⟨a,cap,rfl,rfl⟩
 ·obtain⟨d0,d1⟩:=h4 t x hx;have hg:=hgb g o cap rfl;have e2:=UF x.1 x.2;rw[hn]at e2;have HB:=Z8r hb;clear h4 hs hb hx hn hgb;go_enter Try.func121,Try.ntmps121
  go_wp2_with (go_at_call 81;refine(e2 _).mono ?_;rintro e w1 ⟨rfl,hb1⟩
               have HB1:=Z8r hb1;have s1:=hb1.size;have k0:w1.cell? ⟨bt,0,none⟩=some (.int .i64 t):=(hb1.cell (p:=⟨bt,0,none⟩) (by simp;omega)).trans ((Z9B _ _ _ hbl).trans c0);have k1:w1.frozen? ⟨bt,0,none⟩=false:=Zk ((hb1.block bt (by simp;omega)).trans ((Z8t _ _ _ hbl).trans HB.out));have k2:w1.cell? ⟨bs,0,none⟩=some (.slice (some ⟨g,o,none⟩) shs.length cap):=(hb1.cell (p:=⟨bs,0,none⟩) (by simp;omega)).trans ((Z9B _ _ _ hbl2).trans c1);have k3:w1.cell? ⟨g,o+t*2,none⟩=some (.int .i64 x.1):=(hb1.cell (p:=⟨g,o+t*2,none⟩) (by simp;omega)).trans ((Z9B _ _ _ h3).trans d0);have k4:w1.cell? ⟨g,o+t*2+1,none⟩=some (.int .i64 x.2):=(hb1.cell (p:=⟨g,o+t*2+1,none⟩) (by simp;omega)).trans ((Z9B _ _ _ h3).trans d1);have r0:w1.heap[w.heap.size]? =some (.cells #[.int .i64 0,.int .i64 0] 47 (0,0)):=(hb1.block _ (by simp)).trans (Z8C w _);have x0:w1.cell? ⟨w.heap.size,0,none⟩=some (.int .i64 0):=by rw[Z8s _ _ _ _ _ _ r0];rfl
               have x1:w1.cell? ⟨w.heap.size,1,none⟩=some (.int .i64 0):=by rw[Z8s _ _ _ _ _ _ r0];rfl
               have y0:=Zk (o:=0) r0;have y1:=Zk (o:=1) r0;have n1: ¬w.heap.size=bt:=by omega
               have n2: ¬bt=w.heap.size:=by omega
               have HR:=Z8r r0;clear hb1 r0)
  have hB:Below w.heap.size w w1:=((Z8E _ w).alloc (Z8v _) (.cells #[.int .i64 0,.int .i64 0] 47)).trans (HB1.out.mono (by simp));have hw1:w1.heap[bt]? =some (.cells #[.int .i64 t] 3 (0,0)):=(hB.block bt hbl).trans HB.out;refine Z8K (v:= .agg #[.int .i64 x.1,.int .i64 x.2]) ?_ rfl ⟨rfl,⟨hB.os,hB.tape,hB.output,?_,fun k hk hne=> ?_⟩,?_⟩
  ·simp[results,Try.results121,go_sem,x0,x1,n1,n2]
  ·simp[World.setCell];exact hB.size
  ·have hkb:k≠bt:=fun e=>hne (by rw[e]);rw[Z8I _ _ _ _ (by show k≠w.heap.size;omega),Z8I _ _ _ _ (by show k≠w.heap.size;omega),Z8I _ _ _ _ hkb];exact hB.block k hk
  ·rw[Z8I _ _ _ _ (by show bt≠w.heap.size;omega),Z8I _ _ _ _ (by show bt≠w.heap.size;omega)];simp[World.setCell,Z8R,hw1]
 ·simp at hx
end Vm
namespace Vm
open Go Go.Proofs Go.RowKit
set_option maxHeartbeats 1000000
set_option maxRecDepth 100000
theorem Qt(w:World)(f:FuncId)(vs:Array Value)(ws:List Int)(g o cap:Nat)(hw:Words w ws g o cap)(hg:g<w.heap.size)(a:Nat)(x:Int)(hx:ws[a]? =some x)(hna: ¬(adr x).2=0):
  Calls Try.prog 126 #[.slice (some ⟨g,o,none⟩) ws.length cap,.int .i64 a,.func (.func f) #[] vs] w fun e w'=>e=begE a x∧Below w.heap.size w w':=by
 have hl:=hw.len;have hc:=hw.le;have hm:=hw.cap;have hlt:a<ws.length:=(Z8o.1 hx).1;have hlt':(a:Int) <ws.length:=by omega
 have hu:U64 x:=hw.u64 x (Z8x hx);have c0:=hw.at_ a x hx;have cc: ∀W,Below w.heap.size w W→W.cell? ⟨g,o+a,none⟩=some (.int .u64 x):=fun W hb=>(hb.cell (p:=⟨g,o+a,none⟩) hg).trans c0;have he:begE a x=if(unpk x).2.2=0 then .returned (obA ⟨a,(unpk x).1,(unpk x).2.1,false,0⟩)else .panicked (Xk 3):=rfl
 generalize begE a x=E at*;have HC:=Z8r cc;have hfn:=fun W=>Z0b W f vs;have hna':((adr x).2=0)=False:=Zan hna;clear hw hx cc;by_cases h0:(unpk x).2.2=0
 ·rw[if_pos h0]at he;have HE:=Z8r he;clear he;go_enter Try.func126,Try.ntmps126
  go_wp2_with (first
   | (go_at_call 59;refine(ZQ hu _).mono ?_;rintro e w1 ⟨rfl,hb1⟩;have HB1:=Z8r hb1;have d0:=HC.out w1 (((((Z8E _ w).alloc (Z8v _) _).alloc (by simp) _).trans (hb1.mono (by simp;omega))));clear hb1)
   | (go_at_call 62;refine(X2 hu _).mono ?_;rintro e w2 ⟨rfl,hb2⟩;have HB2:=Z8r hb2
      have hB:=HB1.out.block;have r0:w2.heap[w.heap.size]? =some (.cells #[.int .i64 0,.int .i64 0,.int .i64 0,.bool false,.int .u64 0] 49 (0,0)):=(hb2.block _ (by have:=HB1.out.size;simp at this;omega)).trans ((HB1.out.block _ (by simp;omega)).trans ((Z8t _ _ _ (by simp)).trans (Z8C w _)));have r1:w2.heap[w.heap.size+1]? =some (.cells #[.int .i64 a,.int .i64 0,.int .i64 0,.bool false,.int .u64 0] 49 (0,0)):=(hb2.block _ (by have:=HB1.out.size;simp at this;omega)).trans ((HB1.out.block _ (by simp)).trans (by have:=Z8C (w.alloc (.cells #[.int .i64 0,.int .i64 0,.int .i64 0,.bool false,.int .u64 0] 49)) (.cells #[.int .i64 a,.int .i64 0,.int .i64 0,.bool false,.int .u64 0] 49);simpa using this));obtain⟨⟨x0,x1,x2,x3,x4⟩,y0,y1,y2,y3,y4⟩:=row5 r0 (.cells #[.int .i64 (unpk x).1,.int .i64 (unpk x).2.1] 47);obtain⟨⟨p0,p1,p2,p3,p4⟩,q0,q1,q2,q3,q4⟩:=row5 r1 (.cells #[.int .i64 (unpk x).1,.int .i64 (unpk x).2.1] 47);have HR:=Z8r (And.intro r0 r1);clear hb2 hB r0 r1))
  refine Z8K (v:=obA ⟨a,(unpk x).1,(unpk x).2.1,false,0⟩) ?_ rfl ⟨HE.out.symm,?_⟩
  ·simp[results,Try.results126,go_sem,obA,x0,x1,x2,x3,x4]
  ·have h1:=(((Z8E _ w).alloc (Z8v _) (.cells #[.int .i64 0,.int .i64 0,.int .i64 0,.bool false,.int .u64 0] 49)).alloc (by simp) (.cells #[.int .i64 a,.int .i64 0,.int .i64 0,.bool false,.int .u64 0] 49)).trans (HB1.out.mono (by simp;omega));have h2:=(h1.trans (HB2.out.mono (by have:=h1.size;omega))).alloc (by have:=h1.size;have:=HB2.out.size;omega) (.cells #[.int .i64 (unpk x).1,.int .i64 (unpk x).2.1] 47);exact((((((h2.setCell (p:=⟨w.heap.size+1,1,none⟩) (by simp) _).setCell (p:=⟨w.heap.size+1,2,none⟩) (by simp) _).setCell (p:=⟨w.heap.size,0,none⟩) (Z8v _) _).setCell (p:=⟨w.heap.size,1,none⟩) (Z8v _) _).setCell (p:=⟨w.heap.size,2,none⟩) (Z8v _) _).setCell (p:=⟨w.heap.size,3,none⟩) (Z8v _) _).setCell (p:=⟨w.heap.size,4,none⟩) (Z8v _) _
 ·rw[if_neg h0]at he;have HE:=Z8r he;clear he;have h0':((unpk x).2.2=0)=False:=Zan h0;go_enter Try.func126,Try.ntmps126
  go_wp2_with (first
   | (go_at_call 59;refine(ZQ hu _).mono ?_;rintro e w1 ⟨rfl,hb1⟩;have HB1:=Z8r hb1;have d0:=HC.out w1 (((((Z8E _ w).alloc (Z8v _) _).alloc (by simp) _).trans (hb1.mono (by simp;omega))));clear hb1)
   | (go_at_call 62;refine(X2 hu _).mono ?_;rintro e w2 ⟨rfl,hb2⟩;have HB2:=Z8r hb2;clear hb2))
  refine⟨rfl,HE.out.symm,?_⟩;have h1:=(((Z8E _ w).alloc (Z8v _) (.cells #[.int .i64 0,.int .i64 0,.int .i64 0,.bool false,.int .u64 0] 49)).alloc (by simp) (.cells #[.int .i64 a,.int .i64 0,.int .i64 0,.bool false,.int .u64 0] 49)).trans (HB1.out.mono (by simp;omega));exact(h1.trans (HB2.out.mono (by have:=h1.size;omega))).alloc (by have:=h1.size;have:=HB2.out.size;omega) _
theorem VK(w:World)(vs:Array Value)(ws:List Int)(g o cap:Nat)(hw:Words w ws g o cap)(hg:g<w.heap.size)(a:Nat)(x:Int)(hx:ws[a]? =some x)(hna:(adr x).2=0)
  (hcall: ∀W,Below w.heap.size w W→Calls Try.prog 121 vs W fun e W'=>e= .panicked (Xk 3)∧Below W.heap.size W W'):
  Calls Try.prog 126 #[.slice (some ⟨g,o,none⟩) ws.length cap,.int .i64 a,.func (.func 121) #[] vs] w fun e w'=>e= .panicked (Xk 3)∧Below w.heap.size w w':=by
 have hl:=hw.len;have hc:=hw.le;have hm:=hw.cap;have hlt:a<ws.length:=(Z8o.1 hx).1;have hlt':(a:Int) <ws.length:=by omega
 have hu:U64 x:=hw.u64 x (Z8x hx);have c0:=hw.at_ a x hx;have hfn:=fun W=>Z0b W 121 vs;have HX:=Z8r hcall;clear hw hx hcall;go_enter Try.func126,Try.ntmps126
 go_wp2_with (first
  | (go_at_call 59;refine(ZQ hu _).mono ?_;rintro e w1 ⟨rfl,hb1⟩
     have hB:Below w.heap.size w w1:=((((Z8E _ w).alloc (Z8v _) _).alloc (by simp) _).trans (hb1.mono (by simp;omega)));have r1:w1.heap[w.heap.size+1]? =some (.cells #[.int .i64 a,.int .i64 0,.int .i64 0,.bool false,.int .u64 0] 49 (0,0)):=(hb1.block _ (by simp)).trans (by have:=Z8C (w.alloc (.cells #[.int .i64 0,.int .i64 0,.int .i64 0,.bool false,.int .u64 0] 49)) (.cells #[.int .i64 a,.int .i64 0,.int .i64 0,.bool false,.int .u64 0] 49);simpa using this);have p3:w1.cell? ⟨w.heap.size+1,3,none⟩=some (.bool false):=by rw[Z8s _ _ _ _ _ _ r1];rfl
     have p4:w1.cell? ⟨w.heap.size+1,4,none⟩=some (.int .u64 0):=by rw[Z8s _ _ _ _ _ _ r1];rfl
     have q3:=Zk (o:=3) r1;have q4:=Zk (o:=4) r1;have HB:=Z8r hB;clear hb1 hB r1)
  | (go_at_call 121;refine(HX.out _ ?_).mono ?_;rotate_left;rintro e w2 ⟨rfl,hb2⟩;have HB2:=Z8r hb2;clear hb2))
 case refine_1=>exact(HB.out.setCell (p:=⟨w.heap.size+1,3,none⟩) (by simp) _).setCell (p:=⟨w.heap.size+1,4,none⟩) (by simp) _
 case refine_2=>
  have h2:=(HB.out.setCell (p:=⟨w.heap.size+1,3,none⟩) (by simp) (.bool true)).setCell (p:=⟨w.heap.size+1,4,none⟩) (by simp) (.int .u64 (adr x).1);exact⟨rfl,rfl,h2.trans (HB2.out.mono h2.size)⟩
theorem XF{w W:World}{r:Option Nat}(h:w.grownBy W r){p:Addr}(hp:w.heap.size≤p.block)(u:Value):w.grownBy (W.setCell p u) r:=
 ⟨h.os,h.tape,h.output,by simpa[World.setCell]using h.size,fun k hk hne=>(Z8I _ _ _ _ (by omega)).trans (h.block k hk hne)⟩
theorem Qw(w:World)(vs:Array Value)(ws:List Int)(g o cap:Nat)(hw:Words w ws g o cap)(hg:g<w.heap.size)(a:Nat)(x:Int)(hx:ws[a]? =some x)(hna:(adr x).2=0)
  (bt:Nat) (O:Obj) (s p:Int) (hbt:bt<w.heap.size)
  (hcall: ∀W,Below w.heap.size w W→Calls Try.prog 121 vs W fun e W'=>e= .returned (.agg #[.int .i64 s,.int .i64 p])∧W.grownBy W' (some bt)∧W'.heap[bt]? =some O):
  Calls Try.prog 126 #[.slice (some ⟨g,o,none⟩) ws.length cap,.int .i64 a,.func (.func 121) #[] vs] w fun e w'=>e= .returned (obA ⟨a,s,p,true,(adr x).1⟩)∧w.grownBy w' (some bt)∧w'.heap[bt]? =some O:=by
 have hl:=hw.len;have hc:=hw.le;have hm:=hw.cap;have hlt:a<ws.length:=(Z8o.1 hx).1;have hlt':(a:Int) <ws.length:=by omega
 have hu:U64 x:=hw.u64 x (Z8x hx);have c0:=hw.at_ a x hx;have hfn:=fun W=>Z0b W 121 vs;have HX:=Z8r hcall;clear hw hx hcall;go_enter Try.func126,Try.ntmps126
 go_wp2_with (first
  | (go_at_call 59;refine(ZQ hu _).mono ?_;rintro e w1 ⟨rfl,hb1⟩
     have hB:Below w.heap.size w w1:=((((Z8E _ w).alloc (Z8v _) _).alloc (by simp) _).trans (hb1.mono (by simp;omega)));have r1:w1.heap[w.heap.size+1]? =some (.cells #[.int .i64 a,.int .i64 0,.int .i64 0,.bool false,.int .u64 0] 49 (0,0)):=(hb1.block _ (by simp)).trans (by have:=Z8C (w.alloc (.cells #[.int .i64 0,.int .i64 0,.int .i64 0,.bool false,.int .u64 0] 49)) (.cells #[.int .i64 a,.int .i64 0,.int .i64 0,.bool false,.int .u64 0] 49);simpa using this);have p3:w1.cell? ⟨w.heap.size+1,3,none⟩=some (.bool false):=by rw[Z8s _ _ _ _ _ _ r1];rfl
     have p4:w1.cell? ⟨w.heap.size+1,4,none⟩=some (.int .u64 0):=by rw[Z8s _ _ _ _ _ _ r1];rfl
     have q3:=Zk (o:=3) r1;have q4:=Zk (o:=4) r1;have r0:w1.heap[w.heap.size]? =some (.cells #[.int .i64 0,.int .i64 0,.int .i64 0,.bool false,.int .u64 0] 49 (0,0)):=(hb1.block _ (by simp;omega)).trans ((Z8t _ _ _ (by simp)).trans (Z8C w _));have HR:=Z8r (And.intro r0 r1);have HB:=Z8r hB;clear hb1 hB r0 r1)
  | (go_at_call 121;refine(HX.out _ ?_).mono ?_;rotate_left;rintro e w2 ⟨rfl,hb2,ho2⟩
     have HB2:=Z8r hb2;have HO2:=Z8r ho2;have z1:w2.heap[w.heap.size+1]? =some (.cells #[.int .i64 a,.int .i64 0,.int .i64 0,.bool true,.int .u64 (adr x).1] 49 (0,0)):=(hb2.block _ (by simp[World.setCell];exact Za HR.out.2) (by simp;omega)).trans (by simp[World.setCell,Z8R,HR.out.2]);have z0:w2.heap[w.heap.size]? =some (.cells #[.int .i64 0,.int .i64 0,.int .i64 0,.bool false,.int .u64 0] 49 (0,0)):=(hb2.block _ (by simp[World.setCell];exact Za HR.out.1) (by simp;omega)).trans (by simp[World.setCell,Z8R,HR.out.1]);have s0:w2.cell? ⟨w.heap.size+1,0,none⟩=some (.int .i64 a):=by rw[Z8s _ _ _ _ _ _ z1];rfl
     have s1:w2.cell? ⟨w.heap.size+1,1,none⟩=some (.int .i64 0):=by rw[Z8s _ _ _ _ _ _ z1];rfl
     have s2:w2.cell? ⟨w.heap.size+1,2,none⟩=some (.int .i64 0):=by rw[Z8s _ _ _ _ _ _ z1];rfl
     have s3:w2.cell? ⟨w.heap.size+1,3,none⟩=some (.bool true):=by rw[Z8s _ _ _ _ _ _ z1];rfl
     have s4:w2.cell? ⟨w.heap.size+1,4,none⟩=some (.int .u64 (adr x).1):=by rw[Z8s _ _ _ _ _ _ z1];rfl
     have t0:w2.cell? ⟨w.heap.size,0,none⟩=some (.int .i64 0):=by rw[Z8s _ _ _ _ _ _ z0];rfl
     have t1:w2.cell? ⟨w.heap.size,1,none⟩=some (.int .i64 0):=by rw[Z8s _ _ _ _ _ _ z0];rfl
     have t2:w2.cell? ⟨w.heap.size,2,none⟩=some (.int .i64 0):=by rw[Z8s _ _ _ _ _ _ z0];rfl
     have t3:w2.cell? ⟨w.heap.size,3,none⟩=some (.bool false):=by rw[Z8s _ _ _ _ _ _ z0];rfl
     have t4:w2.cell? ⟨w.heap.size,4,none⟩=some (.int .u64 0):=by rw[Z8s _ _ _ _ _ _ z0];rfl
     have u1:=Zk (o:=1) z1;have u2:=Zk (o:=2) z1;have v0:=Zk (o:=0) z0;have v1:=Zk (o:=1) z0;have v2:=Zk (o:=2) z0;have v3:=Zk (o:=3) z0;have v4:=Zk (o:=4) z0;clear hb2 ho2 z0 z1))
 case refine_1=>exact(HB.out.setCell (p:=⟨w.heap.size+1,3,none⟩) (by simp) _).setCell (p:=⟨w.heap.size+1,4,none⟩) (by simp) _
 next=>
  have h2:=(HB.out.setCell (p:=⟨w.heap.size+1,3,none⟩) (by simp) (.bool true)).setCell (p:=⟨w.heap.size+1,4,none⟩) (by simp) (.int .u64 (adr x).1);have hg2:w.grownBy w2 (some bt):=⟨HB2.out.os.trans h2.os,HB2.out.tape.trans h2.tape,HB2.out.output.trans h2.output,Z8Y h2.size HB2.out.size,fun k hk hne=>(HB2.out.block k (Z8z hk h2.size) hne).trans (h2.block k hk)⟩;have k1:bt≠w.heap.size+1:=by omega
  have k2:bt≠w.heap.size:=by omega
  clear h2;refine Z8K (v:=obA ⟨a,s,p,true,(adr x).1⟩) ?_ rfl ⟨rfl,?_,?_⟩
  ·simp[results,Try.results126,go_sem,obA,t0,t1,t2,t3,t4]
  ·exact XF (XF (XF (XF (XF (XF (XF hg2 (by simp) _) (by simp) _) (by simp) _) (by simp) _) (by simp) _) (by simp) _) (by simp) _
  ·rw[Z8I _ _ _ _ k2,Z8I _ _ _ _ k2,Z8I _ _ _ _ k2,Z8I _ _ _ _ k2,Z8I _ _ _ _ k2,Z8I _ _ _ _ k1,Z8I _ _ _ _ k1];exact HO2.out
end Vm
namespace Vm
open Go Go.Proofs Go.RowKit Go.Shelf
set_option maxHeartbeats 1000000
set_option maxRecDepth 100000
def rowB(W:World)(bl:Nat):Option Nat:=(W.cell? ⟨bl,0,none⟩).bind Value.ownBlock
structure KpW (bl base:Nat) (A B:World):Prop where
 size:A.heap.size≤B.heap.size
 same: ∀k o,A.heap[k]? =some o→o.isCells=true→k≠bl→(k<base∨rowB A bl≠some k)→B.heap[k]? =some o
 row: ∀k,k<A.heap.size→rowB B bl=some k→rowB A bl=some k
theorem KpW.trans{bl base:Nat}{A B C:World}(h:KpW bl base A B)(k:KpW bl base B C):KpW bl base A C:=
 ⟨Z8Y h.size k.size,fun i o hi hc hn hr=>k.same i o (h.same i o hi hc hn hr) hc hn (hr.imp id fun hne e=>hne (h.row i (Za hi) e)),fun i hi hr=>h.row i hi (k.row i (Z8z hi h.size) hr)⟩
theorem KpW.put{bl base:Nat}{W:World}{l:Nat}{o:Obj}(o':Obj)(hl:W.heap[l]? =some o)(ho:o.isCells=false)(hne:bl≠l):KpW bl base W (W.putObj l o'):=by
 have hcell:(W.putObj l o').cell? ⟨bl,0,none⟩=W.cell? ⟨bl,0,none⟩:=Z9v (Z94 (by show bl≠l;exact hne));refine⟨(ZaO W l o').size,fun k o2 hk hk2 _ _=> ?_,fun k _ hr=> ?_⟩
 ·have:k≠l:=fun e=>by rw[e,hl]at hk;cases hk;rw[ho]at hk2;cases hk2
  exact(Z94 this).trans hk
 ·unfold rowB at hr⊢;rw[hcell]at hr;exact hr
def Z1z(ws:List Int)(g o cap:Nat)(gv:Value)(shs:List (Int×Int))(old:Bool)(bt:Option Nat)(K:Nat→World→Prop):Prop:=
 ∀(W:World) (a t:Nat) (x:Int),Words W ws g o cap→g<W.heap.size→K t W→ws[a]? =some x→
  Calls Try.prog 126 #[.slice (some ⟨g,o,none⟩) ws.length cap,.int .i64 a,gv] W fun e W'=>W.grownBy W' bt∧match objR shs old a t x with
   |some (ob,t')=>e= .returned (obA ob)∧K t' W'
   |none=>e= .panicked (Xk 3)
def endS(ws:List Int)(shs:List (Int×Int))(old:Bool)(K:Nat→World→Prop)(xs:List Ob)(W:World):Prop:=
 ∃t,K t W∧Zp ws shs old=(if t<shs.length then([],3)else(xs,0))
def endP(ws:List Int)(shs:List (Int×Int))(old:Bool)(chain:List PanicEntry)(pre:List Ob)(W:World):Prop:=
 ∃e,(e=2∨e=3)∧chain=Xk e∧Zp ws shs old=([],e)
structure Stat6 (ws:List Int) (g o cap:Nat) (sv:Value) (bw bg base bl:Nat) (bt:Option Nat) (gv:Value) (W:World):Prop where
 words:Words W ws g o cap
 sv_:sv= .slice (some ⟨g,o,none⟩) ws.length cap∨(ws= []∧ ∃a c,sv= .slice a 0 c)
 hbw:W.heap[bw]? =some (.cells #[sv] 23 (0,0))
 hbg:W.heap[bg]? =some (.cells #[gv] 183 (0,0))
 gb:ws≠ []→ ∃ob,W.heap[g]? =some ob∧ob.isCells=true
 lt:g<base∧bw<base∧bg<base∧base≤W.heap.size
 ne:g≠bl∧bw≠bl∧bg≠bl
 nt:some g≠bt∧some bw≠bt∧some bg≠bt
section
variable {ws:List Int} {g o cap bw bg base bl:Nat} {bt:Option Nat} {sv gv:Value} {W W':World}
theorem Stat6.of(h:Stat6 ws g o cap sv bw bg base bl bt gv W)(hs:W.heap.size≤W'.heap.size)(hb: ∀k ob,W.heap[k]? =some ob→ob.isCells=true→k<base→k≠bl→some k≠bt→W'.heap[k]? =some ob):Stat6 ws g o cap sv bw bg base bl bt gv W':=by
 refine⟨⟨fun i x hx=> ?_,h.words.le,h.words.cap,h.words.len,h.words.u64⟩,h.sv_,hb _ _ h.hbw rfl h.lt.2.1 h.ne.2.1 h.nt.2.1,hb _ _ h.hbg rfl h.lt.2.2.1 h.ne.2.2 h.nt.2.2,fun hn=> ?_,⟨h.lt.1,h.lt.2.1,h.lt.2.2.1,Z8Y h.lt.2.2.2 hs⟩,h.ne,h.nt⟩
 ·have hn:ws≠ []:=fun e=>by rw[e]at hx;simp at hx
  obtain⟨ob,ho,hc⟩:=h.gb hn;have h2:=hb _ _ ho hc h.lt.1 h.ne.1 h.nt.1;rw[←h.words.at_ i x hx];exact Z9v (h2.trans ho.symm)
 ·obtain⟨ob,ho,hc⟩:=h.gb hn;exact⟨ob,hb _ _ ho hc h.lt.1 h.ne.1 h.nt.1,hc⟩
theorem Stat6.grown(h:Stat6 ws g o cap sv bw bg base bl bt gv W)(hg:W.grownBy W' bt):Stat6 ws g o cap sv bw bg base bl bt gv W':=
 h.of hg.size fun k ob hk _ _ _ hn=>(hg.block k (Za hk) hn).trans hk
theorem Stat6.kp(h:Stat6 ws g o cap sv bw bg base bl bt gv W)(hk:KpW bl base W W'):Stat6 ws g o cap sv bw bg base bl bt gv W':=
 h.of hk.size fun k ob hk1 hc hlt hne _=>hk.same k ob hk1 hc hne (.inl hlt)
end
theorem YJ{W W':World}(hb:Below W.heap.size W W')(r:Option Nat):W.grownBy W' r:=⟨hb.os,hb.tape,hb.output,hb.size,fun k hk _=>hb.block k hk⟩
theorem Z3b{ws:List Int}{g o cap:Nat}:Z1z ws g o cap .nilFunc [] false none (fun t _=>t=0):=by
 intro W a t x hw hg hK hx;refine(Z0w W ws g o cap hw hg a x hx).mono ?_;rintro e W' ⟨rfl,hb⟩;refine⟨YJ hb none,?_⟩;unfold objR begE;rw[if_neg (by simp)];by_cases hu:(unpk x).2.2=0
 ·simp only[hu,Z9c];exact⟨trivial,hK⟩
 ·simp only[hu,Z9f]
theorem Shps.grown{W W':World}{shs:List (Int×Int)}{bs:Nat}{v:Value}{r:Option Nat}(h:Shps W shs bs v)(hg:W.grownBy W' r)(hbs:some bs≠r)(hgb:shs≠ []→ ∀g o cap,v= .slice (some ⟨g,o,none⟩) shs.length cap→some g≠r):Shps W' shs bs v:=by
 refine⟨(hg.block _ (Za h.box) hbs).trans h.box,?_⟩;rcases h.val with ⟨g,o,cap,rfl,h1,h2,h3,h4⟩ | ⟨a,cap,rfl,rfl⟩
 ·refine .inl ⟨g,o,cap,rfl,h1,h2,Z8z h3 hg.size,fun i x hx=> ?_⟩;have hb:=hg.block g h3 (hgb (fun e=>by rw[e]at hx;simp at hx) _ _ _ rfl);exact⟨(Z9v hb).trans (h4 i x hx).1,(Z9v hb).trans (h4 i x hx).2⟩
 ·exact .inr ⟨a,cap,rfl,rfl⟩
def KOld(shs:List (Int×Int))(bt bs:Nat)(v:Value)(t:Nat)(W:World):Prop:=W.heap[bt]? =some (.cells #[.int .i64 t] 3 (0,0))∧Shps W shs bs v∧t≤shs.length
theorem Z3g{ws:List Int}{g o cap:Nat}{shs:List (Int×Int)}{bt bs:Nat}{v:Value}(hl:shs.length≤1000000)(hbs:bs≠bt)(hgb:shs≠ []→ ∀g o cap,v= .slice (some ⟨g,o,none⟩) shs.length cap→g≠bt):
  Z1z ws g o cap (.func (.func 121) #[] #[.pointer (some ⟨bt,0,none⟩),.pointer (some ⟨bs,0,none⟩)]) shs true (some bt) (KOld shs bt bs v):=by
 intro W a t x hw hg hK hx;obtain⟨hb,hs,ht⟩:=hK;have hbs':some bs≠some bt:=fun e=>hbs (by simpa using e);have hgb':shs≠ []→ ∀g o cap,v= .slice (some ⟨g,o,none⟩) shs.length cap→some g≠some bt:=fun hn g o cap e e2=>hgb hn g o cap e (by simpa using e2);have hsB: ∀W',Below W.heap.size W W'→Shps W' shs bs v:=fun W' hB=>hs.grown (YJ hB none) (by simp) (fun _ _ _ _ _=>by simp);have hbB: ∀W',Below W.heap.size W W'→W'.heap[bt]? =some (.cells #[.int .i64 t] 3 (0,0)):=fun W' hB=>(hB.block _ (Za hb)).trans hb;by_cases ha:(adr x).2=0
 ·unfold objR;rw[if_pos ⟨rfl,ha⟩];cases hxs:shs[t]? with
  |none=>
   have:t=shs.length:=by have:=ZaT.1 hxs;omega
   subst this;refine(VK W _ ws g o cap hw hg a x hx ha fun W' hB=>Z2k W' shs bt bs v hl (hsB W' hB) (hbB W' hB)).mono ?_;rintro e W' ⟨rfl,hB⟩;exact⟨YJ hB _,rfl⟩
  |some s=>
   simp only;cases hok:Zo s.1 s.2
   ·refine(VK W _ ws g o cap hw hg a x hx ha fun W' hB=>Z1O W' shs bt bs t v s hl (hsB W' hB) (hbB W' hB) hxs hok).mono ?_;rintro e W' ⟨rfl,hB⟩;exact⟨YJ hB _,by simp⟩
   ·refine(Qw W _ ws g o cap hw hg a x hx ha bt _ s.1 s.2 (Za hb) fun W' hB=>Z3v W' shs bt bs t v s hl (hsB W' hB) (hbB W' hB) hxs hok hbs (hgb (fun e=>by rw[e]at hxs;simp at hxs))).mono ?_;rintro e W' ⟨rfl,hG,hO⟩;have hlt:=(Z8o.1 hxs).1;refine⟨hG,?_⟩;simp only[Z9c];exact⟨trivial,hO,hs.grown hG hbs' hgb',by omega⟩
 ·refine(Qt W _ _ ws g o cap hw hg a x hx ha).mono ?_;rintro e W' ⟨rfl,hB⟩;refine⟨YJ hB _,?_⟩;unfold objR begE;rw[if_neg (fun hc=>ha hc.2)];by_cases hu:(unpk x).2.2=0
  ·simp only[hu,Z9c];exact⟨trivial,hbB W' hB,hsB W' hB,ht⟩
  ·simp only[hu,Z9f]
end Vm
end
