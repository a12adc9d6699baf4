import Derived.Deep.RegionHeld3
import Derived.Test.YtjkmonbmpoegjaaSScanOnce4
set_option linter.unusedSimpArgs false
set_option linter.unusedVariables false
section
namespace Vm
open Go Go.Proofs Go.RowKit
set_option maxHeartbeats 4000000
set_option maxRecDepth 100000
structure Now (B:Nat) (w:World) (b:Nat) (h:Hp) (x:Nat→Value):Prop where
 blk:w.heap[b]? =some (.cells #[.int .u64 h.base,.int .i64 h.cap,.int .i64 h.to,.bool h.cycle,.int .i64 h.scan,x 0,x 1,x 2,x 3,x 4] 113 (0,0))
 own:HOwn B w h x
 far: ∀j,j<5→ ∀c,(x j).ownBlock=some c→c≠b
 new:B≤b
def toOf(h:Hp)(part:Int)(a n:Nat):Int:=(X4 (ZD (layH (ZO h part a n)) 1 h.low.length).1).1
def j5(B:Nat)(w:World)(b:Nat)(h:Hp)(p a n:Nat)(e:Ending)(w':World):Prop:=
 ∃x',e= .returned (.int .u64 (toOf h (p+1) a n))∧Below B w w'∧Now B w' b (Yf (ZO h (p+1) a n) (p+1) ((zr (lsH h p) a n).set a (toOf h (p+1) a n))) x'
theorem Jl{P:Program}(w:World){o:Oper}{a:Act}{K:Act→World→Prop}{Q:Exit→Act→World→Prop}(s:Operand)(t:TypeId)
  (ho:o.op= .call {callee:= .builtin .clear,args:= #[s],argTypes:= #[t]}) (vs:Value) (hs:a.eval s=vs)
  (w':World) (hr:(Builtin.clear_ #[t] o.type #[vs]).run P w= .ok (.tuple #[]) w') (h:K (a.put o.dst (.tuple #[])) w'):o.wp P a w K Q:=by
 unfold Oper.wp execOp
 simp only[ho,resolve,invoke,builtin,Sem.run_bind,Sem.run_pure,Result.andThen_ok,List.map_toArray,List.map_cons,List.map_nil,hs,hr]
 exact h
theorem UR{P:Program}(w:World){ops:Array Oper}{rest:List Oper}{o:Oper}{a:Act}{Q:Exit→Act→World→Prop}(hgd:o.guard=none)(s:Operand)(t:TypeId)
  (ho:o.op= .call {callee:= .builtin .clear,args:= #[s],argTypes:= #[t]}) (vs:Value) (hs:a.eval s=vs)
  (w':World) (hr:(Builtin.clear_ #[t] o.type #[vs]).run P w= .ok (.tuple #[]) w') (h:wpList P ops Q rest (a.put o.dst (.tuple #[])) w'):wpList P ops Q (o::rest) a w:=
 wpList_plain hgd fun _ hK=>Jl w s t ho vs hs w' hr (hK _ _ h)
theorem VS{b c:Nat}(hc:c≠b): ∀(vs:List Value) (o:Nat) (w:World),(w.setCells b o vs).heap[c]? =w.heap[c]?
 | [],_,_=>rfl
 |v::r,o,w=>by
  show((w.setCell ⟨b,o,none⟩ v).setCells b (o+1) r).heap[c]? =_
  rw[VS hc r]
  exact Below.heap_setCell _ _ _ _ hc
theorem VM(b:Nat): ∀(vs:List Value) (o:Nat) (w:World),(w.setCells b o vs).heap.size=w.heap.size
 | [],_,_=>rfl
 |v::r,o,w=>by
  show((w.setCell ⟨b,o,none⟩ v).setCells b (o+1) r).heap.size=_
  rw[VM b r]
  simp[World.setCell]
theorem Vj{B b:Nat}(hb:B≤b): ∀(vs:List Value) (o:Nat) (w0 w:World),Below B w0 w→Below B w0 (w.setCells b o vs)
 | [],_,_,_,h=>h
 |v::r,o,w0,w,h=>Vj hb r (o+1) w0 _ (h.setCell hb _)
theorem Jd{B g len cap:Nat}{L:List Int}(a:Nat): ∀(n k:Nat) (w:World),a+k+n≤len→w.ownsRow B 22 1 (.slice (some ⟨g,0,none⟩) len cap) len (nums .u64 (zr L a k))→
  (w.setCells g (a+k) (List.replicate n (.int .u64 0))).ownsRow B 22 1 (.slice (some ⟨g,0,none⟩) len cap) len (nums .u64 (zr L a (k+n)))
 |0,k,w,_,h=>h
 |n+1,k,w,hl,h=>by
  have h1:=(h.stored (a+k) (.int .u64 0)).1
  have h2:(nums .u64 (zr L a k)).set (a+k) (.int .u64 0)=nums .u64 (zr L a (k+1)):=by rw[zr,RW]
  rw[h2]at h1
  have:=Jd a n (k+1) _ (by omega) h1
  rw[show k+1+n=k+(n+1)by omega]at this
  exact this
theorem R2(w:World)(B b:Nat)(h:Hp)(x:Nat→Value)(hN:Now B w b h x)(hB:B≤w.heap.size)(hh:h.ok)(p a n:Nat)(hp:p=2∨p=3)(hn0:0<n)(hn:n≤1000)(hroom:(n:Int)≤Yo (layH h))
  (g cap:Nat) (hx:x p= .slice (some ⟨g,0,none⟩) (lsH h p).length cap) (han:a+n≤(lsH h p).length) (c':Nat):
  Calls Try.prog 63 #[.pointer (some ⟨b,0,none⟩),.slice (some ⟨g,a,none⟩) n c'] w (j5 B w b h p a n):=by
 obtain⟨iU,hiU,hzU,hsU,hbU⟩:=info_parts Z4T
 have hl0:(lsH h 0).length≤1000000:=YJ hh 0
 obtain⟨v1,w1,hr1,ho1,hg1,hn1⟩:=Kd (P:=Try.prog) (w:=w) (T:=23) (tI:=3) (ty:=23) Try.underlying23 Try.underlying3 hiU hzU rfl rfl hsU hbU (hN.own.own 0 (by omega)) hB hn0 (by omega) .i64
 obtain⟨a0,q0,e0⟩:=Z1 (hN.own.own 0 (by omega))
 have b0:w.cell? ⟨b,5,none⟩=some (x 0):=by rw[cell_of_row _ _ _ _ _ _ hN.blk];rfl
 have f0:w.frozen? ⟨b,5,none⟩=false:=Zb hN.blk
 have hbw:=Zk hN.blk
 have hne:some b≠(x 0).ownBlock:=fun e=>hN.far 0 (by omega) b e.symm rfl
 have c1:=(hg1.cell_far ⟨b,5,none⟩ hbw hne).trans b0
 have f1:=(hg1.frozen_far ⟨b,5,none⟩ hbw hne).trans f0
 rw[e0]at hr1 b0 c1
 have hlx:(nums .u64 (lsH h 0)).length=(lsH h 0).length:=by simp[nums]
 rcases ho1.2 with ⟨_,hbad⟩ | ⟨g0,q1,cur,hv1,hg0B,hcur,hq1,hqm,hcsz,htake⟩
 ·omega
 subst hv1
 have hq1': ¬q1=(lsH h 0).length:=by omega
 have hg0b:g0≠b:=by
  intro e
  rcases hn1 with e1| ⟨_,e1⟩
  ·exact hne (by rw[←e1,e];rfl)
  ·have:=(e1.lt g0 rfl).1;omega
 have hgb:g≠b:=hN.far p (by omega) g (by rw[hx];rfl)
 have hgw:g<w.heap.size:=((hN.own.own p (by omega)).lt g (by rw[hx];rfl)).2
 have hgx:some g≠(x 0).ownBlock:=fun e=>hN.own.apart 0 p (by omega) (by omega) g e.symm (by rw[hx];rfl)
 have hgg0:g≠g0:=by
  intro e
  rcases hn1 with e1| ⟨_,e1⟩
  ·exact hgx (by rw[←e1,e];rfl)
  ·have:=(e1.lt g0 rfl).1;omega
 obtain⟨w2,hw2⟩: ∃w2,w2=w1.setCell ⟨b,5,none⟩ (.slice (some ⟨g0,0,none⟩) ((lsH h 0).length+n) q1):=⟨_,rfl⟩
 have hcur2:w2.heap[g0]? =some (.cells cur 22 (0,0)):=by rw[hw2,Below.heap_setCell _ _ _ _ hg0b];exact hcur
 have hgk: ∀c,c≠b→c<w.heap.size→some c≠(x 0).ownBlock→w2.heap[c]? =w.heap[c]? :=fun c h1 h2 h3=>by
  rw[hw2,Below.heap_setCell _ _ _ _ h1,hg1.block c h2 h3]
 have hblk2:w2.heap[b]? =some (.cells #[.int .u64 h.base,.int .i64 h.cap,.int .i64 h.to,.bool h.cycle,.int .i64 h.scan,.slice (some ⟨g0,0,none⟩) ((lsH h 0).length+n) q1,x 1,x 2,x 3,x 4] 113 (0,0)):=by
  have:=(hg1.block b hbw hne).trans hN.blk
  rw[hw2]
  simp[World.setCell,Array.getElem?_modify,this]
 have hcell2:w2.cell? ⟨b,5,none⟩=some (.slice (some ⟨g0,0,none⟩) ((lsH h 0).length+n) q1):=by rw[cell_of_row _ _ _ _ _ _ hblk2];rfl
 have hown2:w2.ownsRow B 22 1 (x p) (lsH h p).length (nums .u64 (lsH h p)):=Zn (hN.own.own p (by omega)) fun c hc=>by
  rw[hx]at hc
  cases hc
  exact hgk g hgb hgw hgx
 obtain⟨cs,hcs⟩: ∃cs,cs=nums .u64 (((lsH h p).take (a+n)).drop a):=⟨_,rfl⟩
 have hcl:cs.length=n:=by rw[hcs];simp[nums];omega
 have hsrc: ∀j v,cs[j]? =some v→w2.cell? ((⟨g,a,none⟩:Addr).add j)=some v:=by
  intro j v hv
  have hj:j<n:=by rw[←hcl];exact(List.getElem?_eq_some_iff.1 hv).1
  rw[hx]at hown2
  have:=hown2.cellAt (a+j) (by omega)
  rw[Addr.add_lit,this]
  rw[hcs]at hv
  simp only[nums]at hv⊢
  rw[←hv]
  simp[List.getElem?_take,show a+j<a+n by omega]
 obtain⟨w3,hw3⟩: ∃w3,w3=w2.setRow g0 (cur.toList.take (lsH h 0).length++(cs++cur.toList.drop ((lsH h 0).length+cs.length))).toArray:=⟨_,rfl⟩
 have hfit:(lsH h 0).length+cs.length≤cur.size:=by rw[hcl];simp at hcsz;omega
 have hone: ∀v∈cs,v.oneCell'=true:=by
  intro v hv
  rw[hcs]at hv
  obtain⟨_,_,rfl⟩:=List.mem_map.1 hv
  rfl
 have hmin:cs.length=Nat.min n n:=by rw[hcl];simp
 have hsz1:(Try.prog.info? 22).map (·.size)=some 1:=by rw[hiU];simp[hsU]
 have hblk3:w3.heap[b]? =some (.cells #[.int .u64 h.base,.int .i64 h.cap,.int .i64 h.to,.bool h.cycle,.int .i64 h.scan,.slice (some ⟨g0,0,none⟩) ((lsH h 0).length+n) q1,x 1,x 2,x 3,x 4] 113 (0,0)):=by
  rw[hw3,setRow_other _ _ _ _ hg0b.symm];exact hblk2
 have hk3: ∀c,c≠b→c≠g0→c<w.heap.size→some c≠(x 0).ownBlock→w3.heap[c]? =w.heap[c]? :=fun c h1 h2 h3 h4=>by
  rw[hw3,setRow_other _ _ _ _ h2];exact hgk c h1 h3 h4
 have hs12:w.heap.size≤w3.heap.size:=by
  have:=hg1.size
  have e2:w2.heap.size=w1.heap.size:=by rw[hw2];simp[World.setCell]
  have e3:w3.heap.size=w2.heap.size:=by rw[hw3];simp[World.setRow]
  omega
 have hl3:lsH (ZO h (p+1) a n) 0=lsH h 0++((lsH h p).take (a+n)).drop a:=by
  rcases hp with rfl|rfl<;>rfl
 have hl3': ∀j,j≠0→lsH (ZO h (p+1) a n) j=lsH h j:=fun j hj=>by
  unfold lsH ZO
  simp[hj]
 have hown3: ∀j,j<5→w3.ownsRow B 22 1 (if j=0 then .slice (some ⟨g0,0,none⟩) ((lsH h 0).length+n) q1 else x j) (lsH (ZO h (p+1) a n) j).length (nums .u64 (lsH (ZO h (p+1) a n) j)):=by
  intro j hj
  by_cases hj0:j=0
  ·subst hj0
   rw[if_pos rfl,hl3]
   have hd:(((lsH h p).take (a+n)).drop a).length=n:=by simp;omega
   refine⟨by simp[nums],.inr ⟨g0,q1,(cur.toList.take (lsH h 0).length++(cs++cur.toList.drop ((lsH h 0).length+cs.length))).toArray,?_,hg0B,?_,?_,hqm,?_,?_⟩⟩
   ·rw[List.length_append,hd]
   ·rw[hw3];exact setRow_heap _ _ _ _ _ _ hcur2
   ·rw[List.length_append,hd];exact hq1
   ·simp[hcl]at hcsz hfit⊢;omega
   ·have ht:cur.toList.take ((lsH h 0).length)=nums .u64 (lsH h 0):=by
     have:=congrArg (List.take (lsH h 0).length) htake
     rw[List.take_take,Nat.min_eq_left (by omega)]at this
     rw[this,List.take_left' hlx]
    rw[List.length_append,hd,ht]
    simp only[Nat.mul_one]
    rw[←List.append_assoc,List.take_left' (by simp[hlx,hcl]),hcs]
    simp[nums]
  ·rw[if_neg hj0,hl3' j hj0]
   have ho:=hN.own.own j hj
   exact Zn ho fun c hc=>hk3 c (hN.far j hj c hc) (fun e=>by
    rcases hn1 with e1| ⟨_,e1⟩
    ·exact hN.own.apart 0 j (by omega) hj c (by rw[←e1,e];rfl) hc
    ·have h1:=(e1.lt g0 rfl).1
     have h2:=(ho.lt c hc).2
     omega) (ho.lt c hc).2 (fun e=>hN.own.apart 0 j (by omega) hj c e.symm hc)
 have hg0x: ∀j,0<j→j<5→(x j).ownBlock≠some g0:=fun j h0 hj hc=>by
  rcases hn1 with e1| ⟨_,e1⟩
  ·exact hN.own.apart 0 j h0 hj g0 (by rw[←e1];rfl) hc
  ·have h1:=(e1.lt g0 rfl).1
   have h2:=((hN.own.own j hj).lt g0 hc).2
   omega
 have hgj: ∀j,j<5→j≠p→(x j).ownBlock≠some g:=fun j hj hne hc=>by
  have hgp:(x p).ownBlock=some g:=by rw[hx];rfl
  rcases Nat.lt_or_gt_of_ne hne with h1|h1
  ·exact hN.own.apart j p h1 (by omega) g hc hgp
  ·exact hN.own.apart p j h1 hj g hgp hc
 have hgB:B≤g:=((hN.own.own p (by omega)).lt g (by rw[hx];rfl)).1
 have hopw:=hN.own.own p (by omega)
 rw[hx]at hopw
 have hrow: ∀W:World,W.heap[g]? =w.heap[g]? →W.ownsRow B 22 1 (.slice (some ⟨g,0,none⟩) (lsH h p).length cap) (lsH h p).length (nums .u64 (lsH h p)):=fun W hW=>Zn hopw fun c hc=>by
  cases hc
  exact hW
 have hlp:(nums .u64 (lsH h p)).length=(lsH h p).length:=by simp[nums]
 have hcells: ∀W:World,W.heap[g]? =w.heap[g]? →(∀j,j<n→(W.cell? ⟨g,a+j,none⟩).isSome=true)∧(∀j,j<n→W.frozen? ⟨g,a+j,none⟩=false):=fun W hW=>⟨fun j hj=>by
  rw[(hrow W hW).cellAt (a+j) (by omega)]
  simp[hlp];omega,fun j hj=>(hrow W hW).frozenAt _⟩
 have hg3:w3.heap[g]? =w.heap[g]? :=hk3 g hgb hgg0 hgw hgx
 have HN:=Lib.hid hN
 have HO:=Lib.hid ho1
 have HG:=Lib.hid hg1
 have HW2:=Lib.hid hw2
 have HW3:=Lib.hid hw3
 have HO3:=Lib.hid hown3
 have d0:w3.cell? ⟨b,0,none⟩=some (Value.int .u64 h.base):=by rw[cell_of_row _ _ _ _ _ _ hblk3];rfl
 have d1:w3.cell? ⟨b,1,none⟩=some (Value.int .i64 h.cap):=by rw[cell_of_row _ _ _ _ _ _ hblk3];rfl
 have d2:w3.cell? ⟨b,2,none⟩=some (Value.int .i64 h.to):=by rw[cell_of_row _ _ _ _ _ _ hblk3];rfl
 have d3:w3.cell? ⟨b,3,none⟩=some (Value.bool h.cycle):=by rw[cell_of_row _ _ _ _ _ _ hblk3];rfl
 have d4:w3.cell? ⟨b,4,none⟩=some (Value.int .i64 h.scan):=by rw[cell_of_row _ _ _ _ _ _ hblk3];rfl
 have d5:w3.cell? ⟨b,5,none⟩=some (Value.slice (some ⟨g0,0,none⟩) ((lsH h 0).length+n) q1):=by rw[cell_of_row _ _ _ _ _ _ hblk3];rfl
 have d6:w3.cell? ⟨b,6,none⟩=some (x 1):=by rw[cell_of_row _ _ _ _ _ _ hblk3];rfl
 have d7:w3.cell? ⟨b,7,none⟩=some (x 2):=by rw[cell_of_row _ _ _ _ _ _ hblk3];rfl
 have d8:w3.cell? ⟨b,8,none⟩=some (x 3):=by rw[cell_of_row _ _ _ _ _ _ hblk3];rfl
 have d9:w3.cell? ⟨b,9,none⟩=some (x 4):=by rw[cell_of_row _ _ _ _ _ _ hblk3];rfl
 have hm3:(ZO h (p+1) a n).ok:=Lx hh (by rcases hp with rfl|rfl<;>exact han) hroom hn0
 clear hN ho1 hg1 hw2 hw3 hown3
 go_enter Try.func63,Try.ntmps63
 go_wp2_with (first
  | (at_builtin;refine Lib.wpList_append_run _ rfl _ _ 23 3 rfl _ _ rfl rfl _ _ hr1 ?_)
  | (rw[←HW2.out];refine wpList_copy_own rfl _ _ 23 23 rfl 22 Try.underlying23 hsz1 g0 (lsH h 0).length n (q1- (lsH h 0).length) ⟨g,a,none⟩ n c' rfl rfl cur 22 hcur2 cs hmin hsrc hfit hone ?_;rw[←HW3.out])
  | (go_at_call 51;refine(Zm (h:=ZO h (p+1) a n) (x:=fun j=>if j=0 then .slice (some ⟨g0,0,none⟩) ((lsH h 0).length+n) q1 else x j) (G:=fun c=>B≤c∧c<w3.heap.size) (fun c hc=>hc.2) (fun j hj=>Ld (HO3.out j hj) (fun c h1 h2=>⟨h1,h2⟩))).mono ?_;rintro e w4 ⟨rfl,hb4⟩;have HB4:=Lib.hid hb4;clear hb4)
  | (go_at_call 50;refine(JK hm3.lay _ _ _).mono ?_;rintro e w5 ⟨rfl,hb5⟩;have hg5:w5.heap[g]? =w.heap[g]? :=(hb5.block g (by have:=HB4.out.size;omega)).trans ((HB4.out.block g (by omega)).trans hg3);have hs5:w3.heap.size≤w5.heap.size:=Nat.le_trans HB4.out.size hb5.size;have HB5:=Lib.hid hb5;clear hb5;obtain⟨w6,hw6⟩: ∃w6,w6=w5.setCells g a (List.replicate n (.int .u64 0)):=⟨_,rfl⟩;have hs6:w6.heap.size=w5.heap.size:=by {rw[hw6];exact VM _ _ _ _};have c6:w6.cell? ⟨g,a,none⟩=some (.int .u64 0):=by {rw[hw6];have:=World.cell?_setCells_in g (List.replicate n (Value.int .u64 0)) a w5 (by simpa using(hcells w5 hg5).1) 0 (by simpa using hn0);simpa using this};have f6:w6.frozen? ⟨g,a,none⟩=false:=by {rw[hw6,World.frozen?_setCells];exact(hcells w5 hg5).2 0 hn0};have HW6:=Lib.hid hw6;clear hw6)
  | (refine UR _ rfl _ 23 rfl _ rfl _ (Lib.run_clear_slice _ _ 22 _ (.int .u64 0) Try.underlying23 (Xb hiU hzU) rfl rfl g a n c' hn0 (hcells w5 hg5).1 (hcells w5 hg5).2) ?_;rw[←HW6.out])
  | (go_at_call 52;refine(JE Z2v _).mono ?_;rintro e w7 ⟨rfl,hb7⟩;have c7:=(hb7.cell (p:=⟨g,a,none⟩) (by show g<w6.heap.size;omega)).trans c6;have f7:=(hb7.frozen (p:=⟨g,a,none⟩) (by show g<w6.heap.size;omega)).trans f6;have HB7:=Lib.hid hb7;clear hb7))
 go_ret
 have hbel3:Below B w w3:=by
  rw[HW3.out,HW2.out]
  exact Go.below_setRow (Below.setCell (p:=⟨b,5,none⟩) ((Below.refl B w).grown HG.out hB (fun k hk=>((HN.out.own.own 0 (by omega)).lt k hk).1)) HN.out.new _) hg0B _
 have hB3:B≤w3.heap.size:=by omega
 have hbel5:Below B w w5:=(hbel3.trans (HB4.out.mono hB3)).trans (HB5.out.mono (by have:=HB4.out.size;omega))
 have hbel6:Below B w w6:=by rw[HW6.out];exact Vj hgB _ _ _ _ hbel5
 have hbel7:Below B w w7:=hbel6.trans (HB7.out.mono (by omega))
 have hs4:=HB4.out.size
 have hs45:=HB5.out.size
 have h37: ∀(c:Nat) (u:Value),c≠g→c<w3.heap.size→(w7.setCell ⟨g,a,none⟩ u).heap[c]? =w3.heap[c]? :=fun c u h1 h2=>by
  rw[Below.heap_setCell _ _ _ _ h1,HB7.out.block c (by omega),HW6.out,VS h1,HB5.out.block c (by omega),HB4.out.block c h2]
 have hg5:w5.heap[g]? =w.heap[g]? :=(HB5.out.block g (by omega)).trans ((HB4.out.block g (by omega)).trans hg3)
 have hrow6:=Jd (L:=lsH h p) a n 0 w5 (by omega) (hrow w5 hg5)
 have e6:w5.setCells g (a+0) (List.replicate n (.int .u64 0))=w6:=HW6.out.symm
 rw[e6,Nat.zero_add]at hrow6
 have hrow7:=Zn (w':=w7) hrow6 fun c hc=>by
  cases hc
  exact HB7.out.block g (by omega)
 have hrow8:=(hrow7.stored a (.int .u64 (toOf h (p+1) a n))).1
 rw[←RW]at hrow8
 refine⟨fun j=>if j=0 then .slice (some ⟨g0,0,none⟩) ((lsH h 0).length+n) q1 else x j,rfl,hbel7.setCell hgB _,?_,⟨?_,?_⟩,?_,HN.out.new⟩
 ·rw[h37 b _ (fun e=>hgb e.symm) (by omega),hblk3]
  rcases hp with rfl|rfl<;>rfl
 ·intro j hj
  by_cases hjp:j=p
  ·subst hjp
   have e1:lsH (Yf (ZO h (j+1) a n) (j+1) ((zr (lsH h j) a n).set a (toOf h (j+1) a n))) j=(zr (lsH h j) a n).set a (toOf h (j+1) a n):=by
    rcases hp with rfl|rfl<;>rfl
   rw[e1,if_neg (by omega),hx,List.length_set,Lf]
   exact hrow8
  ·have e1:lsH (Yf (ZO h (p+1) a n) (p+1) ((zr (lsH h p) a n).set a (toOf h (p+1) a n))) j=lsH (ZO h (p+1) a n) j:=by
    have:j=0∨j=1∨j=2∨j=3∨j=4:=by omega
    rcases hp with rfl|rfl<;>rcases this with rfl|rfl|rfl|rfl|rfl<;>first|rfl|exact(hjp rfl).elim
   rw[e1]
   have ho:=HO3.out j hj
   refine Zn ho fun c hc=>h37 c _ (fun e=> ?_) (ho.lt c hc).2
   subst e
   by_cases h0:j=0
   ·rw[if_pos h0]at hc
    cases hc
    exact hgg0 rfl
   ·rw[if_neg h0]at hc
    exact hgj j hj hjp hc
 ·intro i j hij hj c hc
  rw[if_neg (show ¬j=0 by omega)]
  by_cases h0:i=0
  ·rw[if_pos h0]at hc
   cases hc
   exact hg0x j (by omega) hj
  ·rw[if_neg h0]at hc
   exact HN.out.own.apart i j hij hj c hc
 ·intro j hj c hc
  by_cases h0:j=0
  ·rw[if_pos h0]at hc
   cases hc
   exact hg0b
  ·rw[if_neg h0]at hc
   exact HN.out.far j hj c hc
end Vm
namespace Vm
open Go Go.Proofs Go.RowKit
set_option maxHeartbeats 4000000
set_option maxRecDepth 100000
theorem Yr(w:World)(B b:Nat)(h:Hp)(x:Nat→Value)(hN:Now B w b h x)(hh:h.ok)(p a:Nat)(hp:p=2∨p=3)(g cap:Nat)
  (hx:x p= .slice (some ⟨g,0,none⟩) (lsH h p).length cap) (ha:a< (lsH h p).length):
  Calls Try.prog 61 #[.pointer (some ⟨b,0,none⟩),.agg #[.int .i64 ((p:Int)+1),.int .i64 a]] w fun e w'=>e= .returned (.slice (some ⟨g,a,none⟩) ((lsH h p).length-a) (cap-a))∧Below w.heap.size w w':=by
 have hbw:=Zk hN.blk
 have hl:=YJ hh p
 have hcap:(lsH h p).length≤cap:=by
  have:=(hN.own.own p (by omega)).2
  rw[hx]at this
  rcases this with ⟨hc,_⟩ | ⟨_,_,_,hc,_,_,h1,_⟩
  ·cases hc
  ·cases hc;exact h1
 rcases hp with rfl|rfl
 ·have c7:(w.alloc (.cells #[.int .i64 3,.int .i64 a] 91)).cell? ⟨b,7,none⟩=some (.slice (some ⟨g,0,none⟩) (lsH h 2).length cap):=by
   rw[World.cell?_alloc_lt _ _ _ hbw,cell_of_row _ _ _ _ _ _ hN.blk,←hx];rfl
  have hcap':((lsH h 2).length:Int)≤9223372036854775807:=by omega
  go_enter Try.func61,Try.ntmps61
  go_wp2
  go_region
  go_wp2
  go_ret
  exact⟨rfl,((Below.refl _ _).alloc (Nat.le_refl _) _).drew⟩
 ·have c8:(w.alloc (.cells #[.int .i64 4,.int .i64 a] 91)).cell? ⟨b,8,none⟩=some (.slice (some ⟨g,0,none⟩) (lsH h 3).length cap):=by
   rw[World.cell?_alloc_lt _ _ _ hbw,cell_of_row _ _ _ _ _ _ hN.blk,←hx];rfl
  have hcap':((lsH h 3).length:Int)≤9223372036854775807:=by omega
  go_enter Try.func61,Try.ntmps61
  go_wp2
  go_region
  go_wp2
  go_ret
  exact⟨rfl,((Below.refl _ _).alloc (Nat.le_refl _) _).drew⟩
end Vm
namespace Vm
open Go Go.Proofs Go.RowKit
set_option maxHeartbeats 4000000
set_option maxRecDepth 100000
def Yu(w:World)(r:Int×Hp×Int)(e:Ending)(w':World):Prop:=
 ∃x,e= .returned (.tuple #[.int .u64 r.1,hpA r.2.1 x,.int .i64 r.2.2])∧Below w.heap.size w w'∧HOwn w.heap.size w' r.2.1 x
theorem Sh{B' B:Nat}{w:World}{e:TypeId}{n:Nat}{v:Value}{l:List Value}(h:w.ownsRow B' e 1 v n l)(hG: ∀c,B'≤c→c<w.heap.size→B≤c∧c<w.heap.size):w.ownsRow B e 1 v n l:=by
 refine⟨h.1,?_⟩
 rcases h.2 with h0| ⟨g,cap,cur,hv,hb,hg,r⟩
 ·exact .inl h0
 ·exact .inr ⟨g,cap,cur,hv,(hG g hb (Zk hg)).1,hg,r⟩
theorem X9(B:Nat)(w':World):HOwn B w' Hp.zero (fun _=> .slice none 0 0):=⟨fun j hj=>by
 have:lsH Hp.zero j= []:=by
  unfold lsH Hp.zero
  split
  ·rfl
  split
  ·rfl
  split
  ·rfl
  split<;>rfl
 rw[this]
 exact World.ownsRow_nil _ _ _ _,fun i j _ _ c hc=>by cases hc⟩
def Z5:Array Value:= #[.int .u64 0,.int .i64 0,.int .i64 0,.bool false,.int .i64 0,.slice none 0 0,.slice none 0 0,.slice none 0 0,.slice none 0 0,.slice none 0 0]
theorem Y2(w:World)(o:Obj):((w.alloc o).alloc (.cells #[.int .u64 0,.int .i64 0,.int .i64 0,.bool false,.int .i64 0,.slice none 0 0,.slice none 0 0,.slice none 0 0,.slice none 0 0,.slice none 0 0] 25)).heap[w.heap.size+1]? =some (.cells Z5 25 (0,0)):=by
 have e:(w.alloc o).heap.size=w.heap.size+1:=by simp
 have:=heap_alloc_new (w.alloc o) (.cells Z5 25)
 rw[e]at this
 exact this
theorem QY{w2:World}{b:Nat}{T:TypeId}(hb:w2.heap[b]? =some (.cells Z5 T (0,0)))(v0 v1 v2 v3 v4 v5 v6 v7 v8 v9:Value):((((((((((w2.setCell ⟨b,0,none⟩ v0).setCell ⟨b,1,none⟩ v1).setCell ⟨b,2,none⟩ v2).setCell ⟨b,3,none⟩ v3).setCell ⟨b,4,none⟩ v4).setCell ⟨b,5,none⟩ v5).setCell ⟨b,6,none⟩ v6).setCell ⟨b,7,none⟩ v7).setCell ⟨b,8,none⟩ v8).setCell ⟨b,9,none⟩ v9).heap[b]? =some (.cells #[v0,v1,v2,v3,v4,v5,v6,v7,v8,v9] T (0,0)):=by
 unfold Z5 at hb
 simp[World.setCell,Array.getElem?_modify,hb]
theorem Zv{w2:World}{b:Nat}{T:TypeId}(hb:w2.heap[b]? =some (.cells Z5 T (0,0)))(v0 v1 v2 v3 v4 v5 v6 v7 v8 v9:Value)(j:Nat):((((((((((w2.setCell ⟨b,0,none⟩ v0).setCell ⟨b,1,none⟩ v1).setCell ⟨b,2,none⟩ v2).setCell ⟨b,3,none⟩ v3).setCell ⟨b,4,none⟩ v4).setCell ⟨b,5,none⟩ v5).setCell ⟨b,6,none⟩ v6).setCell ⟨b,7,none⟩ v7).setCell ⟨b,8,none⟩ v8).setCell ⟨b,9,none⟩ v9).cell? ⟨b,j,none⟩=(#[v0,v1,v2,v3,v4,v5,v6,v7,v8,v9]:Array Value)[j]? :=
 cell_of_row _ _ _ _ _ _ (QY hb v0 v1 v2 v3 v4 v5 v6 v7 v8 v9)
theorem Zr{B:Nat}{w0 w2:World}{b:Nat}(h:Below B w0 w2)(hb:B≤b)(v0 v1 v2 v3 v4 v5 v6 v7 v8 v9:Value):Below B w0 ((((((((((w2.setCell ⟨b,0,none⟩ v0).setCell ⟨b,1,none⟩ v1).setCell ⟨b,2,none⟩ v2).setCell ⟨b,3,none⟩ v3).setCell ⟨b,4,none⟩ v4).setCell ⟨b,5,none⟩ v5).setCell ⟨b,6,none⟩ v6).setCell ⟨b,7,none⟩ v7).setCell ⟨b,8,none⟩ v8).setCell ⟨b,9,none⟩ v9):=
 (((((((((h.setCell hb _).setCell hb _).setCell hb _).setCell hb _).setCell hb _).setCell hb _).setCell hb _).setCell hb _).setCell hb _).setCell hb _
theorem Wn{w2:World}{b c:Nat}(hc:c≠b)(v0 v1 v2 v3 v4 v5 v6 v7 v8 v9:Value):((((((((((w2.setCell ⟨b,0,none⟩ v0).setCell ⟨b,1,none⟩ v1).setCell ⟨b,2,none⟩ v2).setCell ⟨b,3,none⟩ v3).setCell ⟨b,4,none⟩ v4).setCell ⟨b,5,none⟩ v5).setCell ⟨b,6,none⟩ v6).setCell ⟨b,7,none⟩ v7).setCell ⟨b,8,none⟩ v8).setCell ⟨b,9,none⟩ v9).heap[c]? =w2.heap[c]? :=by
 have: ¬b=c:=fun e=>hc e.symm
 simp[World.setCell,Array.getElem?_modify,this]
end Vm
namespace Vm
open Go Go.Proofs Go.RowKit
set_option maxHeartbeats 600000
set_option maxRecDepth 100000
def Uo(h:Hp)(x:Nat→Value):Obj:= .cells #[.int .u64 h.base,.int .i64 h.cap,.int .i64 h.to,.bool h.cycle,.int .i64 h.scan,x 0,x 1,x 2,x 3,x 4] 113
theorem ZW{B:Nat}{w5:World}{h:Hp}{x:Nat→Value}(ho:HOwn B w5 h x)(hB:B≤w5.heap.size):Now B (w5.alloc (Uo h x)) w5.heap.size h x:=by
 refine⟨heap_alloc_new w5 _,⟨fun j hj=> ?_,ho.apart⟩,fun j hj c hc=> ?_,hB⟩
 ·exact Zn (ho.own j hj) fun c hc=>Below.heap_alloc _ _ _ ((ho.own j hj).lt c hc).2
 ·have:=((ho.own j hj).lt c hc).2
  omega
theorem LA(W:World):W.drew.heap=W.heap:=rfl
theorem Yy{w2:World}{b c:Nat}(hc:c≠b)(v0 v1 v2 v3 v4 v5 v6 v7 v8 v9:Value):((((((((((w2.setCell ⟨b,0,none⟩ v0).setCell ⟨b,1,none⟩ v1).setCell ⟨b,2,none⟩ v2).setCell ⟨b,3,none⟩ v3).setCell ⟨b,4,none⟩ v4).setCell ⟨b,5,none⟩ v5).setCell ⟨b,6,none⟩ v6).setCell ⟨b,7,none⟩ v7).setCell ⟨b,8,none⟩ v8).setCell ⟨b,9,none⟩ v9).drew.heap[c]? =w2.heap[c]? :=by
 rw[LA]
 exact Wn hc v0 v1 v2 v3 v4 v5 v6 v7 v8 v9
theorem YF{w:World}{B n q:Nat}{e:TypeId}{z:Nat}{a:Option Addr}{v:Value}{xs:List Value}(h:w.ownsRow B e z v n xs)(hv:v= .slice a n q)(hn:0<n): ∃g,a=some ⟨g,0,none⟩:=by
 subst hv
 rcases h.2 with ⟨_,h0⟩ | ⟨g,cap,cur,hc,_⟩
 ·omega
 ·cases hc;exact⟨g,rfl⟩
theorem qF{w:World}{B n q:Nat}{e:TypeId}{z:Nat}{a:Option Addr}{xs:List Value}(h:w.ownsRow B e z (.slice a n q) n xs)(hn:0<n):n≤q∧q≤maxLen:=by
 rcases h.2 with ⟨_,h0⟩ | ⟨g,cap,cur,hc,_,_,h1,h2,_⟩
 ·omega
 ·cases hc;exact⟨h1,h2⟩
theorem Zi{w:World}{B g cap:Nat}{l:List Int}(h:w.ownsRow B 22 1 (.slice (some ⟨g,0,none⟩) l.length cap) l.length (nums .u64 l)){i:Nat}{v:Int}(hi:l[i]? =some v):w.cell? ⟨g,i,none⟩=some (.int .u64 v):=by
 obtain⟨hl,hv⟩:=List.getElem?_eq_some_iff.1 hi
 rw[h.cellAt i (by omega)]
 simp[nums,hi]
structure FwSt (w W:World) (rb lb kb b B:Nat) (part at_:Int) (h:Hp) (x:Nat→Value):Prop where
 res:W.heap[rb]? =some (.cells Z5 25 (0,0))
 lay:W.heap[lb]? =some (.cells #[.int .u64 (layH h).base,.int .i64 (layH h).cap,.int .i64 (layH h).to,.int .i64 (layH h).low,.int .i64 (layH h).high,.int .i64 (layH h).old,.int .i64 (layH h).far] 53 (0,0))
 plc:W.heap[kb]? =some (.cells #[.int .i64 part,.int .i64 at_] 91 (0,0))
 now:Now B W b h x
 bel:Below w.heap.size w W
 old:w.heap.size≤rb
 rbB:rb<B
 lbB:lb<B
 kbB:kb<B
 sz:B≤W.heap.size
theorem FwSt.below{w W W':World}{rb lb kb b B:Nat}{part at_:Int}{h:Hp}{x:Nat→Value}(s:FwSt w W rb lb kb b B part at_ h x)(hb:Below W.heap.size W W'):FwSt w W' rb lb kb b B part at_ h x:=by
 have hz:=s.sz
 have h1:=s.rbB
 have h2:=s.lbB
 have h3:=s.kbB
 have hs:=hb.size
 have hs0:=s.bel.size
 refine⟨(hb.block _ (by omega)).trans s.res,(hb.block _ (by omega)).trans s.lay,(hb.block _ (by omega)).trans s.plc,⟨(hb.block _ (Zk s.now.blk)).trans s.now.blk,⟨fun j hj=> ?_,s.now.own.apart⟩,s.now.far,s.now.new⟩,s.bel.trans (hb.mono hs0),s.old,h1,h2,h3,by omega⟩
 exact Zn (s.now.own.own j hj) fun c hc=>hb.block _ ((s.now.own.own j hj).lt c hc).2
theorem FwSt.drew{w W:World}{rb lb kb b B:Nat}{part at_:Int}{h:Hp}{x:Nat→Value}(s:FwSt w W rb lb kb b B part at_ h x):FwSt w W.drew rb lb kb b B part at_ h x:=
 ⟨s.res,s.lay,s.plc,⟨s.now.blk,⟨fun j hj=>Zn (s.now.own.own j hj) fun c hc=>rfl,s.now.own.apart⟩,s.now.far,s.now.new⟩,s.bel.drew,s.old,s.rbB,s.lbB,s.kbB,s.sz⟩
theorem RQ(w:World)(G:Nat→Prop)(hG: ∀b,G b→b<w.heap.size)(h:Hp)(hh:h.ok)(src:Nat→Value)(hs: ∀j,j<5→Rd w G (.sl ((lsH h j).map vu)) (src j))(v:Int)(hv:U64 v)
  (hr:Za (layH h)=true) (hv0: ¬v=0) (h1:(adr v).2=0) (part:Int) (at_:Nat) (hf:ZB (layH h) (adr v).1=(part,(at_:Int),0)) (hp:part=1):
  Calls Try.prog 39 #[hpA h src,.int .u64 v] w (Yu w (fwd h v)):=by
 have HS:=Lib.hid hs
 have HH:=Lib.hid hh
 clear hs hh
 unfold hpA
 go_enter Try.func39,Try.ntmps39
 subst hp
 go_wp2_with (first
  | (go_at_call 51;go_loud (refine(Zm (h:=h) (x:=src) (G:=G) (fun c hc=>by have:=hG c hc;simp;omega) (fun j hj=>(HS.out j hj).keep (fun b hb=>by have:=hG b hb;rw[Below.heap_alloc _ _ _ (by simp;omega),Below.heap_alloc _ _ _ (by omega)]) (fun _ h=>h))).mono ?_;rintro e w1 ⟨rfl,hb1⟩;unfold lyA;have z1:=(hb1.block (w.heap.size+1) (by simp)).trans (Y2 w _);have p1:=(hb1.block w.heap.size (by simp;omega)).trans ((Below.heap_alloc (w.alloc (.cells #[.int .u64 h.base,.int .i64 h.cap,.int .i64 h.to,.bool h.cycle,.int .i64 h.scan,src 0,src 1,src 2,src 3,src 4] 25)) _ w.heap.size (by simp)).trans (heap_alloc_new w _));have hs1:=hb1.size;simp at hs1;have HB1:=Lib.hid hb1;clear hb1))
  | (go_at_call 43;go_loud (refine(Zq HH.out.lay _).mono ?_;rintro e w2 ⟨rfl,hb2⟩;rw[hr];have z2:=(hb2.block (w.heap.size+1) (by simp;omega)).trans ((Below.heap_alloc w1 _ (w.heap.size+1) (by omega)).trans z1);have p2:=(hb2.block w.heap.size (by simp;omega)).trans ((Below.heap_alloc w1 _ w.heap.size (by omega)).trans p1);have x2: ∀j,w2.cell? ⟨w.heap.size,j,none⟩=(#[.int .u64 h.base,.int .i64 h.cap,.int .i64 h.to,.bool h.cycle,.int .i64 h.scan,src 0,src 1,src 2,src 3,src 4]:Array Value)[j]? :=fun j=>cell_of_row _ _ _ _ _ _ p2;have hb02:Below w.heap.size w w2:=((((((Below.refl _ _).alloc (Nat.le_refl _) _).alloc (by simp) _).trans (HB1.out.mono (by simp;omega))).alloc (by omega) _).trans (hb2.mono (by simp;omega)));have hs2:=hb2.size;simp at hs2;have m2:=(hb2.block w1.heap.size (by simp)).trans (heap_alloc_new w1 _);have HB02:=Lib.hid hb02;clear hb2 hb02))
  | (go_at_call 59;go_loud (refine(Zh hv _).mono ?_;rintro e w3 ⟨rfl,hb3⟩;have z3:=(hb3.block (w.heap.size+1) (by omega)).trans z2;have p3:=(hb3.block w.heap.size (by omega)).trans p2;have m3:=(hb3.block w1.heap.size (by omega)).trans m2;have l3: ∀j,w3.cell? ⟨w1.heap.size,j,none⟩=(#[.int .u64 (layH h).base,.int .i64 (layH h).cap,.int .i64 (layH h).to,.int .i64 (layH h).low,.int .i64 (layH h).high,.int .i64 (layH h).old,.int .i64 (layH h).far]:Array Value)[j]? :=fun j=>cell_of_row _ _ _ _ _ _ m3;have hs3:=hb3.size;have HB3:=Lib.hid hb3;clear hb3))
  | (go_at_call 60;go_loud (refine(ZH HH.out.lay (Uc hv) _).mono ?_;rintro e w4 ⟨rfl,hb4⟩;rw[hf];dsimp only;have hs4:=hb4.size;have z4: ∀o,(w4.alloc o).heap[w.heap.size+1]? =some (.cells Z5 25 (0,0)):=fun o=>(Below.heap_alloc w4 o (w.heap.size+1) (by omega)).trans ((hb4.block (w.heap.size+1) (by omega)).trans z3);have p4: ∀o,(w4.alloc o).heap[w.heap.size]? =some (.cells #[.int .u64 h.base,.int .i64 h.cap,.int .i64 h.to,.bool h.cycle,.int .i64 h.scan,src 0,src 1,src 2,src 3,src 4] 25 (0,0)):=fun o=>(Below.heap_alloc w4 o w.heap.size (by omega)).trans ((hb4.block w.heap.size (by omega)).trans p3);have x4: ∀o j,(w4.alloc o).cell? ⟨w.heap.size,j,none⟩=(#[.int .u64 h.base,.int .i64 h.cap,.int .i64 h.to,.bool h.cycle,.int .i64 h.scan,src 0,src 1,src 2,src 3,src 4]:Array Value)[j]? :=fun o j=>cell_of_row _ _ _ _ _ _ (p4 o);have hb04: ∀o,Below w.heap.size w (w4.alloc o):=fun o=>((HB02.out.trans (HB3.out.mono (by omega))).trans (hb4.mono (by omega))).alloc (by omega) o;have m4: ∀o,(w4.alloc o).heap[w1.heap.size]? =some (.cells #[.int .u64 (layH h).base,.int .i64 (layH h).cap,.int .i64 (layH h).to,.int .i64 (layH h).low,.int .i64 (layH h).high,.int .i64 (layH h).old,.int .i64 (layH h).far] 53 (0,0)):=fun o=>(Below.heap_alloc w4 o w1.heap.size (by omega)).trans ((hb4.block w1.heap.size (by omega)).trans m3);have k4:=heap_alloc_new w4 (.cells #[.int .i64 1,.int .i64 (at_:Nat)] 91);have HB04:=Lib.hid hb04;clear hb4 hb04 z3 p3 m3 l3 z2 p2 x2 m2))
  | (go_at_call 48;go_loud (refine(Yk _ G (fun b hb=>by have:=hG b hb;simp;omega) h HH.out src (fun j hj=>(HS.out j hj).keep (fun b hb=>(HB04.out _).block b (hG b hb)) (fun _ h=>h))).mono ?_;rintro e w5 ⟨x,rfl,hb5,ho5⟩;obtain⟨a0,q0,e0⟩:=Z1 (ho5.own 0 (by omega));obtain⟨a1,q1,e1⟩:=Z1 (ho5.own 1 (by omega));obtain⟨a2,q2,e2⟩:=Z1 (ho5.own 2 (by omega));obtain⟨a3,q3,e3⟩:=Z1 (ho5.own 3 (by omega));obtain⟨a4,q4,e4⟩:=Z1 (ho5.own 4 (by omega));unfold hpA;rw[e0,e1,e2,e3,e4];have hs5:=hb5.size;simp at hs5;have hsz4: ∀o,(w4.alloc o).heap.size=w4.heap.size+1:=fun o=>(by simp);rw[hsz4]at ho5;have hN:=ZW ho5 (by omega);unfold Uo at hN;rw[e0,e1,e2,e3,e4]at hN;have hb05: ∀o,Below w.heap.size w (w5.alloc o):=fun o=>((HB04.out _).trans (hb5.mono (by simp;omega))).alloc (by omega) o;have z6: ∀o,(w5.alloc o).heap[w.heap.size+1]? =some (.cells Z5 25 (0,0)):=fun o=>(Below.heap_alloc w5 o (w.heap.size+1) (by omega)).trans ((hb5.block (w.heap.size+1) (by simp;omega)).trans (z4 _));have k6: ∀o,(w5.alloc o).heap[w4.heap.size]? =some (.cells #[.int .i64 1,.int .i64 (at_:Nat)] 91 (0,0)):=fun o=>(Below.heap_alloc w5 o w4.heap.size (by omega)).trans ((hb5.block w4.heap.size (by simp)).trans k4);have m6: ∀o,(w5.alloc o).heap[w1.heap.size]? =some (.cells #[.int .u64 (layH h).base,.int .i64 (layH h).cap,.int .i64 (layH h).to,.int .i64 (layH h).low,.int .i64 (layH h).high,.int .i64 (layH h).old,.int .i64 (layH h).far] 53 (0,0)):=fun o=>(Below.heap_alloc w5 o w1.heap.size (by omega)).trans ((hb5.block w1.heap.size (by simp;omega)).trans (m4 _));have k6c: ∀o j,(w5.alloc o).cell? ⟨w4.heap.size,j,none⟩=(#[.int .i64 1,.int .i64 (at_:Nat)]:Array Value)[j]? :=fun o j=>cell_of_row _ _ _ _ _ _ (k6 o);have m6c: ∀o j,(w5.alloc o).cell? ⟨w1.heap.size,j,none⟩=(#[.int .u64 (layH h).base,.int .i64 (layH h).cap,.int .i64 (layH h).to,.int .i64 (layH h).low,.int .i64 (layH h).high,.int .i64 (layH h).old,.int .i64 (layH h).far]:Array Value)[j]? :=fun o j=>cell_of_row _ _ _ _ _ _ (m6 o);have nb:=hN.blk;rw[e0,e1,e2,e3,e4]at nb;have n6c: ∀j,(w5.alloc (.cells #[.int .u64 h.base,.int .i64 h.cap,.int .i64 h.to,.bool h.cycle,.int .i64 h.scan,.slice a0 (lsH h 0).length q0,.slice a1 (lsH h 1).length q1,.slice a2 (lsH h 2).length q2,.slice a3 (lsH h 3).length q3,.slice a4 (lsH h 4).length q4] 113)).cell? ⟨w5.heap.size,j,none⟩=(#[.int .u64 h.base,.int .i64 h.cap,.int .i64 h.to,.bool h.cycle,.int .i64 h.scan,.slice a0 (lsH h 0).length q0,.slice a1 (lsH h 1).length q1,.slice a2 (lsH h 2).length q2,.slice a3 (lsH h 3).length q3,.slice a4 (lsH h 4).length q4]:Array Value)[j]? :=fun j=>cell_of_row _ _ _ _ _ _ nb;have y6: ∀o j,(w5.alloc o).cell? ⟨w.heap.size+1,j,none⟩=Z5[j]? :=fun o j=>cell_of_row _ _ _ _ _ _ (z6 o);have f6: ∀o j,(w5.alloc o).frozen? ⟨w.heap.size+1,j,none⟩=false:=fun o j=>Zb (z6 o);unfold Z5 at y6;have st6:FwSt w (w5.alloc (.cells #[.int .u64 h.base,.int .i64 h.cap,.int .i64 h.to,.bool h.cycle,.int .i64 h.scan,.slice a0 (lsH h 0).length q0,.slice a1 (lsH h 1).length q1,.slice a2 (lsH h 2).length q2,.slice a3 (lsH h 3).length q3,.slice a4 (lsH h 4).length q4] 113)) (w.heap.size+1) w1.heap.size w4.heap.size w5.heap.size (w4.heap.size+1) 1 (at_:Nat) h x:=⟨z6 _,m6 _,k6 _,hN,hb05 _,by omega,by omega,by omega,by omega,by simp;omega⟩;have ST6:=Lib.hid st6;clear st6;have HB05:=Lib.hid hb05;have HN:=Lib.hid hN;have E0:=Lib.hid e0;have E1:=Lib.hid e1;have E2:=Lib.hid e2;have E3:=Lib.hid e3;have E4:=Lib.hid e4;clear hb05 hN nb e0 e1 e2 e3 e4 ho5 hb5 z4 p4 x4 m4 k4)))
 go_region
 all_goals
  go_wp2
  try simp only[Exit.inBlock,Exit.then]
  have y:=Zv (z6 (.cells #[.int .u64 h.base,.int .i64 h.cap,.int .i64 h.to,.bool h.cycle,.int .i64 h.scan,.slice a0 (lsH h 0).length q0,.slice a1 (lsH h 1).length q1,.slice a2 (lsH h 2).length q2,.slice a3 (lsH h 3).length q3,.slice a4 (lsH h 4).length q4] 113)) (.int .u64 h.base) (.int .i64 h.cap) (.int .i64 h.to) (.bool h.cycle) (.int .i64 h.scan) (.slice a0 (lsH h 0).length q0) (.slice a1 (lsH h 1).length q1) (.slice a2 (lsH h 2).length q2) (.slice a3 (lsH h 3).length q3) (.slice a4 (lsH h 4).length q4)
  have hfw:fwd h v=(v,h,0):=by simp[fwd,hr,hv0,h1,hf]
  rw[hfw]
  refine bodyPost_ret (v:= .tuple #[.int .u64 v,hpA h x,.int .i64 0]) ?_ rfl ?_
  ·unfold hpA;rw[E0.out,E1.out,E2.out,E3.out,E4.out];simp[results,Try.results39,go_sem,y]
  ·refine⟨x,rfl,?_,?_⟩
   ·exact(Zr (HB05.out _) (by omega) _ _ _ _ _ _ _ _ _ _).drew
   ·refine⟨fun j hj=> ?_,HN.out.own.apart⟩
    have ho:=HN.out.own.own j hj
    refine Sh (Zn ho ?_) ?_
    ·intro c hc
     have hc1:=(ho.lt c hc).1
     exact Yy (by omega) _ _ _ _ _ _ _ _ _ _
    ·intro c h1 h2
     exact⟨by omega,h2⟩
theorem Rl(w:World)(G:Nat→Prop)(hG: ∀b,G b→b<w.heap.size)(h:Hp)(hh:h.ok)(src:Nat→Value)(hs: ∀j,j<5→Rd w G (.sl ((lsH h j).map vu)) (src j))(v:Int)(hv:U64 v)
  (hr:Za (layH h)=true) (hv0: ¬v=0) (h1:(adr v).2=0) (part:Int) (at_:Nat) (hf:ZB (layH h) (adr v).1=(part,(at_:Int),0)) (hp:part=2):
  Calls Try.prog 39 #[hpA h src,.int .u64 v] w (Yu w (fwd h v)):=by
 have HS:=Lib.hid hs
 have HH:=Lib.hid hh
 clear hs hh
 unfold hpA
 go_enter Try.func39,Try.ntmps39
 subst hp
 go_wp2_with (first
  | (go_at_call 51;go_loud (refine(Zm (h:=h) (x:=src) (G:=G) (fun c hc=>by have:=hG c hc;simp;omega) (fun j hj=>(HS.out j hj).keep (fun b hb=>by have:=hG b hb;rw[Below.heap_alloc _ _ _ (by simp;omega),Below.heap_alloc _ _ _ (by omega)]) (fun _ h=>h))).mono ?_;rintro e w1 ⟨rfl,hb1⟩;unfold lyA;have z1:=(hb1.block (w.heap.size+1) (by simp)).trans (Y2 w _);have p1:=(hb1.block w.heap.size (by simp;omega)).trans ((Below.heap_alloc (w.alloc (.cells #[.int .u64 h.base,.int .i64 h.cap,.int .i64 h.to,.bool h.cycle,.int .i64 h.scan,src 0,src 1,src 2,src 3,src 4] 25)) _ w.heap.size (by simp)).trans (heap_alloc_new w _));have hs1:=hb1.size;simp at hs1;have HB1:=Lib.hid hb1;clear hb1))
  | (go_at_call 43;go_loud (refine(Zq HH.out.lay _).mono ?_;rintro e w2 ⟨rfl,hb2⟩;rw[hr];have z2:=(hb2.block (w.heap.size+1) (by simp;omega)).trans ((Below.heap_alloc w1 _ (w.heap.size+1) (by omega)).trans z1);have p2:=(hb2.block w.heap.size (by simp;omega)).trans ((Below.heap_alloc w1 _ w.heap.size (by omega)).trans p1);have x2: ∀j,w2.cell? ⟨w.heap.size,j,none⟩=(#[.int .u64 h.base,.int .i64 h.cap,.int .i64 h.to,.bool h.cycle,.int .i64 h.scan,src 0,src 1,src 2,src 3,src 4]:Array Value)[j]? :=fun j=>cell_of_row _ _ _ _ _ _ p2;have hb02:Below w.heap.size w w2:=((((((Below.refl _ _).alloc (Nat.le_refl _) _).alloc (by simp) _).trans (HB1.out.mono (by simp;omega))).alloc (by omega) _).trans (hb2.mono (by simp;omega)));have hs2:=hb2.size;simp at hs2;have m2:=(hb2.block w1.heap.size (by simp)).trans (heap_alloc_new w1 _);have HB02:=Lib.hid hb02;clear hb2 hb02))
  | (go_at_call 59;go_loud (refine(Zh hv _).mono ?_;rintro e w3 ⟨rfl,hb3⟩;have z3:=(hb3.block (w.heap.size+1) (by omega)).trans z2;have p3:=(hb3.block w.heap.size (by omega)).trans p2;have m3:=(hb3.block w1.heap.size (by omega)).trans m2;have l3: ∀j,w3.cell? ⟨w1.heap.size,j,none⟩=(#[.int .u64 (layH h).base,.int .i64 (layH h).cap,.int .i64 (layH h).to,.int .i64 (layH h).low,.int .i64 (layH h).high,.int .i64 (layH h).old,.int .i64 (layH h).far]:Array Value)[j]? :=fun j=>cell_of_row _ _ _ _ _ _ m3;have hs3:=hb3.size;have HB3:=Lib.hid hb3;clear hb3))
  | (go_at_call 60;go_loud (refine(ZH HH.out.lay (Uc hv) _).mono ?_;rintro e w4 ⟨rfl,hb4⟩;rw[hf];dsimp only;have hs4:=hb4.size;have z4: ∀o,(w4.alloc o).heap[w.heap.size+1]? =some (.cells Z5 25 (0,0)):=fun o=>(Below.heap_alloc w4 o (w.heap.size+1) (by omega)).trans ((hb4.block (w.heap.size+1) (by omega)).trans z3);have p4: ∀o,(w4.alloc o).heap[w.heap.size]? =some (.cells #[.int .u64 h.base,.int .i64 h.cap,.int .i64 h.to,.bool h.cycle,.int .i64 h.scan,src 0,src 1,src 2,src 3,src 4] 25 (0,0)):=fun o=>(Below.heap_alloc w4 o w.heap.size (by omega)).trans ((hb4.block w.heap.size (by omega)).trans p3);have x4: ∀o j,(w4.alloc o).cell? ⟨w.heap.size,j,none⟩=(#[.int .u64 h.base,.int .i64 h.cap,.int .i64 h.to,.bool h.cycle,.int .i64 h.scan,src 0,src 1,src 2,src 3,src 4]:Array Value)[j]? :=fun o j=>cell_of_row _ _ _ _ _ _ (p4 o);have hb04: ∀o,Below w.heap.size w (w4.alloc o):=fun o=>((HB02.out.trans (HB3.out.mono (by omega))).trans (hb4.mono (by omega))).alloc (by omega) o;have m4: ∀o,(w4.alloc o).heap[w1.heap.size]? =some (.cells #[.int .u64 (layH h).base,.int .i64 (layH h).cap,.int .i64 (layH h).to,.int .i64 (layH h).low,.int .i64 (layH h).high,.int .i64 (layH h).old,.int .i64 (layH h).far] 53 (0,0)):=fun o=>(Below.heap_alloc w4 o w1.heap.size (by omega)).trans ((hb4.block w1.heap.size (by omega)).trans m3);have k4:=heap_alloc_new w4 (.cells #[.int .i64 2,.int .i64 (at_:Nat)] 91);have HB04:=Lib.hid hb04;clear hb4 hb04 z3 p3 m3 l3 z2 p2 x2 m2))
  | (go_at_call 48;go_loud (refine(Yk _ G (fun b hb=>by have:=hG b hb;simp;omega) h HH.out src (fun j hj=>(HS.out j hj).keep (fun b hb=>(HB04.out _).block b (hG b hb)) (fun _ h=>h))).mono ?_;rintro e w5 ⟨x,rfl,hb5,ho5⟩;obtain⟨a0,q0,e0⟩:=Z1 (ho5.own 0 (by omega));obtain⟨a1,q1,e1⟩:=Z1 (ho5.own 1 (by omega));obtain⟨a2,q2,e2⟩:=Z1 (ho5.own 2 (by omega));obtain⟨a3,q3,e3⟩:=Z1 (ho5.own 3 (by omega));obtain⟨a4,q4,e4⟩:=Z1 (ho5.own 4 (by omega));unfold hpA;rw[e0,e1,e2,e3,e4];have hs5:=hb5.size;simp at hs5;have hsz4: ∀o,(w4.alloc o).heap.size=w4.heap.size+1:=fun o=>(by simp);rw[hsz4]at ho5;have hN:=ZW ho5 (by omega);unfold Uo at hN;rw[e0,e1,e2,e3,e4]at hN;have hb05: ∀o,Below w.heap.size w (w5.alloc o):=fun o=>((HB04.out _).trans (hb5.mono (by simp;omega))).alloc (by omega) o;have z6: ∀o,(w5.alloc o).heap[w.heap.size+1]? =some (.cells Z5 25 (0,0)):=fun o=>(Below.heap_alloc w5 o (w.heap.size+1) (by omega)).trans ((hb5.block (w.heap.size+1) (by simp;omega)).trans (z4 _));have k6: ∀o,(w5.alloc o).heap[w4.heap.size]? =some (.cells #[.int .i64 2,.int .i64 (at_:Nat)] 91 (0,0)):=fun o=>(Below.heap_alloc w5 o w4.heap.size (by omega)).trans ((hb5.block w4.heap.size (by simp)).trans k4);have m6: ∀o,(w5.alloc o).heap[w1.heap.size]? =some (.cells #[.int .u64 (layH h).base,.int .i64 (layH h).cap,.int .i64 (layH h).to,.int .i64 (layH h).low,.int .i64 (layH h).high,.int .i64 (layH h).old,.int .i64 (layH h).far] 53 (0,0)):=fun o=>(Below.heap_alloc w5 o w1.heap.size (by omega)).trans ((hb5.block w1.heap.size (by simp;omega)).trans (m4 _));have k6c: ∀o j,(w5.alloc o).cell? ⟨w4.heap.size,j,none⟩=(#[.int .i64 2,.int .i64 (at_:Nat)]:Array Value)[j]? :=fun o j=>cell_of_row _ _ _ _ _ _ (k6 o);have m6c: ∀o j,(w5.alloc o).cell? ⟨w1.heap.size,j,none⟩=(#[.int .u64 (layH h).base,.int .i64 (layH h).cap,.int .i64 (layH h).to,.int .i64 (layH h).low,.int .i64 (layH h).high,.int .i64 (layH h).old,.int .i64 (layH h).far]:Array Value)[j]? :=fun o j=>cell_of_row _ _ _ _ _ _ (m6 o);have nb:=hN.blk;rw[e0,e1,e2,e3,e4]at nb;have n6c: ∀j,(w5.alloc (.cells #[.int .u64 h.base,.int .i64 h.cap,.int .i64 h.to,.bool h.cycle,.int .i64 h.scan,.slice a0 (lsH h 0).length q0,.slice a1 (lsH h 1).length q1,.slice a2 (lsH h 2).length q2,.slice a3 (lsH h 3).length q3,.slice a4 (lsH h 4).length q4] 113)).cell? ⟨w5.heap.size,j,none⟩=(#[.int .u64 h.base,.int .i64 h.cap,.int .i64 h.to,.bool h.cycle,.int .i64 h.scan,.slice a0 (lsH h 0).length q0,.slice a1 (lsH h 1).length q1,.slice a2 (lsH h 2).length q2,.slice a3 (lsH h 3).length q3,.slice a4 (lsH h 4).length q4]:Array Value)[j]? :=fun j=>cell_of_row _ _ _ _ _ _ nb;have y6: ∀o j,(w5.alloc o).cell? ⟨w.heap.size+1,j,none⟩=Z5[j]? :=fun o j=>cell_of_row _ _ _ _ _ _ (z6 o);have f6: ∀o j,(w5.alloc o).frozen? ⟨w.heap.size+1,j,none⟩=false:=fun o j=>Zb (z6 o);unfold Z5 at y6;have st6:FwSt w (w5.alloc (.cells #[.int .u64 h.base,.int .i64 h.cap,.int .i64 h.to,.bool h.cycle,.int .i64 h.scan,.slice a0 (lsH h 0).length q0,.slice a1 (lsH h 1).length q1,.slice a2 (lsH h 2).length q2,.slice a3 (lsH h 3).length q3,.slice a4 (lsH h 4).length q4] 113)) (w.heap.size+1) w1.heap.size w4.heap.size w5.heap.size (w4.heap.size+1) 2 (at_:Nat) h x:=⟨z6 _,m6 _,k6 _,hN,hb05 _,by omega,by omega,by omega,by omega,by simp;omega⟩;have ST6:=Lib.hid st6;clear st6;have HB05:=Lib.hid hb05;have HN:=Lib.hid hN;have E0:=Lib.hid e0;have E1:=Lib.hid e1;have E2:=Lib.hid e2;have E3:=Lib.hid e3;have E4:=Lib.hid e4;clear hb05 hN nb e0 e1 e2 e3 e4 ho5 hb5 z4 p4 x4 m4 k4)))
 go_region
 all_goals
  go_wp2
  try simp only[Exit.inBlock,Exit.then]
  have y:=Zv (z6 (.cells #[.int .u64 h.base,.int .i64 h.cap,.int .i64 h.to,.bool h.cycle,.int .i64 h.scan,.slice a0 (lsH h 0).length q0,.slice a1 (lsH h 1).length q1,.slice a2 (lsH h 2).length q2,.slice a3 (lsH h 3).length q3,.slice a4 (lsH h 4).length q4] 113)) (.int .u64 h.base) (.int .i64 h.cap) (.int .i64 h.to) (.bool h.cycle) (.int .i64 h.scan) (.slice a0 (lsH h 0).length q0) (.slice a1 (lsH h 1).length q1) (.slice a2 (lsH h 2).length q2) (.slice a3 (lsH h 3).length q3) (.slice a4 (lsH h 4).length q4)
  have hfw:fwd h v=(v,h,0):=by simp[fwd,hr,hv0,h1,hf]
  rw[hfw]
  refine bodyPost_ret (v:= .tuple #[.int .u64 v,hpA h x,.int .i64 0]) ?_ rfl ?_
  ·unfold hpA;rw[E0.out,E1.out,E2.out,E3.out,E4.out];simp[results,Try.results39,go_sem,y]
  ·refine⟨x,rfl,?_,?_⟩
   ·exact(Zr (HB05.out _) (by omega) _ _ _ _ _ _ _ _ _ _).drew
   ·refine⟨fun j hj=> ?_,HN.out.own.apart⟩
    have ho:=HN.out.own.own j hj
    refine Sh (Zn ho ?_) ?_
    ·intro c hc
     have hc1:=(ho.lt c hc).1
     exact Yy (by omega) _ _ _ _ _ _ _ _ _ _
    ·intro c h1 h2
     exact⟨by omega,h2⟩
theorem Rh(w:World)(G:Nat→Prop)(hG: ∀b,G b→b<w.heap.size)(h:Hp)(hh:h.ok)(src:Nat→Value)(hs: ∀j,j<5→Rd w G (.sl ((lsH h j).map vu)) (src j))(v:Int)(hv:U64 v)
  (hr:Za (layH h)=true) (hv0: ¬v=0) (h1:(adr v).2=0) (part:Int) (at_:Nat) (hf:ZB (layH h) (adr v).1=(part,(at_:Int),0)) (hp:part=3)
  (wd:Int) (hwd:(lsH h 2)[at_]? =some wd) (hat:at_< (lsH h 2).length) (hwu:U64 wd) (hgo:(adr wd).2=0):
  Calls Try.prog 39 #[hpA h src,.int .u64 v] w (Yu w (fwd h v)):=by
 have HS:=Lib.hid hs
 have HH:=Lib.hid hh
 clear hs hh
 unfold hpA
 go_enter Try.func39,Try.ntmps39
 subst hp
 go_wp2_with (first
  | (go_at_call 61;go_loud (refine(Yr _ (w4.heap.size+1) w5.heap.size h x ST6.out.now HH.out 2 at_ (by omega) g q2 EP.out (by omega)).mono ?_;rintro e w7 ⟨rfl,hb7⟩;obtain⟨m,hm⟩: ∃m,(lsH h 2).length-at_=m:=⟨_,rfl⟩;obtain⟨qm,hqm⟩: ∃qm,q2-at_=qm:=⟨_,rfl⟩;rw[hm,hqm];have hm0:0<m:=(by omega);have hm0i:(0:Int) < (m:Int):=(by omega);have hat2:at_+0=at_:=rfl;have st7:=ST6.out.below hb7;have hs7:=hb7.size;simp at hs7;have res7:=st7.res;have y7: ∀j,(w7).cell? ⟨w.heap.size+1,j,none⟩=Z5[j]? :=fun j=>cell_of_row _ _ _ _ _ _ res7;unfold Z5 at y7;have f7: ∀j,(w7).frozen? ⟨w.heap.size+1,j,none⟩=false:=fun j=>Zb res7;have nb7:=st7.now.blk;rw[E0.out,E1.out,E2.out,E3.out,E4.out]at nb7;have n7c: ∀j,(w7).cell? ⟨w5.heap.size,j,none⟩=(#[.int .u64 h.base,.int .i64 h.cap,.int .i64 h.to,.bool h.cycle,.int .i64 h.scan,.slice a0 (lsH h 0).length q0,.slice a1 (lsH h 1).length q1,.slice (some ⟨g,0,none⟩) (lsH h 2).length q2,.slice a3 (lsH h 3).length q3,.slice a4 (lsH h 4).length q4]:Array Value)[j]? :=fun j=>cell_of_row _ _ _ _ _ _ nb7;have k7c: ∀j,(w7).cell? ⟨w4.heap.size,j,none⟩=(#[.int .i64 3,.int .i64 (at_:Nat)]:Array Value)[j]? :=fun j=>cell_of_row _ _ _ _ _ _ st7.plc;have m7c: ∀j,(w7).cell? ⟨w1.heap.size,j,none⟩=(#[.int .u64 (layH h).base,.int .i64 (layH h).cap,.int .i64 (layH h).to,.int .i64 (layH h).low,.int .i64 (layH h).high,.int .i64 (layH h).old,.int .i64 (layH h).far]:Array Value)[j]? :=fun j=>cell_of_row _ _ _ _ _ _ st7.lay;have hop7:=st7.now.own.own 2 (by omega);rw[EP.out]at hop7;have c7:=Zi hop7 hwd;clear nb7 hop7;have ST7:=Lib.hid st7;clear hb7 st7))
  | (go_at_call 59;go_loud (have st7:=ST7.out;refine(Zh hwu _).mono ?_;rintro e w8 ⟨rfl,hb8⟩;have st8:=st7.below hb8;have hs8:=hb8.size;have res8:=st8.res;have y8: ∀j,(w8).cell? ⟨w.heap.size+1,j,none⟩=Z5[j]? :=fun j=>cell_of_row _ _ _ _ _ _ res8;unfold Z5 at y8;have f8: ∀j,(w8).frozen? ⟨w.heap.size+1,j,none⟩=false:=fun j=>Zb res8;have nb8:=st8.now.blk;rw[E0.out,E1.out,E2.out,E3.out,E4.out]at nb8;have n8c: ∀j,(w8).cell? ⟨w5.heap.size,j,none⟩=(#[.int .u64 h.base,.int .i64 h.cap,.int .i64 h.to,.bool h.cycle,.int .i64 h.scan,.slice a0 (lsH h 0).length q0,.slice a1 (lsH h 1).length q1,.slice (some ⟨g,0,none⟩) (lsH h 2).length q2,.slice a3 (lsH h 3).length q3,.slice a4 (lsH h 4).length q4]:Array Value)[j]? :=fun j=>cell_of_row _ _ _ _ _ _ nb8;have k8c: ∀j,(w8).cell? ⟨w4.heap.size,j,none⟩=(#[.int .i64 3,.int .i64 (at_:Nat)]:Array Value)[j]? :=fun j=>cell_of_row _ _ _ _ _ _ st8.plc;have m8c: ∀j,(w8).cell? ⟨w1.heap.size,j,none⟩=(#[.int .u64 (layH h).base,.int .i64 (layH h).cap,.int .i64 (layH h).to,.int .i64 (layH h).low,.int .i64 (layH h).high,.int .i64 (layH h).old,.int .i64 (layH h).far]:Array Value)[j]? :=fun j=>cell_of_row _ _ _ _ _ _ st8.lay;have hop8:=st8.now.own.own 2 (by omega);rw[EP.out]at hop8;have c8:=Zi hop8 hwd;clear nb8 hop8;have ST8:=Lib.hid st8;clear hb8 st8 st7))
  | (go_at_call 62;go_loud (refine(ZG hwu _).mono ?_;rintro e w9 ⟨rfl,hb9⟩;rw[hun];dsimp only;have hs9:=hb9.size;have st10:FwSt w (w9.alloc (.cells #[.int .i64 (sz:Nat),.int .i64 pt] 47)) _ _ _ _ _ _ _ h x:=(ST8.out.below hb9).below ((Below.refl _ _).alloc (Nat.le_refl _) _);have res10:=st10.res;have y10: ∀j,((w9.alloc (.cells #[.int .i64 (sz:Nat),.int .i64 pt] 47))).cell? ⟨w.heap.size+1,j,none⟩=Z5[j]? :=fun j=>cell_of_row _ _ _ _ _ _ res10;unfold Z5 at y10;have f10: ∀j,((w9.alloc (.cells #[.int .i64 (sz:Nat),.int .i64 pt] 47))).frozen? ⟨w.heap.size+1,j,none⟩=false:=fun j=>Zb res10;have nb10:=st10.now.blk;rw[E0.out,E1.out,E2.out,E3.out,E4.out]at nb10;have n10c: ∀j,((w9.alloc (.cells #[.int .i64 (sz:Nat),.int .i64 pt] 47))).cell? ⟨w5.heap.size,j,none⟩=(#[.int .u64 h.base,.int .i64 h.cap,.int .i64 h.to,.bool h.cycle,.int .i64 h.scan,.slice a0 (lsH h 0).length q0,.slice a1 (lsH h 1).length q1,.slice (some ⟨g,0,none⟩) (lsH h 2).length q2,.slice a3 (lsH h 3).length q3,.slice a4 (lsH h 4).length q4]:Array Value)[j]? :=fun j=>cell_of_row _ _ _ _ _ _ nb10;have k10c: ∀j,((w9.alloc (.cells #[.int .i64 (sz:Nat),.int .i64 pt] 47))).cell? ⟨w4.heap.size,j,none⟩=(#[.int .i64 3,.int .i64 (at_:Nat)]:Array Value)[j]? :=fun j=>cell_of_row _ _ _ _ _ _ st10.plc;have m10c: ∀j,((w9.alloc (.cells #[.int .i64 (sz:Nat),.int .i64 pt] 47))).cell? ⟨w1.heap.size,j,none⟩=(#[.int .u64 (layH h).base,.int .i64 (layH h).cap,.int .i64 (layH h).to,.int .i64 (layH h).low,.int .i64 (layH h).high,.int .i64 (layH h).old,.int .i64 (layH h).far]:Array Value)[j]? :=fun j=>cell_of_row _ _ _ _ _ _ st10.lay;have hop10:=st10.now.own.own 2 (by omega);rw[EP.out]at hop10;have c10:=Zi hop10 hwd;clear nb10 hop10;have s10c: ∀j,(w9.alloc (.cells #[.int .i64 (sz:Nat),.int .i64 pt] 47)).cell? ⟨w9.heap.size,j,none⟩=(#[.int .i64 (sz:Nat),.int .i64 pt]:Array Value)[j]? :=fun j=>cell_of_row _ _ _ _ _ _ (heap_alloc_new w9 _);have ST10:=Lib.hid st10;have hml:m≤1000000:=(by have:=YJ HH.out 2;omega);have hl10:at_+m=(lsH h 2).length:=(by omega);clear hb9 st10))
  | (go_at_call 51;go_loud (refine(Zm (h:=h) (x:=src) (G:=G) (fun c hc=>by have:=hG c hc;simp;omega) (fun j hj=>(HS.out j hj).keep (fun b hb=>by have:=hG b hb;rw[Below.heap_alloc _ _ _ (by simp;omega),Below.heap_alloc _ _ _ (by omega)]) (fun _ h=>h))).mono ?_;rintro e w1 ⟨rfl,hb1⟩;unfold lyA;have z1:=(hb1.block (w.heap.size+1) (by simp)).trans (Y2 w _);have p1:=(hb1.block w.heap.size (by simp;omega)).trans ((Below.heap_alloc (w.alloc (.cells #[.int .u64 h.base,.int .i64 h.cap,.int .i64 h.to,.bool h.cycle,.int .i64 h.scan,src 0,src 1,src 2,src 3,src 4] 25)) _ w.heap.size (by simp)).trans (heap_alloc_new w _));have hs1:=hb1.size;simp at hs1;have HB1:=Lib.hid hb1;clear hb1))
  | (go_at_call 43;go_loud (refine(Zq HH.out.lay _).mono ?_;rintro e w2 ⟨rfl,hb2⟩;rw[hr];have z2:=(hb2.block (w.heap.size+1) (by simp;omega)).trans ((Below.heap_alloc w1 _ (w.heap.size+1) (by omega)).trans z1);have p2:=(hb2.block w.heap.size (by simp;omega)).trans ((Below.heap_alloc w1 _ w.heap.size (by omega)).trans p1);have x2: ∀j,w2.cell? ⟨w.heap.size,j,none⟩=(#[.int .u64 h.base,.int .i64 h.cap,.int .i64 h.to,.bool h.cycle,.int .i64 h.scan,src 0,src 1,src 2,src 3,src 4]:Array Value)[j]? :=fun j=>cell_of_row _ _ _ _ _ _ p2;have hb02:Below w.heap.size w w2:=((((((Below.refl _ _).alloc (Nat.le_refl _) _).alloc (by simp) _).trans (HB1.out.mono (by simp;omega))).alloc (by omega) _).trans (hb2.mono (by simp;omega)));have hs2:=hb2.size;simp at hs2;have m2:=(hb2.block w1.heap.size (by simp)).trans (heap_alloc_new w1 _);have HB02:=Lib.hid hb02;clear hb2 hb02))
  | (go_at_call 59;go_loud (refine(Zh hv _).mono ?_;rintro e w3 ⟨rfl,hb3⟩;have z3:=(hb3.block (w.heap.size+1) (by omega)).trans z2;have p3:=(hb3.block w.heap.size (by omega)).trans p2;have m3:=(hb3.block w1.heap.size (by omega)).trans m2;have l3: ∀j,w3.cell? ⟨w1.heap.size,j,none⟩=(#[.int .u64 (layH h).base,.int .i64 (layH h).cap,.int .i64 (layH h).to,.int .i64 (layH h).low,.int .i64 (layH h).high,.int .i64 (layH h).old,.int .i64 (layH h).far]:Array Value)[j]? :=fun j=>cell_of_row _ _ _ _ _ _ m3;have hs3:=hb3.size;have HB3:=Lib.hid hb3;clear hb3))
  | (go_at_call 60;go_loud (refine(ZH HH.out.lay (Uc hv) _).mono ?_;rintro e w4 ⟨rfl,hb4⟩;rw[hf];dsimp only;have hs4:=hb4.size;have z4: ∀o,(w4.alloc o).heap[w.heap.size+1]? =some (.cells Z5 25 (0,0)):=fun o=>(Below.heap_alloc w4 o (w.heap.size+1) (by omega)).trans ((hb4.block (w.heap.size+1) (by omega)).trans z3);have p4: ∀o,(w4.alloc o).heap[w.heap.size]? =some (.cells #[.int .u64 h.base,.int .i64 h.cap,.int .i64 h.to,.bool h.cycle,.int .i64 h.scan,src 0,src 1,src 2,src 3,src 4] 25 (0,0)):=fun o=>(Below.heap_alloc w4 o w.heap.size (by omega)).trans ((hb4.block w.heap.size (by omega)).trans p3);have x4: ∀o j,(w4.alloc o).cell? ⟨w.heap.size,j,none⟩=(#[.int .u64 h.base,.int .i64 h.cap,.int .i64 h.to,.bool h.cycle,.int .i64 h.scan,src 0,src 1,src 2,src 3,src 4]:Array Value)[j]? :=fun o j=>cell_of_row _ _ _ _ _ _ (p4 o);have hb04: ∀o,Below w.heap.size w (w4.alloc o):=fun o=>((HB02.out.trans (HB3.out.mono (by omega))).trans (hb4.mono (by omega))).alloc (by omega) o;have m4: ∀o,(w4.alloc o).heap[w1.heap.size]? =some (.cells #[.int .u64 (layH h).base,.int .i64 (layH h).cap,.int .i64 (layH h).to,.int .i64 (layH h).low,.int .i64 (layH h).high,.int .i64 (layH h).old,.int .i64 (layH h).far] 53 (0,0)):=fun o=>(Below.heap_alloc w4 o w1.heap.size (by omega)).trans ((hb4.block w1.heap.size (by omega)).trans m3);have k4:=heap_alloc_new w4 (.cells #[.int .i64 3,.int .i64 (at_:Nat)] 91);have HB04:=Lib.hid hb04;clear hb4 hb04 z3 p3 m3 l3 z2 p2 x2 m2))
  | (go_at_call 48;go_loud (refine(Yk _ G (fun b hb=>by have:=hG b hb;simp;omega) h HH.out src (fun j hj=>(HS.out j hj).keep (fun b hb=>(HB04.out _).block b (hG b hb)) (fun _ h=>h))).mono ?_;rintro e w5 ⟨x,rfl,hb5,ho5⟩;obtain⟨a0,q0,e0⟩:=Z1 (ho5.own 0 (by omega));obtain⟨a1,q1,e1⟩:=Z1 (ho5.own 1 (by omega));obtain⟨a2,q2,e2⟩:=Z1 (ho5.own 2 (by omega));obtain⟨a3,q3,e3⟩:=Z1 (ho5.own 3 (by omega));obtain⟨a4,q4,e4⟩:=Z1 (ho5.own 4 (by omega));obtain⟨g,hg⟩:=YF (ho5.own 2 (by omega)) e2 (by omega);subst hg;unfold hpA;rw[e0,e1,e2,e3,e4];have hs5:=hb5.size;simp at hs5;have hsz4: ∀o,(w4.alloc o).heap.size=w4.heap.size+1:=fun o=>(by simp);rw[hsz4]at ho5;have hN:=ZW ho5 (by omega);unfold Uo at hN;rw[e0,e1,e2,e3,e4]at hN;have hb05: ∀o,Below w.heap.size w (w5.alloc o):=fun o=>((HB04.out _).trans (hb5.mono (by simp;omega))).alloc (by omega) o;have z6: ∀o,(w5.alloc o).heap[w.heap.size+1]? =some (.cells Z5 25 (0,0)):=fun o=>(Below.heap_alloc w5 o (w.heap.size+1) (by omega)).trans ((hb5.block (w.heap.size+1) (by simp;omega)).trans (z4 _));have k6: ∀o,(w5.alloc o).heap[w4.heap.size]? =some (.cells #[.int .i64 3,.int .i64 (at_:Nat)] 91 (0,0)):=fun o=>(Below.heap_alloc w5 o w4.heap.size (by omega)).trans ((hb5.block w4.heap.size (by simp)).trans k4);have m6: ∀o,(w5.alloc o).heap[w1.heap.size]? =some (.cells #[.int .u64 (layH h).base,.int .i64 (layH h).cap,.int .i64 (layH h).to,.int .i64 (layH h).low,.int .i64 (layH h).high,.int .i64 (layH h).old,.int .i64 (layH h).far] 53 (0,0)):=fun o=>(Below.heap_alloc w5 o w1.heap.size (by omega)).trans ((hb5.block w1.heap.size (by simp;omega)).trans (m4 _));have k6c: ∀o j,(w5.alloc o).cell? ⟨w4.heap.size,j,none⟩=(#[.int .i64 3,.int .i64 (at_:Nat)]:Array Value)[j]? :=fun o j=>cell_of_row _ _ _ _ _ _ (k6 o);have m6c: ∀o j,(w5.alloc o).cell? ⟨w1.heap.size,j,none⟩=(#[.int .u64 (layH h).base,.int .i64 (layH h).cap,.int .i64 (layH h).to,.int .i64 (layH h).low,.int .i64 (layH h).high,.int .i64 (layH h).old,.int .i64 (layH h).far]:Array Value)[j]? :=fun o j=>cell_of_row _ _ _ _ _ _ (m6 o);have nb:=hN.blk;rw[e0,e1,e2,e3,e4]at nb;have n6c: ∀j,(w5.alloc (.cells #[.int .u64 h.base,.int .i64 h.cap,.int .i64 h.to,.bool h.cycle,.int .i64 h.scan,.slice a0 (lsH h 0).length q0,.slice a1 (lsH h 1).length q1,.slice (some ⟨g,0,none⟩) (lsH h 2).length q2,.slice a3 (lsH h 3).length q3,.slice a4 (lsH h 4).length q4] 113)).cell? ⟨w5.heap.size,j,none⟩=(#[.int .u64 h.base,.int .i64 h.cap,.int .i64 h.to,.bool h.cycle,.int .i64 h.scan,.slice a0 (lsH h 0).length q0,.slice a1 (lsH h 1).length q1,.slice (some ⟨g,0,none⟩) (lsH h 2).length q2,.slice a3 (lsH h 3).length q3,.slice a4 (lsH h 4).length q4]:Array Value)[j]? :=fun j=>cell_of_row _ _ _ _ _ _ nb;have y6: ∀o j,(w5.alloc o).cell? ⟨w.heap.size+1,j,none⟩=Z5[j]? :=fun o j=>cell_of_row _ _ _ _ _ _ (z6 o);have f6: ∀o j,(w5.alloc o).frozen? ⟨w.heap.size+1,j,none⟩=false:=fun o j=>Zb (z6 o);unfold Z5 at y6;have st6:FwSt w (w5.alloc (.cells #[.int .u64 h.base,.int .i64 h.cap,.int .i64 h.to,.bool h.cycle,.int .i64 h.scan,.slice a0 (lsH h 0).length q0,.slice a1 (lsH h 1).length q1,.slice (some ⟨g,0,none⟩) (lsH h 2).length q2,.slice a3 (lsH h 3).length q3,.slice a4 (lsH h 4).length q4] 113)) (w.heap.size+1) w1.heap.size w4.heap.size w5.heap.size (w4.heap.size+1) 3 (at_:Nat) h x:=⟨z6 _,m6 _,k6 _,hN,hb05 _,by omega,by omega,by omega,by omega,by simp;omega⟩;have ST6:=Lib.hid st6;have EP:=Lib.hid e2;clear st6;have HB05:=Lib.hid hb05;have HN:=Lib.hid hN;have E0:=Lib.hid e0;have E1:=Lib.hid e1;have E2:=Lib.hid e2;have E3:=Lib.hid e3;have E4:=Lib.hid e4;clear hb05 hN nb e0 e1 e2 e3 e4 ho5 hb5 z4 p4 x4 m4 k4)))
 have hpH:h.old.getD at_ 0=wd:=by show(lsH h 2).getD at_ 0=wd;simp[List.getD,hwd]
 have hfw:fwd h v=(wd,h,0):=by simp[fwd,hr,hv0,h1,hf,-List.getD_eq_getElem?_getD,hpH,hgo]
 go_region
 all_goals
  go_wp2
  try simp only[Exit.inBlock,Exit.then]
  have y:=Zv ST8.out.res (.int .u64 h.base) (.int .i64 h.cap) (.int .i64 h.to) (.bool h.cycle) (.int .i64 h.scan) (.slice a0 (lsH h 0).length q0) (.slice a1 (lsH h 1).length q1) (.slice (some ⟨g,0,none⟩) (lsH h 2).length q2) (.slice a3 (lsH h 3).length q3) (.slice a4 (lsH h 4).length q4)
  rw[hfw]
  refine bodyPost_ret (v:= .tuple #[.int .u64 wd,hpA h x,.int .i64 0]) ?_ rfl ?_
  ·unfold hpA;rw[E0.out,E1.out,E2.out,E3.out,E4.out];simp[results,Try.results39,go_sem,y]
  ·refine⟨x,rfl,?_,?_⟩
   ·exact(Zr ST8.out.bel (by omega) _ _ _ _ _ _ _ _ _ _).drew
   ·refine⟨fun j hj=> ?_,ST8.out.now.own.apart⟩
    have ho:=ST8.out.now.own.own j hj
    refine Sh (Zn ho ?_) ?_
    ·intro c hc
     have hc1:=(ho.lt c hc).1
     exact Yy (by omega) _ _ _ _ _ _ _ _ _ _
    ·intro c h1 h2
     exact⟨by omega,h2⟩
theorem Rm(w:World)(G:Nat→Prop)(hG: ∀b,G b→b<w.heap.size)(h:Hp)(hh:h.ok)(src:Nat→Value)(hs: ∀j,j<5→Rd w G (.sl ((lsH h j).map vu)) (src j))(v:Int)(hv:U64 v)
  (hr:Za (layH h)=true) (hv0: ¬v=0) (h1:(adr v).2=0) (part:Int) (at_:Nat) (hf:ZB (layH h) (adr v).1=(part,(at_:Int),0)) (hp:part=4)
  (wd:Int) (hwd:(lsH h 3)[at_]? =some wd) (hat:at_< (lsH h 3).length) (hwu:U64 wd) (hgo:(adr wd).2=0):
  Calls Try.prog 39 #[hpA h src,.int .u64 v] w (Yu w (fwd h v)):=by
 have HS:=Lib.hid hs
 have HH:=Lib.hid hh
 clear hs hh
 unfold hpA
 go_enter Try.func39,Try.ntmps39
 subst hp
 go_wp2_with (first
  | (go_at_call 61;go_loud (refine(Yr _ (w4.heap.size+1) w5.heap.size h x ST6.out.now HH.out 3 at_ (by omega) g q3 EP.out (by omega)).mono ?_;rintro e w7 ⟨rfl,hb7⟩;obtain⟨m,hm⟩: ∃m,(lsH h 3).length-at_=m:=⟨_,rfl⟩;obtain⟨qm,hqm⟩: ∃qm,q3-at_=qm:=⟨_,rfl⟩;rw[hm,hqm];have hm0:0<m:=(by omega);have hm0i:(0:Int) < (m:Int):=(by omega);have hat2:at_+0=at_:=rfl;have st7:=ST6.out.below hb7;have hs7:=hb7.size;simp at hs7;have res7:=st7.res;have y7: ∀j,(w7).cell? ⟨w.heap.size+1,j,none⟩=Z5[j]? :=fun j=>cell_of_row _ _ _ _ _ _ res7;unfold Z5 at y7;have f7: ∀j,(w7).frozen? ⟨w.heap.size+1,j,none⟩=false:=fun j=>Zb res7;have nb7:=st7.now.blk;rw[E0.out,E1.out,E2.out,E3.out,E4.out]at nb7;have n7c: ∀j,(w7).cell? ⟨w5.heap.size,j,none⟩=(#[.int .u64 h.base,.int .i64 h.cap,.int .i64 h.to,.bool h.cycle,.int .i64 h.scan,.slice a0 (lsH h 0).length q0,.slice a1 (lsH h 1).length q1,.slice a2 (lsH h 2).length q2,.slice (some ⟨g,0,none⟩) (lsH h 3).length q3,.slice a4 (lsH h 4).length q4]:Array Value)[j]? :=fun j=>cell_of_row _ _ _ _ _ _ nb7;have k7c: ∀j,(w7).cell? ⟨w4.heap.size,j,none⟩=(#[.int .i64 4,.int .i64 (at_:Nat)]:Array Value)[j]? :=fun j=>cell_of_row _ _ _ _ _ _ st7.plc;have m7c: ∀j,(w7).cell? ⟨w1.heap.size,j,none⟩=(#[.int .u64 (layH h).base,.int .i64 (layH h).cap,.int .i64 (layH h).to,.int .i64 (layH h).low,.int .i64 (layH h).high,.int .i64 (layH h).old,.int .i64 (layH h).far]:Array Value)[j]? :=fun j=>cell_of_row _ _ _ _ _ _ st7.lay;have hop7:=st7.now.own.own 3 (by omega);rw[EP.out]at hop7;have c7:=Zi hop7 hwd;clear nb7 hop7;have ST7:=Lib.hid st7;clear hb7 st7))
  | (go_at_call 59;go_loud (have st7:=ST7.out;refine(Zh hwu _).mono ?_;rintro e w8 ⟨rfl,hb8⟩;have st8:=st7.below hb8;have hs8:=hb8.size;have res8:=st8.res;have y8: ∀j,(w8).cell? ⟨w.heap.size+1,j,none⟩=Z5[j]? :=fun j=>cell_of_row _ _ _ _ _ _ res8;unfold Z5 at y8;have f8: ∀j,(w8).frozen? ⟨w.heap.size+1,j,none⟩=false:=fun j=>Zb res8;have nb8:=st8.now.blk;rw[E0.out,E1.out,E2.out,E3.out,E4.out]at nb8;have n8c: ∀j,(w8).cell? ⟨w5.heap.size,j,none⟩=(#[.int .u64 h.base,.int .i64 h.cap,.int .i64 h.to,.bool h.cycle,.int .i64 h.scan,.slice a0 (lsH h 0).length q0,.slice a1 (lsH h 1).length q1,.slice a2 (lsH h 2).length q2,.slice (some ⟨g,0,none⟩) (lsH h 3).length q3,.slice a4 (lsH h 4).length q4]:Array Value)[j]? :=fun j=>cell_of_row _ _ _ _ _ _ nb8;have k8c: ∀j,(w8).cell? ⟨w4.heap.size,j,none⟩=(#[.int .i64 4,.int .i64 (at_:Nat)]:Array Value)[j]? :=fun j=>cell_of_row _ _ _ _ _ _ st8.plc;have m8c: ∀j,(w8).cell? ⟨w1.heap.size,j,none⟩=(#[.int .u64 (layH h).base,.int .i64 (layH h).cap,.int .i64 (layH h).to,.int .i64 (layH h).low,.int .i64 (layH h).high,.int .i64 (layH h).old,.int .i64 (layH h).far]:Array Value)[j]? :=fun j=>cell_of_row _ _ _ _ _ _ st8.lay;have hop8:=st8.now.own.own 3 (by omega);rw[EP.out]at hop8;have c8:=Zi hop8 hwd;clear nb8 hop8;have ST8:=Lib.hid st8;clear hb8 st8 st7))
  | (go_at_call 62;go_loud (refine(ZG hwu _).mono ?_;rintro e w9 ⟨rfl,hb9⟩;rw[hun];dsimp only;have hs9:=hb9.size;have st10:FwSt w (w9.alloc (.cells #[.int .i64 (sz:Nat),.int .i64 pt] 47)) _ _ _ _ _ _ _ h x:=(ST8.out.below hb9).below ((Below.refl _ _).alloc (Nat.le_refl _) _);have res10:=st10.res;have y10: ∀j,((w9.alloc (.cells #[.int .i64 (sz:Nat),.int .i64 pt] 47))).cell? ⟨w.heap.size+1,j,none⟩=Z5[j]? :=fun j=>cell_of_row _ _ _ _ _ _ res10;unfold Z5 at y10;have f10: ∀j,((w9.alloc (.cells #[.int .i64 (sz:Nat),.int .i64 pt] 47))).frozen? ⟨w.heap.size+1,j,none⟩=false:=fun j=>Zb res10;have nb10:=st10.now.blk;rw[E0.out,E1.out,E2.out,E3.out,E4.out]at nb10;have n10c: ∀j,((w9.alloc (.cells #[.int .i64 (sz:Nat),.int .i64 pt] 47))).cell? ⟨w5.heap.size,j,none⟩=(#[.int .u64 h.base,.int .i64 h.cap,.int .i64 h.to,.bool h.cycle,.int .i64 h.scan,.slice a0 (lsH h 0).length q0,.slice a1 (lsH h 1).length q1,.slice a2 (lsH h 2).length q2,.slice (some ⟨g,0,none⟩) (lsH h 3).length q3,.slice a4 (lsH h 4).length q4]:Array Value)[j]? :=fun j=>cell_of_row _ _ _ _ _ _ nb10;have k10c: ∀j,((w9.alloc (.cells #[.int .i64 (sz:Nat),.int .i64 pt] 47))).cell? ⟨w4.heap.size,j,none⟩=(#[.int .i64 4,.int .i64 (at_:Nat)]:Array Value)[j]? :=fun j=>cell_of_row _ _ _ _ _ _ st10.plc;have m10c: ∀j,((w9.alloc (.cells #[.int .i64 (sz:Nat),.int .i64 pt] 47))).cell? ⟨w1.heap.size,j,none⟩=(#[.int .u64 (layH h).base,.int .i64 (layH h).cap,.int .i64 (layH h).to,.int .i64 (layH h).low,.int .i64 (layH h).high,.int .i64 (layH h).old,.int .i64 (layH h).far]:Array Value)[j]? :=fun j=>cell_of_row _ _ _ _ _ _ st10.lay;have hop10:=st10.now.own.own 3 (by omega);rw[EP.out]at hop10;have c10:=Zi hop10 hwd;clear nb10 hop10;have s10c: ∀j,(w9.alloc (.cells #[.int .i64 (sz:Nat),.int .i64 pt] 47)).cell? ⟨w9.heap.size,j,none⟩=(#[.int .i64 (sz:Nat),.int .i64 pt]:Array Value)[j]? :=fun j=>cell_of_row _ _ _ _ _ _ (heap_alloc_new w9 _);have ST10:=Lib.hid st10;have hml:m≤1000000:=(by have:=YJ HH.out 3;omega);have hl10:at_+m=(lsH h 3).length:=(by omega);clear hb9 st10))
  | (go_at_call 51;go_loud (refine(Zm (h:=h) (x:=src) (G:=G) (fun c hc=>by have:=hG c hc;simp;omega) (fun j hj=>(HS.out j hj).keep (fun b hb=>by have:=hG b hb;rw[Below.heap_alloc _ _ _ (by simp;omega),Below.heap_alloc _ _ _ (by omega)]) (fun _ h=>h))).mono ?_;rintro e w1 ⟨rfl,hb1⟩;unfold lyA;have z1:=(hb1.block (w.heap.size+1) (by simp)).trans (Y2 w _);have p1:=(hb1.block w.heap.size (by simp;omega)).trans ((Below.heap_alloc (w.alloc (.cells #[.int .u64 h.base,.int .i64 h.cap,.int .i64 h.to,.bool h.cycle,.int .i64 h.scan,src 0,src 1,src 2,src 3,src 4] 25)) _ w.heap.size (by simp)).trans (heap_alloc_new w _));have hs1:=hb1.size;simp at hs1;have HB1:=Lib.hid hb1;clear hb1))
  | (go_at_call 43;go_loud (refine(Zq HH.out.lay _).mono ?_;rintro e w2 ⟨rfl,hb2⟩;rw[hr];have z2:=(hb2.block (w.heap.size+1) (by simp;omega)).trans ((Below.heap_alloc w1 _ (w.heap.size+1) (by omega)).trans z1);have p2:=(hb2.block w.heap.size (by simp;omega)).trans ((Below.heap_alloc w1 _ w.heap.size (by omega)).trans p1);have x2: ∀j,w2.cell? ⟨w.heap.size,j,none⟩=(#[.int .u64 h.base,.int .i64 h.cap,.int .i64 h.to,.bool h.cycle,.int .i64 h.scan,src 0,src 1,src 2,src 3,src 4]:Array Value)[j]? :=fun j=>cell_of_row _ _ _ _ _ _ p2;have hb02:Below w.heap.size w w2:=((((((Below.refl _ _).alloc (Nat.le_refl _) _).alloc (by simp) _).trans (HB1.out.mono (by simp;omega))).alloc (by omega) _).trans (hb2.mono (by simp;omega)));have hs2:=hb2.size;simp at hs2;have m2:=(hb2.block w1.heap.size (by simp)).trans (heap_alloc_new w1 _);have HB02:=Lib.hid hb02;clear hb2 hb02))
  | (go_at_call 59;go_loud (refine(Zh hv _).mono ?_;rintro e w3 ⟨rfl,hb3⟩;have z3:=(hb3.block (w.heap.size+1) (by omega)).trans z2;have p3:=(hb3.block w.heap.size (by omega)).trans p2;have m3:=(hb3.block w1.heap.size (by omega)).trans m2;have l3: ∀j,w3.cell? ⟨w1.heap.size,j,none⟩=(#[.int .u64 (layH h).base,.int .i64 (layH h).cap,.int .i64 (layH h).to,.int .i64 (layH h).low,.int .i64 (layH h).high,.int .i64 (layH h).old,.int .i64 (layH h).far]:Array Value)[j]? :=fun j=>cell_of_row _ _ _ _ _ _ m3;have hs3:=hb3.size;have HB3:=Lib.hid hb3;clear hb3))
  | (go_at_call 60;go_loud (refine(ZH HH.out.lay (Uc hv) _).mono ?_;rintro e w4 ⟨rfl,hb4⟩;rw[hf];dsimp only;have hs4:=hb4.size;have z4: ∀o,(w4.alloc o).heap[w.heap.size+1]? =some (.cells Z5 25 (0,0)):=fun o=>(Below.heap_alloc w4 o (w.heap.size+1) (by omega)).trans ((hb4.block (w.heap.size+1) (by omega)).trans z3);have p4: ∀o,(w4.alloc o).heap[w.heap.size]? =some (.cells #[.int .u64 h.base,.int .i64 h.cap,.int .i64 h.to,.bool h.cycle,.int .i64 h.scan,src 0,src 1,src 2,src 3,src 4] 25 (0,0)):=fun o=>(Below.heap_alloc w4 o w.heap.size (by omega)).trans ((hb4.block w.heap.size (by omega)).trans p3);have x4: ∀o j,(w4.alloc o).cell? ⟨w.heap.size,j,none⟩=(#[.int .u64 h.base,.int .i64 h.cap,.int .i64 h.to,.bool h.cycle,.int .i64 h.scan,src 0,src 1,src 2,src 3,src 4]:Array Value)[j]? :=fun o j=>cell_of_row _ _ _ _ _ _ (p4 o);have hb04: ∀o,Below w.heap.size w (w4.alloc o):=fun o=>((HB02.out.trans (HB3.out.mono (by omega))).trans (hb4.mono (by omega))).alloc (by omega) o;have m4: ∀o,(w4.alloc o).heap[w1.heap.size]? =some (.cells #[.int .u64 (layH h).base,.int .i64 (layH h).cap,.int .i64 (layH h).to,.int .i64 (layH h).low,.int .i64 (layH h).high,.int .i64 (layH h).old,.int .i64 (layH h).far] 53 (0,0)):=fun o=>(Below.heap_alloc w4 o w1.heap.size (by omega)).trans ((hb4.block w1.heap.size (by omega)).trans m3);have k4:=heap_alloc_new w4 (.cells #[.int .i64 4,.int .i64 (at_:Nat)] 91);have HB04:=Lib.hid hb04;clear hb4 hb04 z3 p3 m3 l3 z2 p2 x2 m2))
  | (go_at_call 48;go_loud (refine(Yk _ G (fun b hb=>by have:=hG b hb;simp;omega) h HH.out src (fun j hj=>(HS.out j hj).keep (fun b hb=>(HB04.out _).block b (hG b hb)) (fun _ h=>h))).mono ?_;rintro e w5 ⟨x,rfl,hb5,ho5⟩;obtain⟨a0,q0,e0⟩:=Z1 (ho5.own 0 (by omega));obtain⟨a1,q1,e1⟩:=Z1 (ho5.own 1 (by omega));obtain⟨a2,q2,e2⟩:=Z1 (ho5.own 2 (by omega));obtain⟨a3,q3,e3⟩:=Z1 (ho5.own 3 (by omega));obtain⟨a4,q4,e4⟩:=Z1 (ho5.own 4 (by omega));obtain⟨g,hg⟩:=YF (ho5.own 3 (by omega)) e3 (by omega);subst hg;unfold hpA;rw[e0,e1,e2,e3,e4];have hs5:=hb5.size;simp at hs5;have hsz4: ∀o,(w4.alloc o).heap.size=w4.heap.size+1:=fun o=>(by simp);rw[hsz4]at ho5;have hN:=ZW ho5 (by omega);unfold Uo at hN;rw[e0,e1,e2,e3,e4]at hN;have hb05: ∀o,Below w.heap.size w (w5.alloc o):=fun o=>((HB04.out _).trans (hb5.mono (by simp;omega))).alloc (by omega) o;have z6: ∀o,(w5.alloc o).heap[w.heap.size+1]? =some (.cells Z5 25 (0,0)):=fun o=>(Below.heap_alloc w5 o (w.heap.size+1) (by omega)).trans ((hb5.block (w.heap.size+1) (by simp;omega)).trans (z4 _));have k6: ∀o,(w5.alloc o).heap[w4.heap.size]? =some (.cells #[.int .i64 4,.int .i64 (at_:Nat)] 91 (0,0)):=fun o=>(Below.heap_alloc w5 o w4.heap.size (by omega)).trans ((hb5.block w4.heap.size (by simp)).trans k4);have m6: ∀o,(w5.alloc o).heap[w1.heap.size]? =some (.cells #[.int .u64 (layH h).base,.int .i64 (layH h).cap,.int .i64 (layH h).to,.int .i64 (layH h).low,.int .i64 (layH h).high,.int .i64 (layH h).old,.int .i64 (layH h).far] 53 (0,0)):=fun o=>(Below.heap_alloc w5 o w1.heap.size (by omega)).trans ((hb5.block w1.heap.size (by simp;omega)).trans (m4 _));have k6c: ∀o j,(w5.alloc o).cell? ⟨w4.heap.size,j,none⟩=(#[.int .i64 4,.int .i64 (at_:Nat)]:Array Value)[j]? :=fun o j=>cell_of_row _ _ _ _ _ _ (k6 o);have m6c: ∀o j,(w5.alloc o).cell? ⟨w1.heap.size,j,none⟩=(#[.int .u64 (layH h).base,.int .i64 (layH h).cap,.int .i64 (layH h).to,.int .i64 (layH h).low,.int .i64 (layH h).high,.int .i64 (layH h).old,.int .i64 (layH h).far]:Array Value)[j]? :=fun o j=>cell_of_row _ _ _ _ _ _ (m6 o);have nb:=hN.blk;rw[e0,e1,e2,e3,e4]at nb;have n6c: ∀j,(w5.alloc (.cells #[.int .u64 h.base,.int .i64 h.cap,.int .i64 h.to,.bool h.cycle,.int .i64 h.scan,.slice a0 (lsH h 0).length q0,.slice a1 (lsH h 1).length q1,.slice a2 (lsH h 2).length q2,.slice (some ⟨g,0,none⟩) (lsH h 3).length q3,.slice a4 (lsH h 4).length q4] 113)).cell? ⟨w5.heap.size,j,none⟩=(#[.int .u64 h.base,.int .i64 h.cap,.int .i64 h.to,.bool h.cycle,.int .i64 h.scan,.slice a0 (lsH h 0).length q0,.slice a1 (lsH h 1).length q1,.slice a2 (lsH h 2).length q2,.slice (some ⟨g,0,none⟩) (lsH h 3).length q3,.slice a4 (lsH h 4).length q4]:Array Value)[j]? :=fun j=>cell_of_row _ _ _ _ _ _ nb;have y6: ∀o j,(w5.alloc o).cell? ⟨w.heap.size+1,j,none⟩=Z5[j]? :=fun o j=>cell_of_row _ _ _ _ _ _ (z6 o);have f6: ∀o j,(w5.alloc o).frozen? ⟨w.heap.size+1,j,none⟩=false:=fun o j=>Zb (z6 o);unfold Z5 at y6;have st6:FwSt w (w5.alloc (.cells #[.int .u64 h.base,.int .i64 h.cap,.int .i64 h.to,.bool h.cycle,.int .i64 h.scan,.slice a0 (lsH h 0).length q0,.slice a1 (lsH h 1).length q1,.slice a2 (lsH h 2).length q2,.slice (some ⟨g,0,none⟩) (lsH h 3).length q3,.slice a4 (lsH h 4).length q4] 113)) (w.heap.size+1) w1.heap.size w4.heap.size w5.heap.size (w4.heap.size+1) 4 (at_:Nat) h x:=⟨z6 _,m6 _,k6 _,hN,hb05 _,by omega,by omega,by omega,by omega,by simp;omega⟩;have ST6:=Lib.hid st6;have EP:=Lib.hid e3;clear st6;have HB05:=Lib.hid hb05;have HN:=Lib.hid hN;have E0:=Lib.hid e0;have E1:=Lib.hid e1;have E2:=Lib.hid e2;have E3:=Lib.hid e3;have E4:=Lib.hid e4;clear hb05 hN nb e0 e1 e2 e3 e4 ho5 hb5 z4 p4 x4 m4 k4)))
 have hpH:h.far.getD at_ 0=wd:=by show(lsH h 3).getD at_ 0=wd;simp[List.getD,hwd]
 have hfw:fwd h v=(wd,h,0):=by simp[fwd,hr,hv0,h1,hf,-List.getD_eq_getElem?_getD,hpH,hgo]
 go_region
 all_goals
  go_wp2
  try simp only[Exit.inBlock,Exit.then]
  have y:=Zv ST8.out.res (.int .u64 h.base) (.int .i64 h.cap) (.int .i64 h.to) (.bool h.cycle) (.int .i64 h.scan) (.slice a0 (lsH h 0).length q0) (.slice a1 (lsH h 1).length q1) (.slice a2 (lsH h 2).length q2) (.slice (some ⟨g,0,none⟩) (lsH h 3).length q3) (.slice a4 (lsH h 4).length q4)
  rw[hfw]
  refine bodyPost_ret (v:= .tuple #[.int .u64 wd,hpA h x,.int .i64 0]) ?_ rfl ?_
  ·unfold hpA;rw[E0.out,E1.out,E2.out,E3.out,E4.out];simp[results,Try.results39,go_sem,y]
  ·refine⟨x,rfl,?_,?_⟩
   ·exact(Zr ST8.out.bel (by omega) _ _ _ _ _ _ _ _ _ _).drew
   ·refine⟨fun j hj=> ?_,ST8.out.now.own.apart⟩
    have ho:=ST8.out.now.own.own j hj
    refine Sh (Zn ho ?_) ?_
    ·intro c hc
     have hc1:=(ho.lt c hc).1
     exact Yy (by omega) _ _ _ _ _ _ _ _ _ _
    ·intro c h1 h2
     exact⟨by omega,h2⟩
theorem RP(w:World)(G:Nat→Prop)(hG: ∀b,G b→b<w.heap.size)(h:Hp)(hh:h.ok)(src:Nat→Value)(hs: ∀j,j<5→Rd w G (.sl ((lsH h j).map vu)) (src j))(v:Int)(hv:U64 v)
  (hr:Za (layH h)=true) (hv0: ¬v=0) (h1:(adr v).2=0) (part:Int) (at_:Nat) (hf:ZB (layH h) (adr v).1=(part,(at_:Int),0)) (hp:part=3)
  (wd:Int) (hwd:(lsH h 2)[at_]? =some wd) (hat:at_< (lsH h 2).length) (hwu:U64 wd) (hgo: ¬(adr wd).2=0) (sz pt er:Int) (hun:unpk wd=(sz,pt,er)) (her: ¬er=0):
  Calls Try.prog 39 #[hpA h src,.int .u64 v] w (Yu w (fwd h v)):=by
 have HS:=Lib.hid hs
 have HH:=Lib.hid hh
 clear hs hh
 unfold hpA
 go_enter Try.func39,Try.ntmps39
 subst hp
 go_wp2_with (first
  | (go_at_call 61;go_loud (refine(Yr _ (w4.heap.size+1) w5.heap.size h x ST6.out.now HH.out 2 at_ (by omega) g q2 EP.out (by omega)).mono ?_;rintro e w7 ⟨rfl,hb7⟩;obtain⟨m,hm⟩: ∃m,(lsH h 2).length-at_=m:=⟨_,rfl⟩;obtain⟨qm,hqm⟩: ∃qm,q2-at_=qm:=⟨_,rfl⟩;rw[hm,hqm];have hm0:0<m:=(by omega);have hm0i:(0:Int) < (m:Int):=(by omega);have hat2:at_+0=at_:=rfl;have st7:=ST6.out.below hb7;have hs7:=hb7.size;simp at hs7;have res7:=st7.res;have y7: ∀j,(w7).cell? ⟨w.heap.size+1,j,none⟩=Z5[j]? :=fun j=>cell_of_row _ _ _ _ _ _ res7;unfold Z5 at y7;have f7: ∀j,(w7).frozen? ⟨w.heap.size+1,j,none⟩=false:=fun j=>Zb res7;have nb7:=st7.now.blk;rw[E0.out,E1.out,E2.out,E3.out,E4.out]at nb7;have n7c: ∀j,(w7).cell? ⟨w5.heap.size,j,none⟩=(#[.int .u64 h.base,.int .i64 h.cap,.int .i64 h.to,.bool h.cycle,.int .i64 h.scan,.slice a0 (lsH h 0).length q0,.slice a1 (lsH h 1).length q1,.slice (some ⟨g,0,none⟩) (lsH h 2).length q2,.slice a3 (lsH h 3).length q3,.slice a4 (lsH h 4).length q4]:Array Value)[j]? :=fun j=>cell_of_row _ _ _ _ _ _ nb7;have k7c: ∀j,(w7).cell? ⟨w4.heap.size,j,none⟩=(#[.int .i64 3,.int .i64 (at_:Nat)]:Array Value)[j]? :=fun j=>cell_of_row _ _ _ _ _ _ st7.plc;have m7c: ∀j,(w7).cell? ⟨w1.heap.size,j,none⟩=(#[.int .u64 (layH h).base,.int .i64 (layH h).cap,.int .i64 (layH h).to,.int .i64 (layH h).low,.int .i64 (layH h).high,.int .i64 (layH h).old,.int .i64 (layH h).far]:Array Value)[j]? :=fun j=>cell_of_row _ _ _ _ _ _ st7.lay;have hop7:=st7.now.own.own 2 (by omega);rw[EP.out]at hop7;have c7:=Zi hop7 hwd;clear nb7 hop7;have ST7:=Lib.hid st7;clear hb7 st7))
  | (go_at_call 59;go_loud (have st7:=ST7.out;refine(Zh hwu _).mono ?_;rintro e w8 ⟨rfl,hb8⟩;have st8:=st7.below hb8;have hs8:=hb8.size;have res8:=st8.res;have y8: ∀j,(w8).cell? ⟨w.heap.size+1,j,none⟩=Z5[j]? :=fun j=>cell_of_row _ _ _ _ _ _ res8;unfold Z5 at y8;have f8: ∀j,(w8).frozen? ⟨w.heap.size+1,j,none⟩=false:=fun j=>Zb res8;have nb8:=st8.now.blk;rw[E0.out,E1.out,E2.out,E3.out,E4.out]at nb8;have n8c: ∀j,(w8).cell? ⟨w5.heap.size,j,none⟩=(#[.int .u64 h.base,.int .i64 h.cap,.int .i64 h.to,.bool h.cycle,.int .i64 h.scan,.slice a0 (lsH h 0).length q0,.slice a1 (lsH h 1).length q1,.slice (some ⟨g,0,none⟩) (lsH h 2).length q2,.slice a3 (lsH h 3).length q3,.slice a4 (lsH h 4).length q4]:Array Value)[j]? :=fun j=>cell_of_row _ _ _ _ _ _ nb8;have k8c: ∀j,(w8).cell? ⟨w4.heap.size,j,none⟩=(#[.int .i64 3,.int .i64 (at_:Nat)]:Array Value)[j]? :=fun j=>cell_of_row _ _ _ _ _ _ st8.plc;have m8c: ∀j,(w8).cell? ⟨w1.heap.size,j,none⟩=(#[.int .u64 (layH h).base,.int .i64 (layH h).cap,.int .i64 (layH h).to,.int .i64 (layH h).low,.int .i64 (layH h).high,.int .i64 (layH h).old,.int .i64 (layH h).far]:Array Value)[j]? :=fun j=>cell_of_row _ _ _ _ _ _ st8.lay;have hop8:=st8.now.own.own 2 (by omega);rw[EP.out]at hop8;have c8:=Zi hop8 hwd;clear nb8 hop8;have ST8:=Lib.hid st8;clear hb8 st8 st7))
  | (go_at_call 62;go_loud (refine(ZG hwu _).mono ?_;rintro e w9 ⟨rfl,hb9⟩;rw[hun];dsimp only;have hs9:=hb9.size;have st10:FwSt w (w9.alloc (.cells #[.int .i64 sz,.int .i64 pt] 47)) _ _ _ _ _ _ _ h x:=(ST8.out.below hb9).below ((Below.refl _ _).alloc (Nat.le_refl _) _);have res10:=st10.res;have y10: ∀j,((w9.alloc (.cells #[.int .i64 sz,.int .i64 pt] 47))).cell? ⟨w.heap.size+1,j,none⟩=Z5[j]? :=fun j=>cell_of_row _ _ _ _ _ _ res10;unfold Z5 at y10;have f10: ∀j,((w9.alloc (.cells #[.int .i64 sz,.int .i64 pt] 47))).frozen? ⟨w.heap.size+1,j,none⟩=false:=fun j=>Zb res10;have nb10:=st10.now.blk;rw[E0.out,E1.out,E2.out,E3.out,E4.out]at nb10;have n10c: ∀j,((w9.alloc (.cells #[.int .i64 sz,.int .i64 pt] 47))).cell? ⟨w5.heap.size,j,none⟩=(#[.int .u64 h.base,.int .i64 h.cap,.int .i64 h.to,.bool h.cycle,.int .i64 h.scan,.slice a0 (lsH h 0).length q0,.slice a1 (lsH h 1).length q1,.slice (some ⟨g,0,none⟩) (lsH h 2).length q2,.slice a3 (lsH h 3).length q3,.slice a4 (lsH h 4).length q4]:Array Value)[j]? :=fun j=>cell_of_row _ _ _ _ _ _ nb10;have k10c: ∀j,((w9.alloc (.cells #[.int .i64 sz,.int .i64 pt] 47))).cell? ⟨w4.heap.size,j,none⟩=(#[.int .i64 3,.int .i64 (at_:Nat)]:Array Value)[j]? :=fun j=>cell_of_row _ _ _ _ _ _ st10.plc;have m10c: ∀j,((w9.alloc (.cells #[.int .i64 sz,.int .i64 pt] 47))).cell? ⟨w1.heap.size,j,none⟩=(#[.int .u64 (layH h).base,.int .i64 (layH h).cap,.int .i64 (layH h).to,.int .i64 (layH h).low,.int .i64 (layH h).high,.int .i64 (layH h).old,.int .i64 (layH h).far]:Array Value)[j]? :=fun j=>cell_of_row _ _ _ _ _ _ st10.lay;have hop10:=st10.now.own.own 2 (by omega);rw[EP.out]at hop10;have c10:=Zi hop10 hwd;clear nb10 hop10;have s10c: ∀j,(w9.alloc (.cells #[.int .i64 sz,.int .i64 pt] 47)).cell? ⟨w9.heap.size,j,none⟩=(#[.int .i64 sz,.int .i64 pt]:Array Value)[j]? :=fun j=>cell_of_row _ _ _ _ _ _ (heap_alloc_new w9 _);have ST10:=Lib.hid st10;have hml:m≤1000000:=(by have:=YJ HH.out 2;omega);have hl10:at_+m=(lsH h 2).length:=(by omega);clear hb9 st10))
  | (go_at_call 51;go_loud (refine(Zm (h:=h) (x:=src) (G:=G) (fun c hc=>by have:=hG c hc;simp;omega) (fun j hj=>(HS.out j hj).keep (fun b hb=>by have:=hG b hb;rw[Below.heap_alloc _ _ _ (by simp;omega),Below.heap_alloc _ _ _ (by omega)]) (fun _ h=>h))).mono ?_;rintro e w1 ⟨rfl,hb1⟩;unfold lyA;have z1:=(hb1.block (w.heap.size+1) (by simp)).trans (Y2 w _);have p1:=(hb1.block w.heap.size (by simp;omega)).trans ((Below.heap_alloc (w.alloc (.cells #[.int .u64 h.base,.int .i64 h.cap,.int .i64 h.to,.bool h.cycle,.int .i64 h.scan,src 0,src 1,src 2,src 3,src 4] 25)) _ w.heap.size (by simp)).trans (heap_alloc_new w _));have hs1:=hb1.size;simp at hs1;have HB1:=Lib.hid hb1;clear hb1))
  | (go_at_call 43;go_loud (refine(Zq HH.out.lay _).mono ?_;rintro e w2 ⟨rfl,hb2⟩;rw[hr];have z2:=(hb2.block (w.heap.size+1) (by simp;omega)).trans ((Below.heap_alloc w1 _ (w.heap.size+1) (by omega)).trans z1);have p2:=(hb2.block w.heap.size (by simp;omega)).trans ((Below.heap_alloc w1 _ w.heap.size (by omega)).trans p1);have x2: ∀j,w2.cell? ⟨w.heap.size,j,none⟩=(#[.int .u64 h.base,.int .i64 h.cap,.int .i64 h.to,.bool h.cycle,.int .i64 h.scan,src 0,src 1,src 2,src 3,src 4]:Array Value)[j]? :=fun j=>cell_of_row _ _ _ _ _ _ p2;have hb02:Below w.heap.size w w2:=((((((Below.refl _ _).alloc (Nat.le_refl _) _).alloc (by simp) _).trans (HB1.out.mono (by simp;omega))).alloc (by omega) _).trans (hb2.mono (by simp;omega)));have hs2:=hb2.size;simp at hs2;have m2:=(hb2.block w1.heap.size (by simp)).trans (heap_alloc_new w1 _);have HB02:=Lib.hid hb02;clear hb2 hb02))
  | (go_at_call 59;go_loud (refine(Zh hv _).mono ?_;rintro e w3 ⟨rfl,hb3⟩;have z3:=(hb3.block (w.heap.size+1) (by omega)).trans z2;have p3:=(hb3.block w.heap.size (by omega)).trans p2;have m3:=(hb3.block w1.heap.size (by omega)).trans m2;have l3: ∀j,w3.cell? ⟨w1.heap.size,j,none⟩=(#[.int .u64 (layH h).base,.int .i64 (layH h).cap,.int .i64 (layH h).to,.int .i64 (layH h).low,.int .i64 (layH h).high,.int .i64 (layH h).old,.int .i64 (layH h).far]:Array Value)[j]? :=fun j=>cell_of_row _ _ _ _ _ _ m3;have hs3:=hb3.size;have HB3:=Lib.hid hb3;clear hb3))
  | (go_at_call 60;go_loud (refine(ZH HH.out.lay (Uc hv) _).mono ?_;rintro e w4 ⟨rfl,hb4⟩;rw[hf];dsimp only;have hs4:=hb4.size;have z4: ∀o,(w4.alloc o).heap[w.heap.size+1]? =some (.cells Z5 25 (0,0)):=fun o=>(Below.heap_alloc w4 o (w.heap.size+1) (by omega)).trans ((hb4.block (w.heap.size+1) (by omega)).trans z3);have p4: ∀o,(w4.alloc o).heap[w.heap.size]? =some (.cells #[.int .u64 h.base,.int .i64 h.cap,.int .i64 h.to,.bool h.cycle,.int .i64 h.scan,src 0,src 1,src 2,src 3,src 4] 25 (0,0)):=fun o=>(Below.heap_alloc w4 o w.heap.size (by omega)).trans ((hb4.block w.heap.size (by omega)).trans p3);have x4: ∀o j,(w4.alloc o).cell? ⟨w.heap.size,j,none⟩=(#[.int .u64 h.base,.int .i64 h.cap,.int .i64 h.to,.bool h.cycle,.int .i64 h.scan,src 0,src 1,src 2,src 3,src 4]:Array Value)[j]? :=fun o j=>cell_of_row _ _ _ _ _ _ (p4 o);have hb04: ∀o,Below w.heap.size w (w4.alloc o):=fun o=>((HB02.out.trans (HB3.out.mono (by omega))).trans (hb4.mono (by omega))).alloc (by omega) o;have m4: ∀o,(w4.alloc o).heap[w1.heap.size]? =some (.cells #[.int .u64 (layH h).base,.int .i64 (layH h).cap,.int .i64 (layH h).to,.int .i64 (layH h).low,.int .i64 (layH h).high,.int .i64 (layH h).old,.int .i64 (layH h).far] 53 (0,0)):=fun o=>(Below.heap_alloc w4 o w1.heap.size (by omega)).trans ((hb4.block w1.heap.size (by omega)).trans m3);have k4:=heap_alloc_new w4 (.cells #[.int .i64 3,.int .i64 (at_:Nat)] 91);have HB04:=Lib.hid hb04;clear hb4 hb04 z3 p3 m3 l3 z2 p2 x2 m2))
  | (go_at_call 48;go_loud (refine(Yk _ G (fun b hb=>by have:=hG b hb;simp;omega) h HH.out src (fun j hj=>(HS.out j hj).keep (fun b hb=>(HB04.out _).block b (hG b hb)) (fun _ h=>h))).mono ?_;rintro e w5 ⟨x,rfl,hb5,ho5⟩;obtain⟨a0,q0,e0⟩:=Z1 (ho5.own 0 (by omega));obtain⟨a1,q1,e1⟩:=Z1 (ho5.own 1 (by omega));obtain⟨a2,q2,e2⟩:=Z1 (ho5.own 2 (by omega));obtain⟨a3,q3,e3⟩:=Z1 (ho5.own 3 (by omega));obtain⟨a4,q4,e4⟩:=Z1 (ho5.own 4 (by omega));obtain⟨g,hg⟩:=YF (ho5.own 2 (by omega)) e2 (by omega);subst hg;unfold hpA;rw[e0,e1,e2,e3,e4];have hs5:=hb5.size;simp at hs5;have hsz4: ∀o,(w4.alloc o).heap.size=w4.heap.size+1:=fun o=>(by simp);rw[hsz4]at ho5;have hN:=ZW ho5 (by omega);unfold Uo at hN;rw[e0,e1,e2,e3,e4]at hN;have hb05: ∀o,Below w.heap.size w (w5.alloc o):=fun o=>((HB04.out _).trans (hb5.mono (by simp;omega))).alloc (by omega) o;have z6: ∀o,(w5.alloc o).heap[w.heap.size+1]? =some (.cells Z5 25 (0,0)):=fun o=>(Below.heap_alloc w5 o (w.heap.size+1) (by omega)).trans ((hb5.block (w.heap.size+1) (by simp;omega)).trans (z4 _));have k6: ∀o,(w5.alloc o).heap[w4.heap.size]? =some (.cells #[.int .i64 3,.int .i64 (at_:Nat)] 91 (0,0)):=fun o=>(Below.heap_alloc w5 o w4.heap.size (by omega)).trans ((hb5.block w4.heap.size (by simp)).trans k4);have m6: ∀o,(w5.alloc o).heap[w1.heap.size]? =some (.cells #[.int .u64 (layH h).base,.int .i64 (layH h).cap,.int .i64 (layH h).to,.int .i64 (layH h).low,.int .i64 (layH h).high,.int .i64 (layH h).old,.int .i64 (layH h).far] 53 (0,0)):=fun o=>(Below.heap_alloc w5 o w1.heap.size (by omega)).trans ((hb5.block w1.heap.size (by simp;omega)).trans (m4 _));have k6c: ∀o j,(w5.alloc o).cell? ⟨w4.heap.size,j,none⟩=(#[.int .i64 3,.int .i64 (at_:Nat)]:Array Value)[j]? :=fun o j=>cell_of_row _ _ _ _ _ _ (k6 o);have m6c: ∀o j,(w5.alloc o).cell? ⟨w1.heap.size,j,none⟩=(#[.int .u64 (layH h).base,.int .i64 (layH h).cap,.int .i64 (layH h).to,.int .i64 (layH h).low,.int .i64 (layH h).high,.int .i64 (layH h).old,.int .i64 (layH h).far]:Array Value)[j]? :=fun o j=>cell_of_row _ _ _ _ _ _ (m6 o);have nb:=hN.blk;rw[e0,e1,e2,e3,e4]at nb;have n6c: ∀j,(w5.alloc (.cells #[.int .u64 h.base,.int .i64 h.cap,.int .i64 h.to,.bool h.cycle,.int .i64 h.scan,.slice a0 (lsH h 0).length q0,.slice a1 (lsH h 1).length q1,.slice (some ⟨g,0,none⟩) (lsH h 2).length q2,.slice a3 (lsH h 3).length q3,.slice a4 (lsH h 4).length q4] 113)).cell? ⟨w5.heap.size,j,none⟩=(#[.int .u64 h.base,.int .i64 h.cap,.int .i64 h.to,.bool h.cycle,.int .i64 h.scan,.slice a0 (lsH h 0).length q0,.slice a1 (lsH h 1).length q1,.slice (some ⟨g,0,none⟩) (lsH h 2).length q2,.slice a3 (lsH h 3).length q3,.slice a4 (lsH h 4).length q4]:Array Value)[j]? :=fun j=>cell_of_row _ _ _ _ _ _ nb;have y6: ∀o j,(w5.alloc o).cell? ⟨w.heap.size+1,j,none⟩=Z5[j]? :=fun o j=>cell_of_row _ _ _ _ _ _ (z6 o);have f6: ∀o j,(w5.alloc o).frozen? ⟨w.heap.size+1,j,none⟩=false:=fun o j=>Zb (z6 o);unfold Z5 at y6;have st6:FwSt w (w5.alloc (.cells #[.int .u64 h.base,.int .i64 h.cap,.int .i64 h.to,.bool h.cycle,.int .i64 h.scan,.slice a0 (lsH h 0).length q0,.slice a1 (lsH h 1).length q1,.slice (some ⟨g,0,none⟩) (lsH h 2).length q2,.slice a3 (lsH h 3).length q3,.slice a4 (lsH h 4).length q4] 113)) (w.heap.size+1) w1.heap.size w4.heap.size w5.heap.size (w4.heap.size+1) 3 (at_:Nat) h x:=⟨z6 _,m6 _,k6 _,hN,hb05 _,by omega,by omega,by omega,by omega,by simp;omega⟩;have ST6:=Lib.hid st6;have EP:=Lib.hid e2;clear st6;have HB05:=Lib.hid hb05;have HN:=Lib.hid hN;have E0:=Lib.hid e0;have E1:=Lib.hid e1;have E2:=Lib.hid e2;have E3:=Lib.hid e3;have E4:=Lib.hid e4;clear hb05 hN nb e0 e1 e2 e3 e4 ho5 hb5 z4 p4 x4 m4 k4)))
 have hpH:h.old.getD at_ 0=wd:=by show(lsH h 2).getD at_ 0=wd;simp[List.getD,hwd]
 have hpL:h.old.length=(lsH h 2).length:=rfl
 have hfw:fwd h v=(0,Hp.zero,3):=by simp[fwd,fwdC,hr,hv0,h1,hf,-List.getD_eq_getElem?_getD,hpH,hpL,hgo,hun,her]
 have y:=Zv ST10.out.res (.int .u64 0) (.int .i64 0) (.int .i64 0) (.bool false) (.int .i64 0) (.slice none 0 0) (.slice none 0 0) (.slice none 0 0) (.slice none 0 0) (.slice none 0 0)
 rw[hfw]
 refine bodyPost_ret (v:= .tuple #[.int .u64 0,.agg Z5,.int .i64 3]) ?_ rfl ?_
 ·simp[results,Try.results39,go_sem,y,Z5]
 ·refine⟨fun _=> .slice none 0 0,?_,?_,X9 _ _⟩
  ·simp[hpA,Hp.zero,Z5]
  ·exact Zr ST10.out.bel (by omega) _ _ _ _ _ _ _ _ _ _
theorem Sm(w:World)(G:Nat→Prop)(hG: ∀b,G b→b<w.heap.size)(h:Hp)(hh:h.ok)(src:Nat→Value)(hs: ∀j,j<5→Rd w G (.sl ((lsH h j).map vu)) (src j))(v:Int)(hv:U64 v)
  (hr:Za (layH h)=true) (hv0: ¬v=0) (h1:(adr v).2=0) (part:Int) (at_:Nat) (hf:ZB (layH h) (adr v).1=(part,(at_:Int),0)) (hp:part=3)
  (wd:Int) (hwd:(lsH h 2)[at_]? =some wd) (hat:at_< (lsH h 2).length) (hwu:U64 wd) (hgo: ¬(adr wd).2=0) (sz:Nat) (pt er:Int) (hun:unpk wd=((sz:Int),pt,er)) (hsz:sz≤255) (her:er=0) (hlt:(lsH h 2).length<at_+(sz+1)):
  Calls Try.prog 39 #[hpA h src,.int .u64 v] w (Yu w (fwd h v)):=by
 have HS:=Lib.hid hs
 have HH:=Lib.hid hh
 clear hs hh
 unfold hpA
 go_enter Try.func39,Try.ntmps39
 subst hp
 go_wp2_with (first
  | (go_at_call 61;go_loud (refine(Yr _ (w4.heap.size+1) w5.heap.size h x ST6.out.now HH.out 2 at_ (by omega) g q2 EP.out (by omega)).mono ?_;rintro e w7 ⟨rfl,hb7⟩;obtain⟨m,hm⟩: ∃m,(lsH h 2).length-at_=m:=⟨_,rfl⟩;obtain⟨qm,hqm⟩: ∃qm,q2-at_=qm:=⟨_,rfl⟩;rw[hm,hqm];have hm0:0<m:=(by omega);have hm0i:(0:Int) < (m:Int):=(by omega);have hat2:at_+0=at_:=rfl;have st7:=ST6.out.below hb7;have hs7:=hb7.size;simp at hs7;have res7:=st7.res;have y7: ∀j,(w7).cell? ⟨w.heap.size+1,j,none⟩=Z5[j]? :=fun j=>cell_of_row _ _ _ _ _ _ res7;unfold Z5 at y7;have f7: ∀j,(w7).frozen? ⟨w.heap.size+1,j,none⟩=false:=fun j=>Zb res7;have nb7:=st7.now.blk;rw[E0.out,E1.out,E2.out,E3.out,E4.out]at nb7;have n7c: ∀j,(w7).cell? ⟨w5.heap.size,j,none⟩=(#[.int .u64 h.base,.int .i64 h.cap,.int .i64 h.to,.bool h.cycle,.int .i64 h.scan,.slice a0 (lsH h 0).length q0,.slice a1 (lsH h 1).length q1,.slice (some ⟨g,0,none⟩) (lsH h 2).length q2,.slice a3 (lsH h 3).length q3,.slice a4 (lsH h 4).length q4]:Array Value)[j]? :=fun j=>cell_of_row _ _ _ _ _ _ nb7;have k7c: ∀j,(w7).cell? ⟨w4.heap.size,j,none⟩=(#[.int .i64 3,.int .i64 (at_:Nat)]:Array Value)[j]? :=fun j=>cell_of_row _ _ _ _ _ _ st7.plc;have m7c: ∀j,(w7).cell? ⟨w1.heap.size,j,none⟩=(#[.int .u64 (layH h).base,.int .i64 (layH h).cap,.int .i64 (layH h).to,.int .i64 (layH h).low,.int .i64 (layH h).high,.int .i64 (layH h).old,.int .i64 (layH h).far]:Array Value)[j]? :=fun j=>cell_of_row _ _ _ _ _ _ st7.lay;have hop7:=st7.now.own.own 2 (by omega);rw[EP.out]at hop7;have c7:=Zi hop7 hwd;clear nb7 hop7;have ST7:=Lib.hid st7;clear hb7 st7))
  | (go_at_call 59;go_loud (have st7:=ST7.out;refine(Zh hwu _).mono ?_;rintro e w8 ⟨rfl,hb8⟩;have st8:=st7.below hb8;have hs8:=hb8.size;have res8:=st8.res;have y8: ∀j,(w8).cell? ⟨w.heap.size+1,j,none⟩=Z5[j]? :=fun j=>cell_of_row _ _ _ _ _ _ res8;unfold Z5 at y8;have f8: ∀j,(w8).frozen? ⟨w.heap.size+1,j,none⟩=false:=fun j=>Zb res8;have nb8:=st8.now.blk;rw[E0.out,E1.out,E2.out,E3.out,E4.out]at nb8;have n8c: ∀j,(w8).cell? ⟨w5.heap.size,j,none⟩=(#[.int .u64 h.base,.int .i64 h.cap,.int .i64 h.to,.bool h.cycle,.int .i64 h.scan,.slice a0 (lsH h 0).length q0,.slice a1 (lsH h 1).length q1,.slice (some ⟨g,0,none⟩) (lsH h 2).length q2,.slice a3 (lsH h 3).length q3,.slice a4 (lsH h 4).length q4]:Array Value)[j]? :=fun j=>cell_of_row _ _ _ _ _ _ nb8;have k8c: ∀j,(w8).cell? ⟨w4.heap.size,j,none⟩=(#[.int .i64 3,.int .i64 (at_:Nat)]:Array Value)[j]? :=fun j=>cell_of_row _ _ _ _ _ _ st8.plc;have m8c: ∀j,(w8).cell? ⟨w1.heap.size,j,none⟩=(#[.int .u64 (layH h).base,.int .i64 (layH h).cap,.int .i64 (layH h).to,.int .i64 (layH h).low,.int .i64 (layH h).high,.int .i64 (layH h).old,.int .i64 (layH h).far]:Array Value)[j]? :=fun j=>cell_of_row _ _ _ _ _ _ st8.lay;have hop8:=st8.now.own.own 2 (by omega);rw[EP.out]at hop8;have c8:=Zi hop8 hwd;clear nb8 hop8;have ST8:=Lib.hid st8;clear hb8 st8 st7))
  | (go_at_call 62;go_loud (refine(ZG hwu _).mono ?_;rintro e w9 ⟨rfl,hb9⟩;rw[hun];dsimp only;have hs9:=hb9.size;have st10:FwSt w (w9.alloc (.cells #[.int .i64 (sz:Nat),.int .i64 pt] 47)) _ _ _ _ _ _ _ h x:=(ST8.out.below hb9).below ((Below.refl _ _).alloc (Nat.le_refl _) _);have res10:=st10.res;have y10: ∀j,((w9.alloc (.cells #[.int .i64 (sz:Nat),.int .i64 pt] 47))).cell? ⟨w.heap.size+1,j,none⟩=Z5[j]? :=fun j=>cell_of_row _ _ _ _ _ _ res10;unfold Z5 at y10;have f10: ∀j,((w9.alloc (.cells #[.int .i64 (sz:Nat),.int .i64 pt] 47))).frozen? ⟨w.heap.size+1,j,none⟩=false:=fun j=>Zb res10;have nb10:=st10.now.blk;rw[E0.out,E1.out,E2.out,E3.out,E4.out]at nb10;have n10c: ∀j,((w9.alloc (.cells #[.int .i64 (sz:Nat),.int .i64 pt] 47))).cell? ⟨w5.heap.size,j,none⟩=(#[.int .u64 h.base,.int .i64 h.cap,.int .i64 h.to,.bool h.cycle,.int .i64 h.scan,.slice a0 (lsH h 0).length q0,.slice a1 (lsH h 1).length q1,.slice (some ⟨g,0,none⟩) (lsH h 2).length q2,.slice a3 (lsH h 3).length q3,.slice a4 (lsH h 4).length q4]:Array Value)[j]? :=fun j=>cell_of_row _ _ _ _ _ _ nb10;have k10c: ∀j,((w9.alloc (.cells #[.int .i64 (sz:Nat),.int .i64 pt] 47))).cell? ⟨w4.heap.size,j,none⟩=(#[.int .i64 3,.int .i64 (at_:Nat)]:Array Value)[j]? :=fun j=>cell_of_row _ _ _ _ _ _ st10.plc;have m10c: ∀j,((w9.alloc (.cells #[.int .i64 (sz:Nat),.int .i64 pt] 47))).cell? ⟨w1.heap.size,j,none⟩=(#[.int .u64 (layH h).base,.int .i64 (layH h).cap,.int .i64 (layH h).to,.int .i64 (layH h).low,.int .i64 (layH h).high,.int .i64 (layH h).old,.int .i64 (layH h).far]:Array Value)[j]? :=fun j=>cell_of_row _ _ _ _ _ _ st10.lay;have hop10:=st10.now.own.own 2 (by omega);rw[EP.out]at hop10;have c10:=Zi hop10 hwd;clear nb10 hop10;have s10c: ∀j,(w9.alloc (.cells #[.int .i64 (sz:Nat),.int .i64 pt] 47)).cell? ⟨w9.heap.size,j,none⟩=(#[.int .i64 (sz:Nat),.int .i64 pt]:Array Value)[j]? :=fun j=>cell_of_row _ _ _ _ _ _ (heap_alloc_new w9 _);have ST10:=Lib.hid st10;have hml:m≤1000000:=(by have:=YJ HH.out 2;omega);have hl10:at_+m=(lsH h 2).length:=(by omega);clear hb9 st10))
  | (go_at_call 51;go_loud (refine(Zm (h:=h) (x:=src) (G:=G) (fun c hc=>by have:=hG c hc;simp;omega) (fun j hj=>(HS.out j hj).keep (fun b hb=>by have:=hG b hb;rw[Below.heap_alloc _ _ _ (by simp;omega),Below.heap_alloc _ _ _ (by omega)]) (fun _ h=>h))).mono ?_;rintro e w1 ⟨rfl,hb1⟩;unfold lyA;have z1:=(hb1.block (w.heap.size+1) (by simp)).trans (Y2 w _);have p1:=(hb1.block w.heap.size (by simp;omega)).trans ((Below.heap_alloc (w.alloc (.cells #[.int .u64 h.base,.int .i64 h.cap,.int .i64 h.to,.bool h.cycle,.int .i64 h.scan,src 0,src 1,src 2,src 3,src 4] 25)) _ w.heap.size (by simp)).trans (heap_alloc_new w _));have hs1:=hb1.size;simp at hs1;have HB1:=Lib.hid hb1;clear hb1))
  | (go_at_call 43;go_loud (refine(Zq HH.out.lay _).mono ?_;rintro e w2 ⟨rfl,hb2⟩;rw[hr];have z2:=(hb2.block (w.heap.size+1) (by simp;omega)).trans ((Below.heap_alloc w1 _ (w.heap.size+1) (by omega)).trans z1);have p2:=(hb2.block w.heap.size (by simp;omega)).trans ((Below.heap_alloc w1 _ w.heap.size (by omega)).trans p1);have x2: ∀j,w2.cell? ⟨w.heap.size,j,none⟩=(#[.int .u64 h.base,.int .i64 h.cap,.int .i64 h.to,.bool h.cycle,.int .i64 h.scan,src 0,src 1,src 2,src 3,src 4]:Array Value)[j]? :=fun j=>cell_of_row _ _ _ _ _ _ p2;have hb02:Below w.heap.size w w2:=((((((Below.refl _ _).alloc (Nat.le_refl _) _).alloc (by simp) _).trans (HB1.out.mono (by simp;omega))).alloc (by omega) _).trans (hb2.mono (by simp;omega)));have hs2:=hb2.size;simp at hs2;have m2:=(hb2.block w1.heap.size (by simp)).trans (heap_alloc_new w1 _);have HB02:=Lib.hid hb02;clear hb2 hb02))
  | (go_at_call 59;go_loud (refine(Zh hv _).mono ?_;rintro e w3 ⟨rfl,hb3⟩;have z3:=(hb3.block (w.heap.size+1) (by omega)).trans z2;have p3:=(hb3.block w.heap.size (by omega)).trans p2;have m3:=(hb3.block w1.heap.size (by omega)).trans m2;have l3: ∀j,w3.cell? ⟨w1.heap.size,j,none⟩=(#[.int .u64 (layH h).base,.int .i64 (layH h).cap,.int .i64 (layH h).to,.int .i64 (layH h).low,.int .i64 (layH h).high,.int .i64 (layH h).old,.int .i64 (layH h).far]:Array Value)[j]? :=fun j=>cell_of_row _ _ _ _ _ _ m3;have hs3:=hb3.size;have HB3:=Lib.hid hb3;clear hb3))
  | (go_at_call 60;go_loud (refine(ZH HH.out.lay (Uc hv) _).mono ?_;rintro e w4 ⟨rfl,hb4⟩;rw[hf];dsimp only;have hs4:=hb4.size;have z4: ∀o,(w4.alloc o).heap[w.heap.size+1]? =some (.cells Z5 25 (0,0)):=fun o=>(Below.heap_alloc w4 o (w.heap.size+1) (by omega)).trans ((hb4.block (w.heap.size+1) (by omega)).trans z3);have p4: ∀o,(w4.alloc o).heap[w.heap.size]? =some (.cells #[.int .u64 h.base,.int .i64 h.cap,.int .i64 h.to,.bool h.cycle,.int .i64 h.scan,src 0,src 1,src 2,src 3,src 4] 25 (0,0)):=fun o=>(Below.heap_alloc w4 o w.heap.size (by omega)).trans ((hb4.block w.heap.size (by omega)).trans p3);have x4: ∀o j,(w4.alloc o).cell? ⟨w.heap.size,j,none⟩=(#[.int .u64 h.base,.int .i64 h.cap,.int .i64 h.to,.bool h.cycle,.int .i64 h.scan,src 0,src 1,src 2,src 3,src 4]:Array Value)[j]? :=fun o j=>cell_of_row _ _ _ _ _ _ (p4 o);have hb04: ∀o,Below w.heap.size w (w4.alloc o):=fun o=>((HB02.out.trans (HB3.out.mono (by omega))).trans (hb4.mono (by omega))).alloc (by omega) o;have m4: ∀o,(w4.alloc o).heap[w1.heap.size]? =some (.cells #[.int .u64 (layH h).base,.int .i64 (layH h).cap,.int .i64 (layH h).to,.int .i64 (layH h).low,.int .i64 (layH h).high,.int .i64 (layH h).old,.int .i64 (layH h).far] 53 (0,0)):=fun o=>(Below.heap_alloc w4 o w1.heap.size (by omega)).trans ((hb4.block w1.heap.size (by omega)).trans m3);have k4:=heap_alloc_new w4 (.cells #[.int .i64 3,.int .i64 (at_:Nat)] 91);have HB04:=Lib.hid hb04;clear hb4 hb04 z3 p3 m3 l3 z2 p2 x2 m2))
  | (go_at_call 48;go_loud (refine(Yk _ G (fun b hb=>by have:=hG b hb;simp;omega) h HH.out src (fun j hj=>(HS.out j hj).keep (fun b hb=>(HB04.out _).block b (hG b hb)) (fun _ h=>h))).mono ?_;rintro e w5 ⟨x,rfl,hb5,ho5⟩;obtain⟨a0,q0,e0⟩:=Z1 (ho5.own 0 (by omega));obtain⟨a1,q1,e1⟩:=Z1 (ho5.own 1 (by omega));obtain⟨a2,q2,e2⟩:=Z1 (ho5.own 2 (by omega));obtain⟨a3,q3,e3⟩:=Z1 (ho5.own 3 (by omega));obtain⟨a4,q4,e4⟩:=Z1 (ho5.own 4 (by omega));obtain⟨g,hg⟩:=YF (ho5.own 2 (by omega)) e2 (by omega);subst hg;unfold hpA;rw[e0,e1,e2,e3,e4];have hs5:=hb5.size;simp at hs5;have hsz4: ∀o,(w4.alloc o).heap.size=w4.heap.size+1:=fun o=>(by simp);rw[hsz4]at ho5;have hN:=ZW ho5 (by omega);unfold Uo at hN;rw[e0,e1,e2,e3,e4]at hN;have hb05: ∀o,Below w.heap.size w (w5.alloc o):=fun o=>((HB04.out _).trans (hb5.mono (by simp;omega))).alloc (by omega) o;have z6: ∀o,(w5.alloc o).heap[w.heap.size+1]? =some (.cells Z5 25 (0,0)):=fun o=>(Below.heap_alloc w5 o (w.heap.size+1) (by omega)).trans ((hb5.block (w.heap.size+1) (by simp;omega)).trans (z4 _));have k6: ∀o,(w5.alloc o).heap[w4.heap.size]? =some (.cells #[.int .i64 3,.int .i64 (at_:Nat)] 91 (0,0)):=fun o=>(Below.heap_alloc w5 o w4.heap.size (by omega)).trans ((hb5.block w4.heap.size (by simp)).trans k4);have m6: ∀o,(w5.alloc o).heap[w1.heap.size]? =some (.cells #[.int .u64 (layH h).base,.int .i64 (layH h).cap,.int .i64 (layH h).to,.int .i64 (layH h).low,.int .i64 (layH h).high,.int .i64 (layH h).old,.int .i64 (layH h).far] 53 (0,0)):=fun o=>(Below.heap_alloc w5 o w1.heap.size (by omega)).trans ((hb5.block w1.heap.size (by simp;omega)).trans (m4 _));have k6c: ∀o j,(w5.alloc o).cell? ⟨w4.heap.size,j,none⟩=(#[.int .i64 3,.int .i64 (at_:Nat)]:Array Value)[j]? :=fun o j=>cell_of_row _ _ _ _ _ _ (k6 o);have m6c: ∀o j,(w5.alloc o).cell? ⟨w1.heap.size,j,none⟩=(#[.int .u64 (layH h).base,.int .i64 (layH h).cap,.int .i64 (layH h).to,.int .i64 (layH h).low,.int .i64 (layH h).high,.int .i64 (layH h).old,.int .i64 (layH h).far]:Array Value)[j]? :=fun o j=>cell_of_row _ _ _ _ _ _ (m6 o);have nb:=hN.blk;rw[e0,e1,e2,e3,e4]at nb;have n6c: ∀j,(w5.alloc (.cells #[.int .u64 h.base,.int .i64 h.cap,.int .i64 h.to,.bool h.cycle,.int .i64 h.scan,.slice a0 (lsH h 0).length q0,.slice a1 (lsH h 1).length q1,.slice (some ⟨g,0,none⟩) (lsH h 2).length q2,.slice a3 (lsH h 3).length q3,.slice a4 (lsH h 4).length q4] 113)).cell? ⟨w5.heap.size,j,none⟩=(#[.int .u64 h.base,.int .i64 h.cap,.int .i64 h.to,.bool h.cycle,.int .i64 h.scan,.slice a0 (lsH h 0).length q0,.slice a1 (lsH h 1).length q1,.slice (some ⟨g,0,none⟩) (lsH h 2).length q2,.slice a3 (lsH h 3).length q3,.slice a4 (lsH h 4).length q4]:Array Value)[j]? :=fun j=>cell_of_row _ _ _ _ _ _ nb;have y6: ∀o j,(w5.alloc o).cell? ⟨w.heap.size+1,j,none⟩=Z5[j]? :=fun o j=>cell_of_row _ _ _ _ _ _ (z6 o);have f6: ∀o j,(w5.alloc o).frozen? ⟨w.heap.size+1,j,none⟩=false:=fun o j=>Zb (z6 o);unfold Z5 at y6;have st6:FwSt w (w5.alloc (.cells #[.int .u64 h.base,.int .i64 h.cap,.int .i64 h.to,.bool h.cycle,.int .i64 h.scan,.slice a0 (lsH h 0).length q0,.slice a1 (lsH h 1).length q1,.slice (some ⟨g,0,none⟩) (lsH h 2).length q2,.slice a3 (lsH h 3).length q3,.slice a4 (lsH h 4).length q4] 113)) (w.heap.size+1) w1.heap.size w4.heap.size w5.heap.size (w4.heap.size+1) 3 (at_:Nat) h x:=⟨z6 _,m6 _,k6 _,hN,hb05 _,by omega,by omega,by omega,by omega,by simp;omega⟩;have ST6:=Lib.hid st6;have EP:=Lib.hid e2;clear st6;have HB05:=Lib.hid hb05;have HN:=Lib.hid hN;have E0:=Lib.hid e0;have E1:=Lib.hid e1;have E2:=Lib.hid e2;have E3:=Lib.hid e3;have E4:=Lib.hid e4;clear hb05 hN nb e0 e1 e2 e3 e4 ho5 hb5 z4 p4 x4 m4 k4)))
 have hpH:h.old.getD at_ 0=wd:=by show(lsH h 2).getD at_ 0=wd;simp[List.getD,hwd]
 have hpL:h.old.length=(lsH h 2).length:=rfl
 have hfw:fwd h v=(0,Hp.zero,2):=by simp[fwd,fwdC,hr,hv0,h1,hf,-List.getD_eq_getElem?_getD,hpH,hpL,hgo,hun,her,hlt]
 have y:=Zv ST10.out.res (.int .u64 0) (.int .i64 0) (.int .i64 0) (.bool false) (.int .i64 0) (.slice none 0 0) (.slice none 0 0) (.slice none 0 0) (.slice none 0 0) (.slice none 0 0)
 rw[hfw]
 refine bodyPost_ret (v:= .tuple #[.int .u64 0,.agg Z5,.int .i64 2]) ?_ rfl ?_
 ·simp[results,Try.results39,go_sem,y,Z5]
 ·refine⟨fun _=> .slice none 0 0,?_,?_,X9 _ _⟩
  ·simp[hpA,Hp.zero,Z5]
  ·exact Zr ST10.out.bel (by omega) _ _ _ _ _ _ _ _ _ _
theorem QK(w:World)(G:Nat→Prop)(hG: ∀b,G b→b<w.heap.size)(h:Hp)(hh:h.ok)(src:Nat→Value)(hs: ∀j,j<5→Rd w G (.sl ((lsH h j).map vu)) (src j))(v:Int)(hv:U64 v)
  (hr:Za (layH h)=true) (hv0: ¬v=0) (h1:(adr v).2=0) (part:Int) (at_:Nat) (hf:ZB (layH h) (adr v).1=(part,(at_:Int),0)) (hp:part=3)
  (wd:Int) (hwd:(lsH h 2)[at_]? =some wd) (hat:at_< (lsH h 2).length) (hwu:U64 wd) (hgo: ¬(adr wd).2=0) (sz:Nat) (pt er:Int) (hun:unpk wd=((sz:Int),pt,er)) (hsz:sz≤255) (her:er=0) (hle:at_+(sz+1)≤(lsH h 2).length) (hrm:Yo (layH h) < ((sz+1:Nat):Int)):
  Calls Try.prog 39 #[hpA h src,.int .u64 v] w (Yu w (fwd h v)):=by
 have HS:=Lib.hid hs
 have HH:=Lib.hid hh
 clear hs hh
 unfold hpA
 go_enter Try.func39,Try.ntmps39
 subst hp
 go_wp2_with (first
  | (go_at_call 61;go_loud (refine(Yr _ (w4.heap.size+1) w5.heap.size h x ST6.out.now HH.out 2 at_ (by omega) g q2 EP.out (by omega)).mono ?_;rintro e w7 ⟨rfl,hb7⟩;obtain⟨m,hm⟩: ∃m,(lsH h 2).length-at_=m:=⟨_,rfl⟩;obtain⟨qm,hqm⟩: ∃qm,q2-at_=qm:=⟨_,rfl⟩;rw[hm,hqm];have hm0:0<m:=(by omega);have hm0i:(0:Int) < (m:Int):=(by omega);have hat2:at_+0=at_:=rfl;have st7:=ST6.out.below hb7;have hs7:=hb7.size;simp at hs7;have res7:=st7.res;have y7: ∀j,(w7).cell? ⟨w.heap.size+1,j,none⟩=Z5[j]? :=fun j=>cell_of_row _ _ _ _ _ _ res7;unfold Z5 at y7;have f7: ∀j,(w7).frozen? ⟨w.heap.size+1,j,none⟩=false:=fun j=>Zb res7;have nb7:=st7.now.blk;rw[E0.out,E1.out,E2.out,E3.out,E4.out]at nb7;have n7c: ∀j,(w7).cell? ⟨w5.heap.size,j,none⟩=(#[.int .u64 h.base,.int .i64 h.cap,.int .i64 h.to,.bool h.cycle,.int .i64 h.scan,.slice a0 (lsH h 0).length q0,.slice a1 (lsH h 1).length q1,.slice (some ⟨g,0,none⟩) (lsH h 2).length q2,.slice a3 (lsH h 3).length q3,.slice a4 (lsH h 4).length q4]:Array Value)[j]? :=fun j=>cell_of_row _ _ _ _ _ _ nb7;have k7c: ∀j,(w7).cell? ⟨w4.heap.size,j,none⟩=(#[.int .i64 3,.int .i64 (at_:Nat)]:Array Value)[j]? :=fun j=>cell_of_row _ _ _ _ _ _ st7.plc;have m7c: ∀j,(w7).cell? ⟨w1.heap.size,j,none⟩=(#[.int .u64 (layH h).base,.int .i64 (layH h).cap,.int .i64 (layH h).to,.int .i64 (layH h).low,.int .i64 (layH h).high,.int .i64 (layH h).old,.int .i64 (layH h).far]:Array Value)[j]? :=fun j=>cell_of_row _ _ _ _ _ _ st7.lay;have hop7:=st7.now.own.own 2 (by omega);rw[EP.out]at hop7;have c7:=Zi hop7 hwd;clear nb7 hop7;have ST7:=Lib.hid st7;clear hb7 st7))
  | (go_at_call 59;go_loud (have st7:=ST7.out;refine(Zh hwu _).mono ?_;rintro e w8 ⟨rfl,hb8⟩;have st8:=st7.below hb8;have hs8:=hb8.size;have res8:=st8.res;have y8: ∀j,(w8).cell? ⟨w.heap.size+1,j,none⟩=Z5[j]? :=fun j=>cell_of_row _ _ _ _ _ _ res8;unfold Z5 at y8;have f8: ∀j,(w8).frozen? ⟨w.heap.size+1,j,none⟩=false:=fun j=>Zb res8;have nb8:=st8.now.blk;rw[E0.out,E1.out,E2.out,E3.out,E4.out]at nb8;have n8c: ∀j,(w8).cell? ⟨w5.heap.size,j,none⟩=(#[.int .u64 h.base,.int .i64 h.cap,.int .i64 h.to,.bool h.cycle,.int .i64 h.scan,.slice a0 (lsH h 0).length q0,.slice a1 (lsH h 1).length q1,.slice (some ⟨g,0,none⟩) (lsH h 2).length q2,.slice a3 (lsH h 3).length q3,.slice a4 (lsH h 4).length q4]:Array Value)[j]? :=fun j=>cell_of_row _ _ _ _ _ _ nb8;have k8c: ∀j,(w8).cell? ⟨w4.heap.size,j,none⟩=(#[.int .i64 3,.int .i64 (at_:Nat)]:Array Value)[j]? :=fun j=>cell_of_row _ _ _ _ _ _ st8.plc;have m8c: ∀j,(w8).cell? ⟨w1.heap.size,j,none⟩=(#[.int .u64 (layH h).base,.int .i64 (layH h).cap,.int .i64 (layH h).to,.int .i64 (layH h).low,.int .i64 (layH h).high,.int .i64 (layH h).old,.int .i64 (layH h).far]:Array Value)[j]? :=fun j=>cell_of_row _ _ _ _ _ _ st8.lay;have hop8:=st8.now.own.own 2 (by omega);rw[EP.out]at hop8;have c8:=Zi hop8 hwd;clear nb8 hop8;have ST8:=Lib.hid st8;clear hb8 st8 st7))
  | (go_at_call 62;go_loud (refine(ZG hwu _).mono ?_;rintro e w9 ⟨rfl,hb9⟩;rw[hun];dsimp only;have hs9:=hb9.size;have st10:FwSt w (w9.alloc (.cells #[.int .i64 (sz:Nat),.int .i64 pt] 47)) _ _ _ _ _ _ _ h x:=(ST8.out.below hb9).below ((Below.refl _ _).alloc (Nat.le_refl _) _);have res10:=st10.res;have y10: ∀j,((w9.alloc (.cells #[.int .i64 (sz:Nat),.int .i64 pt] 47))).cell? ⟨w.heap.size+1,j,none⟩=Z5[j]? :=fun j=>cell_of_row _ _ _ _ _ _ res10;unfold Z5 at y10;have f10: ∀j,((w9.alloc (.cells #[.int .i64 (sz:Nat),.int .i64 pt] 47))).frozen? ⟨w.heap.size+1,j,none⟩=false:=fun j=>Zb res10;have nb10:=st10.now.blk;rw[E0.out,E1.out,E2.out,E3.out,E4.out]at nb10;have n10c: ∀j,((w9.alloc (.cells #[.int .i64 (sz:Nat),.int .i64 pt] 47))).cell? ⟨w5.heap.size,j,none⟩=(#[.int .u64 h.base,.int .i64 h.cap,.int .i64 h.to,.bool h.cycle,.int .i64 h.scan,.slice a0 (lsH h 0).length q0,.slice a1 (lsH h 1).length q1,.slice (some ⟨g,0,none⟩) (lsH h 2).length q2,.slice a3 (lsH h 3).length q3,.slice a4 (lsH h 4).length q4]:Array Value)[j]? :=fun j=>cell_of_row _ _ _ _ _ _ nb10;have k10c: ∀j,((w9.alloc (.cells #[.int .i64 (sz:Nat),.int .i64 pt] 47))).cell? ⟨w4.heap.size,j,none⟩=(#[.int .i64 3,.int .i64 (at_:Nat)]:Array Value)[j]? :=fun j=>cell_of_row _ _ _ _ _ _ st10.plc;have m10c: ∀j,((w9.alloc (.cells #[.int .i64 (sz:Nat),.int .i64 pt] 47))).cell? ⟨w1.heap.size,j,none⟩=(#[.int .u64 (layH h).base,.int .i64 (layH h).cap,.int .i64 (layH h).to,.int .i64 (layH h).low,.int .i64 (layH h).high,.int .i64 (layH h).old,.int .i64 (layH h).far]:Array Value)[j]? :=fun j=>cell_of_row _ _ _ _ _ _ st10.lay;have hop10:=st10.now.own.own 2 (by omega);rw[EP.out]at hop10;have c10:=Zi hop10 hwd;clear nb10 hop10;have s10c: ∀j,(w9.alloc (.cells #[.int .i64 (sz:Nat),.int .i64 pt] 47)).cell? ⟨w9.heap.size,j,none⟩=(#[.int .i64 (sz:Nat),.int .i64 pt]:Array Value)[j]? :=fun j=>cell_of_row _ _ _ _ _ _ (heap_alloc_new w9 _);have ST10:=Lib.hid st10;have hml:m≤1000000:=(by have:=YJ HH.out 2;omega);have hl10:at_+m=(lsH h 2).length:=(by omega);clear hb9 st10))
  | (go_at_call 51;go_loud (refine(Zm (h:=h) (x:=src) (G:=G) (fun c hc=>by have:=hG c hc;simp;omega) (fun j hj=>(HS.out j hj).keep (fun b hb=>by have:=hG b hb;rw[Below.heap_alloc _ _ _ (by simp;omega),Below.heap_alloc _ _ _ (by omega)]) (fun _ h=>h))).mono ?_;rintro e w1 ⟨rfl,hb1⟩;unfold lyA;have z1:=(hb1.block (w.heap.size+1) (by simp)).trans (Y2 w _);have p1:=(hb1.block w.heap.size (by simp;omega)).trans ((Below.heap_alloc (w.alloc (.cells #[.int .u64 h.base,.int .i64 h.cap,.int .i64 h.to,.bool h.cycle,.int .i64 h.scan,src 0,src 1,src 2,src 3,src 4] 25)) _ w.heap.size (by simp)).trans (heap_alloc_new w _));have hs1:=hb1.size;simp at hs1;have HB1:=Lib.hid hb1;clear hb1))
  | (go_at_call 43;go_loud (refine(Zq HH.out.lay _).mono ?_;rintro e w2 ⟨rfl,hb2⟩;rw[hr];have z2:=(hb2.block (w.heap.size+1) (by simp;omega)).trans ((Below.heap_alloc w1 _ (w.heap.size+1) (by omega)).trans z1);have p2:=(hb2.block w.heap.size (by simp;omega)).trans ((Below.heap_alloc w1 _ w.heap.size (by omega)).trans p1);have x2: ∀j,w2.cell? ⟨w.heap.size,j,none⟩=(#[.int .u64 h.base,.int .i64 h.cap,.int .i64 h.to,.bool h.cycle,.int .i64 h.scan,src 0,src 1,src 2,src 3,src 4]:Array Value)[j]? :=fun j=>cell_of_row _ _ _ _ _ _ p2;have hb02:Below w.heap.size w w2:=((((((Below.refl _ _).alloc (Nat.le_refl _) _).alloc (by simp) _).trans (HB1.out.mono (by simp;omega))).alloc (by omega) _).trans (hb2.mono (by simp;omega)));have hs2:=hb2.size;simp at hs2;have m2:=(hb2.block w1.heap.size (by simp)).trans (heap_alloc_new w1 _);have HB02:=Lib.hid hb02;clear hb2 hb02))
  | (go_at_call 59;go_loud (refine(Zh hv _).mono ?_;rintro e w3 ⟨rfl,hb3⟩;have z3:=(hb3.block (w.heap.size+1) (by omega)).trans z2;have p3:=(hb3.block w.heap.size (by omega)).trans p2;have m3:=(hb3.block w1.heap.size (by omega)).trans m2;have l3: ∀j,w3.cell? ⟨w1.heap.size,j,none⟩=(#[.int .u64 (layH h).base,.int .i64 (layH h).cap,.int .i64 (layH h).to,.int .i64 (layH h).low,.int .i64 (layH h).high,.int .i64 (layH h).old,.int .i64 (layH h).far]:Array Value)[j]? :=fun j=>cell_of_row _ _ _ _ _ _ m3;have hs3:=hb3.size;have HB3:=Lib.hid hb3;clear hb3))
  | (go_at_call 60;go_loud (refine(ZH HH.out.lay (Uc hv) _).mono ?_;rintro e w4 ⟨rfl,hb4⟩;rw[hf];dsimp only;have hs4:=hb4.size;have z4: ∀o,(w4.alloc o).heap[w.heap.size+1]? =some (.cells Z5 25 (0,0)):=fun o=>(Below.heap_alloc w4 o (w.heap.size+1) (by omega)).trans ((hb4.block (w.heap.size+1) (by omega)).trans z3);have p4: ∀o,(w4.alloc o).heap[w.heap.size]? =some (.cells #[.int .u64 h.base,.int .i64 h.cap,.int .i64 h.to,.bool h.cycle,.int .i64 h.scan,src 0,src 1,src 2,src 3,src 4] 25 (0,0)):=fun o=>(Below.heap_alloc w4 o w.heap.size (by omega)).trans ((hb4.block w.heap.size (by omega)).trans p3);have x4: ∀o j,(w4.alloc o).cell? ⟨w.heap.size,j,none⟩=(#[.int .u64 h.base,.int .i64 h.cap,.int .i64 h.to,.bool h.cycle,.int .i64 h.scan,src 0,src 1,src 2,src 3,src 4]:Array Value)[j]? :=fun o j=>cell_of_row _ _ _ _ _ _ (p4 o);have hb04: ∀o,Below w.heap.size w (w4.alloc o):=fun o=>((HB02.out.trans (HB3.out.mono (by omega))).trans (hb4.mono (by omega))).alloc (by omega) o;have m4: ∀o,(w4.alloc o).heap[w1.heap.size]? =some (.cells #[.int .u64 (layH h).base,.int .i64 (layH h).cap,.int .i64 (layH h).to,.int .i64 (layH h).low,.int .i64 (layH h).high,.int .i64 (layH h).old,.int .i64 (layH h).far] 53 (0,0)):=fun o=>(Below.heap_alloc w4 o w1.heap.size (by omega)).trans ((hb4.block w1.heap.size (by omega)).trans m3);have k4:=heap_alloc_new w4 (.cells #[.int .i64 3,.int .i64 (at_:Nat)] 91);have HB04:=Lib.hid hb04;clear hb4 hb04 z3 p3 m3 l3 z2 p2 x2 m2))
  | (go_at_call 48;go_loud (refine(Yk _ G (fun b hb=>by have:=hG b hb;simp;omega) h HH.out src (fun j hj=>(HS.out j hj).keep (fun b hb=>(HB04.out _).block b (hG b hb)) (fun _ h=>h))).mono ?_;rintro e w5 ⟨x,rfl,hb5,ho5⟩;obtain⟨a0,q0,e0⟩:=Z1 (ho5.own 0 (by omega));obtain⟨a1,q1,e1⟩:=Z1 (ho5.own 1 (by omega));obtain⟨a2,q2,e2⟩:=Z1 (ho5.own 2 (by omega));obtain⟨a3,q3,e3⟩:=Z1 (ho5.own 3 (by omega));obtain⟨a4,q4,e4⟩:=Z1 (ho5.own 4 (by omega));obtain⟨g,hg⟩:=YF (ho5.own 2 (by omega)) e2 (by omega);subst hg;unfold hpA;rw[e0,e1,e2,e3,e4];have hs5:=hb5.size;simp at hs5;have hsz4: ∀o,(w4.alloc o).heap.size=w4.heap.size+1:=fun o=>(by simp);rw[hsz4]at ho5;have hN:=ZW ho5 (by omega);unfold Uo at hN;rw[e0,e1,e2,e3,e4]at hN;have hb05: ∀o,Below w.heap.size w (w5.alloc o):=fun o=>((HB04.out _).trans (hb5.mono (by simp;omega))).alloc (by omega) o;have z6: ∀o,(w5.alloc o).heap[w.heap.size+1]? =some (.cells Z5 25 (0,0)):=fun o=>(Below.heap_alloc w5 o (w.heap.size+1) (by omega)).trans ((hb5.block (w.heap.size+1) (by simp;omega)).trans (z4 _));have k6: ∀o,(w5.alloc o).heap[w4.heap.size]? =some (.cells #[.int .i64 3,.int .i64 (at_:Nat)] 91 (0,0)):=fun o=>(Below.heap_alloc w5 o w4.heap.size (by omega)).trans ((hb5.block w4.heap.size (by simp)).trans k4);have m6: ∀o,(w5.alloc o).heap[w1.heap.size]? =some (.cells #[.int .u64 (layH h).base,.int .i64 (layH h).cap,.int .i64 (layH h).to,.int .i64 (layH h).low,.int .i64 (layH h).high,.int .i64 (layH h).old,.int .i64 (layH h).far] 53 (0,0)):=fun o=>(Below.heap_alloc w5 o w1.heap.size (by omega)).trans ((hb5.block w1.heap.size (by simp;omega)).trans (m4 _));have k6c: ∀o j,(w5.alloc o).cell? ⟨w4.heap.size,j,none⟩=(#[.int .i64 3,.int .i64 (at_:Nat)]:Array Value)[j]? :=fun o j=>cell_of_row _ _ _ _ _ _ (k6 o);have m6c: ∀o j,(w5.alloc o).cell? ⟨w1.heap.size,j,none⟩=(#[.int .u64 (layH h).base,.int .i64 (layH h).cap,.int .i64 (layH h).to,.int .i64 (layH h).low,.int .i64 (layH h).high,.int .i64 (layH h).old,.int .i64 (layH h).far]:Array Value)[j]? :=fun o j=>cell_of_row _ _ _ _ _ _ (m6 o);have nb:=hN.blk;rw[e0,e1,e2,e3,e4]at nb;have n6c: ∀j,(w5.alloc (.cells #[.int .u64 h.base,.int .i64 h.cap,.int .i64 h.to,.bool h.cycle,.int .i64 h.scan,.slice a0 (lsH h 0).length q0,.slice a1 (lsH h 1).length q1,.slice (some ⟨g,0,none⟩) (lsH h 2).length q2,.slice a3 (lsH h 3).length q3,.slice a4 (lsH h 4).length q4] 113)).cell? ⟨w5.heap.size,j,none⟩=(#[.int .u64 h.base,.int .i64 h.cap,.int .i64 h.to,.bool h.cycle,.int .i64 h.scan,.slice a0 (lsH h 0).length q0,.slice a1 (lsH h 1).length q1,.slice (some ⟨g,0,none⟩) (lsH h 2).length q2,.slice a3 (lsH h 3).length q3,.slice a4 (lsH h 4).length q4]:Array Value)[j]? :=fun j=>cell_of_row _ _ _ _ _ _ nb;have y6: ∀o j,(w5.alloc o).cell? ⟨w.heap.size+1,j,none⟩=Z5[j]? :=fun o j=>cell_of_row _ _ _ _ _ _ (z6 o);have f6: ∀o j,(w5.alloc o).frozen? ⟨w.heap.size+1,j,none⟩=false:=fun o j=>Zb (z6 o);unfold Z5 at y6;have st6:FwSt w (w5.alloc (.cells #[.int .u64 h.base,.int .i64 h.cap,.int .i64 h.to,.bool h.cycle,.int .i64 h.scan,.slice a0 (lsH h 0).length q0,.slice a1 (lsH h 1).length q1,.slice (some ⟨g,0,none⟩) (lsH h 2).length q2,.slice a3 (lsH h 3).length q3,.slice a4 (lsH h 4).length q4] 113)) (w.heap.size+1) w1.heap.size w4.heap.size w5.heap.size (w4.heap.size+1) 3 (at_:Nat) h x:=⟨z6 _,m6 _,k6 _,hN,hb05 _,by omega,by omega,by omega,by omega,by simp;omega⟩;have ST6:=Lib.hid st6;have EP:=Lib.hid e2;clear st6;have HB05:=Lib.hid hb05;have HN:=Lib.hid hN;have E0:=Lib.hid e0;have E1:=Lib.hid e1;have E2:=Lib.hid e2;have E3:=Lib.hid e3;have E4:=Lib.hid e4;clear hb05 hN nb e0 e1 e2 e3 e4 ho5 hb5 z4 p4 x4 m4 k4)))
 obtain⟨sm,hsm⟩: ∃sm:Nat,sz+1=sm:=⟨_,rfl⟩
 have hwr:IntKind.i64.wrap ((sz:Int)+1)=(sm:Int):=by rw[Z2 ((sz:Int)+1) (by omega) (by omega)];omega
 have hrm2:Yo (layH h) < (sm:Int):=by omega
 have HSM:=Lib.hid hsm
 have HRM:=Lib.hid hrm
 have HLE:=Lib.hid hle
 clear hsm hrm hle
 have hbs:w9.heap.size< ((w9.alloc (.cells #[.int .i64 (sz:Nat),.int .i64 pt] 47))).heap.size:=by simp
 clear m7c m8c k10c k7c k8c y7 y8 f7 f8 n7c n8c c7 c8
 generalize (w9.alloc (.cells #[.int .i64 (sz:Nat),.int .i64 pt] 47))=w10 at*
 have S10:(fun w'=>w'.cell? ⟨w1.heap.size,0,none⟩=some (.int .u64 (layH h).base)∧w'.cell? ⟨w1.heap.size,1,none⟩=some (.int .i64 (layH h).cap)∧w'.cell? ⟨w1.heap.size,2,none⟩=some (.int .i64 (layH h).to)∧w'.cell? ⟨w1.heap.size,3,none⟩=some (.int .i64 (layH h).low)∧w'.cell? ⟨w1.heap.size,4,none⟩=some (.int .i64 (layH h).high)∧w'.cell? ⟨w1.heap.size,5,none⟩=some (.int .i64 (layH h).old)∧w'.cell? ⟨w1.heap.size,6,none⟩=some (.int .i64 (layH h).far)∧w'.cell? ⟨w9.heap.size,0,none⟩=some (.int .i64 (sz:Nat))∧FwSt w w' (w.heap.size+1) w1.heap.size w4.heap.size w5.heap.size (w4.heap.size+1) 3 (at_:Nat) h x∧w9.heap.size<w'.heap.size) w10.drew:=⟨m10c 0,m10c 1,m10c 2,m10c 3,m10c 4,m10c 5,m10c 6,s10c 0,ST10.out.drew,hbs⟩
 have SBel: ∀(u u':World),(fun w'=>w'.cell? ⟨w1.heap.size,0,none⟩=some (.int .u64 (layH h).base)∧w'.cell? ⟨w1.heap.size,1,none⟩=some (.int .i64 (layH h).cap)∧w'.cell? ⟨w1.heap.size,2,none⟩=some (.int .i64 (layH h).to)∧w'.cell? ⟨w1.heap.size,3,none⟩=some (.int .i64 (layH h).low)∧w'.cell? ⟨w1.heap.size,4,none⟩=some (.int .i64 (layH h).high)∧w'.cell? ⟨w1.heap.size,5,none⟩=some (.int .i64 (layH h).old)∧w'.cell? ⟨w1.heap.size,6,none⟩=some (.int .i64 (layH h).far)∧w'.cell? ⟨w9.heap.size,0,none⟩=some (.int .i64 (sz:Nat))∧FwSt w w' (w.heap.size+1) w1.heap.size w4.heap.size w5.heap.size (w4.heap.size+1) 3 (at_:Nat) h x∧w9.heap.size<w'.heap.size) u→Below u.heap.size u u'→(fun w'=>w'.cell? ⟨w1.heap.size,0,none⟩=some (.int .u64 (layH h).base)∧w'.cell? ⟨w1.heap.size,1,none⟩=some (.int .i64 (layH h).cap)∧w'.cell? ⟨w1.heap.size,2,none⟩=some (.int .i64 (layH h).to)∧w'.cell? ⟨w1.heap.size,3,none⟩=some (.int .i64 (layH h).low)∧w'.cell? ⟨w1.heap.size,4,none⟩=some (.int .i64 (layH h).high)∧w'.cell? ⟨w1.heap.size,5,none⟩=some (.int .i64 (layH h).old)∧w'.cell? ⟨w1.heap.size,6,none⟩=some (.int .i64 (layH h).far)∧w'.cell? ⟨w9.heap.size,0,none⟩=some (.int .i64 (sz:Nat))∧FwSt w w' (w.heap.size+1) w1.heap.size w4.heap.size w5.heap.size (w4.heap.size+1) 3 (at_:Nat) h x∧w9.heap.size<w'.heap.size) u':=by
  rintro u u' ⟨c0,c1,c2,c3,c4,c5,c6,c7,st,hs⟩ hb
  have hl:=st.lbB
  have hz:=st.sz
  exact⟨(hb.cell (by show w1.heap.size<u.heap.size;omega)).trans c0,(hb.cell (by show w1.heap.size<u.heap.size;omega)).trans c1,(hb.cell (by show w1.heap.size<u.heap.size;omega)).trans c2,(hb.cell (by show w1.heap.size<u.heap.size;omega)).trans c3,(hb.cell (by show w1.heap.size<u.heap.size;omega)).trans c4,(hb.cell (by show w1.heap.size<u.heap.size;omega)).trans c5,(hb.cell (by show w1.heap.size<u.heap.size;omega)).trans c6,(hb.cell hs).trans c7,st.below hb,by have:=hb.size;omega⟩
 go_region_held3 (fun w'=>w'.cell? ⟨w1.heap.size,0,none⟩=some (.int .u64 (layH h).base)∧w'.cell? ⟨w1.heap.size,1,none⟩=some (.int .i64 (layH h).cap)∧w'.cell? ⟨w1.heap.size,2,none⟩=some (.int .i64 (layH h).to)∧w'.cell? ⟨w1.heap.size,3,none⟩=some (.int .i64 (layH h).low)∧w'.cell? ⟨w1.heap.size,4,none⟩=some (.int .i64 (layH h).high)∧w'.cell? ⟨w1.heap.size,5,none⟩=some (.int .i64 (layH h).old)∧w'.cell? ⟨w1.heap.size,6,none⟩=some (.int .i64 (layH h).far)∧w'.cell? ⟨w9.heap.size,0,none⟩=some (.int .i64 (sz:Nat))∧FwSt w w' (w.heap.size+1) w1.heap.size w4.heap.size w5.heap.size (w4.heap.size+1) 3 (at_:Nat) h x∧w9.heap.size<w'.heap.size) (first|exact S10|assumption)
  (first| (go_at_call 24;refine(Wk HH.out.lay _).mono ?_;rintro e w11 ⟨rfl,hb11⟩;have S11:=SBel _ _ S10 hb11))
 obtain⟨-,-,-,-,-,-,-,c11,st11,hs11⟩:=S11
 clear S10 SBel s10c y10 f10 n10c m10c hb11 hbs
 rename_i hHeld
 clear hHeld
 have res11:=st11.res
 have y11: ∀j,(w11).cell? ⟨w.heap.size+1,j,none⟩=Z5[j]? :=fun j=>cell_of_row _ _ _ _ _ _ res11
 unfold Z5 at y11
 have f11: ∀j,(w11).frozen? ⟨w.heap.size+1,j,none⟩=false:=fun j=>Zb res11
 have nb11:=st11.now.blk
 rw[E0.out,E1.out,E2.out,E3.out,E4.out]at nb11
 have n11c: ∀j,(w11).cell? ⟨w5.heap.size,j,none⟩=(#[.int .u64 h.base,.int .i64 h.cap,.int .i64 h.to,.bool h.cycle,.int .i64 h.scan,.slice a0 (lsH h 0).length q0,.slice a1 (lsH h 1).length q1,.slice (some ⟨g,0,none⟩) (lsH h 2).length q2,.slice a3 (lsH h 3).length q3,.slice a4 (lsH h 4).length q4]:Array Value)[j]? :=fun j=>cell_of_row _ _ _ _ _ _ nb11
 have k11c: ∀j,(w11).cell? ⟨w4.heap.size,j,none⟩=(#[.int .i64 3,.int .i64 (at_:Nat)]:Array Value)[j]? :=fun j=>cell_of_row _ _ _ _ _ _ st11.plc
 have m11c: ∀j,(w11).cell? ⟨w1.heap.size,j,none⟩=(#[.int .u64 (layH h).base,.int .i64 (layH h).cap,.int .i64 (layH h).to,.int .i64 (layH h).low,.int .i64 (layH h).high,.int .i64 (layH h).old,.int .i64 (layH h).far]:Array Value)[j]? :=fun j=>cell_of_row _ _ _ _ _ _ st11.lay
 have hop11:=st11.now.own.own 2 (by omega)
 rw[EP.out]at hop11
 have cw11:=Zi hop11 hwd
 clear nb11 hop11 hm hqm hat2
 have ST11:=Lib.hid st11
 clear st11
 go_wp2
 have hrmz:Yo (layH h) < (sz:Int)+1:=by have:=HSM.out;omega
 have hpH:h.old.getD at_ 0=wd:=by show(lsH h 2).getD at_ 0=wd;simp[List.getD,hwd]
 have hpL:h.old.length=(lsH h 2).length:=rfl
 have hfw:fwd h v=(0,Hp.zero,7):=by simp[fwd,fwdC,hr,hv0,h1,hf,-List.getD_eq_getElem?_getD,hpH,hpL,hgo,hun,her,Nat.not_lt.2 HLE.out,hrmz]
 have y:=Zv ST11.out.res (.int .u64 0) (.int .i64 0) (.int .i64 0) (.bool false) (.int .i64 0) (.slice none 0 0) (.slice none 0 0) (.slice none 0 0) (.slice none 0 0) (.slice none 0 0)
 rw[hfw]
 refine bodyPost_ret (v:= .tuple #[.int .u64 0,.agg Z5,.int .i64 7]) ?_ rfl ?_
 ·simp[results,Try.results39,go_sem,y,Z5]
 ·refine⟨fun _=> .slice none 0 0,?_,?_,X9 _ _⟩
  ·simp[hpA,Hp.zero,Z5]
  ·exact Zr ST11.out.bel (by omega) _ _ _ _ _ _ _ _ _ _
theorem Sx(w:World)(G:Nat→Prop)(hG: ∀b,G b→b<w.heap.size)(h:Hp)(hh:h.ok)(src:Nat→Value)(hs: ∀j,j<5→Rd w G (.sl ((lsH h j).map vu)) (src j))(v:Int)(hv:U64 v)
  (hr:Za (layH h)=true) (hv0: ¬v=0) (h1:(adr v).2=0) (part:Int) (at_:Nat) (hf:ZB (layH h) (adr v).1=(part,(at_:Int),0)) (hp:part=3)
  (wd:Int) (hwd:(lsH h 2)[at_]? =some wd) (hat:at_< (lsH h 2).length) (hwu:U64 wd) (hgo: ¬(adr wd).2=0) (sz:Nat) (pt er:Int) (hun:unpk wd=((sz:Int),pt,er)) (hsz:sz≤255) (her:er=0) (hle:at_+(sz+1)≤(lsH h 2).length) (hrm: ¬Yo (layH h) < ((sz+1:Nat):Int)):
  Calls Try.prog 39 #[hpA h src,.int .u64 v] w (Yu w (fwd h v)):=by
 have HS:=Lib.hid hs
 have HH:=Lib.hid hh
 clear hs hh
 unfold hpA
 go_enter Try.func39,Try.ntmps39
 subst hp
 go_wp2_with (first
  | (go_at_call 61;go_loud (refine(Yr _ (w4.heap.size+1) w5.heap.size h x ST6.out.now HH.out 2 at_ (by omega) g q2 EP.out (by omega)).mono ?_;rintro e w7 ⟨rfl,hb7⟩;obtain⟨m,hm⟩: ∃m,(lsH h 2).length-at_=m:=⟨_,rfl⟩;obtain⟨qm,hqm⟩: ∃qm,q2-at_=qm:=⟨_,rfl⟩;rw[hm,hqm];have hm0:0<m:=(by omega);have hm0i:(0:Int) < (m:Int):=(by omega);have hat2:at_+0=at_:=rfl;have st7:=ST6.out.below hb7;have hs7:=hb7.size;simp at hs7;have res7:=st7.res;have y7: ∀j,(w7).cell? ⟨w.heap.size+1,j,none⟩=Z5[j]? :=fun j=>cell_of_row _ _ _ _ _ _ res7;unfold Z5 at y7;have f7: ∀j,(w7).frozen? ⟨w.heap.size+1,j,none⟩=false:=fun j=>Zb res7;have nb7:=st7.now.blk;rw[E0.out,E1.out,E2.out,E3.out,E4.out]at nb7;have n7c: ∀j,(w7).cell? ⟨w5.heap.size,j,none⟩=(#[.int .u64 h.base,.int .i64 h.cap,.int .i64 h.to,.bool h.cycle,.int .i64 h.scan,.slice a0 (lsH h 0).length q0,.slice a1 (lsH h 1).length q1,.slice (some ⟨g,0,none⟩) (lsH h 2).length q2,.slice a3 (lsH h 3).length q3,.slice a4 (lsH h 4).length q4]:Array Value)[j]? :=fun j=>cell_of_row _ _ _ _ _ _ nb7;have k7c: ∀j,(w7).cell? ⟨w4.heap.size,j,none⟩=(#[.int .i64 3,.int .i64 (at_:Nat)]:Array Value)[j]? :=fun j=>cell_of_row _ _ _ _ _ _ st7.plc;have m7c: ∀j,(w7).cell? ⟨w1.heap.size,j,none⟩=(#[.int .u64 (layH h).base,.int .i64 (layH h).cap,.int .i64 (layH h).to,.int .i64 (layH h).low,.int .i64 (layH h).high,.int .i64 (layH h).old,.int .i64 (layH h).far]:Array Value)[j]? :=fun j=>cell_of_row _ _ _ _ _ _ st7.lay;have hop7:=st7.now.own.own 2 (by omega);rw[EP.out]at hop7;have c7:=Zi hop7 hwd;clear nb7 hop7;have ST7:=Lib.hid st7;clear hb7 st7))
  | (go_at_call 59;go_loud (have st7:=ST7.out;refine(Zh hwu _).mono ?_;rintro e w8 ⟨rfl,hb8⟩;have st8:=st7.below hb8;have hs8:=hb8.size;have res8:=st8.res;have y8: ∀j,(w8).cell? ⟨w.heap.size+1,j,none⟩=Z5[j]? :=fun j=>cell_of_row _ _ _ _ _ _ res8;unfold Z5 at y8;have f8: ∀j,(w8).frozen? ⟨w.heap.size+1,j,none⟩=false:=fun j=>Zb res8;have nb8:=st8.now.blk;rw[E0.out,E1.out,E2.out,E3.out,E4.out]at nb8;have n8c: ∀j,(w8).cell? ⟨w5.heap.size,j,none⟩=(#[.int .u64 h.base,.int .i64 h.cap,.int .i64 h.to,.bool h.cycle,.int .i64 h.scan,.slice a0 (lsH h 0).length q0,.slice a1 (lsH h 1).length q1,.slice (some ⟨g,0,none⟩) (lsH h 2).length q2,.slice a3 (lsH h 3).length q3,.slice a4 (lsH h 4).length q4]:Array Value)[j]? :=fun j=>cell_of_row _ _ _ _ _ _ nb8;have k8c: ∀j,(w8).cell? ⟨w4.heap.size,j,none⟩=(#[.int .i64 3,.int .i64 (at_:Nat)]:Array Value)[j]? :=fun j=>cell_of_row _ _ _ _ _ _ st8.plc;have m8c: ∀j,(w8).cell? ⟨w1.heap.size,j,none⟩=(#[.int .u64 (layH h).base,.int .i64 (layH h).cap,.int .i64 (layH h).to,.int .i64 (layH h).low,.int .i64 (layH h).high,.int .i64 (layH h).old,.int .i64 (layH h).far]:Array Value)[j]? :=fun j=>cell_of_row _ _ _ _ _ _ st8.lay;have hop8:=st8.now.own.own 2 (by omega);rw[EP.out]at hop8;have c8:=Zi hop8 hwd;clear nb8 hop8;have ST8:=Lib.hid st8;clear hb8 st8 st7))
  | (go_at_call 62;go_loud (refine(ZG hwu _).mono ?_;rintro e w9 ⟨rfl,hb9⟩;rw[hun];dsimp only;have hs9:=hb9.size;have st10:FwSt w (w9.alloc (.cells #[.int .i64 (sz:Nat),.int .i64 pt] 47)) _ _ _ _ _ _ _ h x:=(ST8.out.below hb9).below ((Below.refl _ _).alloc (Nat.le_refl _) _);have res10:=st10.res;have y10: ∀j,((w9.alloc (.cells #[.int .i64 (sz:Nat),.int .i64 pt] 47))).cell? ⟨w.heap.size+1,j,none⟩=Z5[j]? :=fun j=>cell_of_row _ _ _ _ _ _ res10;unfold Z5 at y10;have f10: ∀j,((w9.alloc (.cells #[.int .i64 (sz:Nat),.int .i64 pt] 47))).frozen? ⟨w.heap.size+1,j,none⟩=false:=fun j=>Zb res10;have nb10:=st10.now.blk;rw[E0.out,E1.out,E2.out,E3.out,E4.out]at nb10;have n10c: ∀j,((w9.alloc (.cells #[.int .i64 (sz:Nat),.int .i64 pt] 47))).cell? ⟨w5.heap.size,j,none⟩=(#[.int .u64 h.base,.int .i64 h.cap,.int .i64 h.to,.bool h.cycle,.int .i64 h.scan,.slice a0 (lsH h 0).length q0,.slice a1 (lsH h 1).length q1,.slice (some ⟨g,0,none⟩) (lsH h 2).length q2,.slice a3 (lsH h 3).length q3,.slice a4 (lsH h 4).length q4]:Array Value)[j]? :=fun j=>cell_of_row _ _ _ _ _ _ nb10;have k10c: ∀j,((w9.alloc (.cells #[.int .i64 (sz:Nat),.int .i64 pt] 47))).cell? ⟨w4.heap.size,j,none⟩=(#[.int .i64 3,.int .i64 (at_:Nat)]:Array Value)[j]? :=fun j=>cell_of_row _ _ _ _ _ _ st10.plc;have m10c: ∀j,((w9.alloc (.cells #[.int .i64 (sz:Nat),.int .i64 pt] 47))).cell? ⟨w1.heap.size,j,none⟩=(#[.int .u64 (layH h).base,.int .i64 (layH h).cap,.int .i64 (layH h).to,.int .i64 (layH h).low,.int .i64 (layH h).high,.int .i64 (layH h).old,.int .i64 (layH h).far]:Array Value)[j]? :=fun j=>cell_of_row _ _ _ _ _ _ st10.lay;have hop10:=st10.now.own.own 2 (by omega);rw[EP.out]at hop10;have c10:=Zi hop10 hwd;clear nb10 hop10;have s10c: ∀j,(w9.alloc (.cells #[.int .i64 (sz:Nat),.int .i64 pt] 47)).cell? ⟨w9.heap.size,j,none⟩=(#[.int .i64 (sz:Nat),.int .i64 pt]:Array Value)[j]? :=fun j=>cell_of_row _ _ _ _ _ _ (heap_alloc_new w9 _);have ST10:=Lib.hid st10;have hml:m≤1000000:=(by have:=YJ HH.out 2;omega);have hl10:at_+m=(lsH h 2).length:=(by omega);clear hb9 st10))
  | (go_at_call 51;go_loud (refine(Zm (h:=h) (x:=src) (G:=G) (fun c hc=>by have:=hG c hc;simp;omega) (fun j hj=>(HS.out j hj).keep (fun b hb=>by have:=hG b hb;rw[Below.heap_alloc _ _ _ (by simp;omega),Below.heap_alloc _ _ _ (by omega)]) (fun _ h=>h))).mono ?_;rintro e w1 ⟨rfl,hb1⟩;unfold lyA;have z1:=(hb1.block (w.heap.size+1) (by simp)).trans (Y2 w _);have p1:=(hb1.block w.heap.size (by simp;omega)).trans ((Below.heap_alloc (w.alloc (.cells #[.int .u64 h.base,.int .i64 h.cap,.int .i64 h.to,.bool h.cycle,.int .i64 h.scan,src 0,src 1,src 2,src 3,src 4] 25)) _ w.heap.size (by simp)).trans (heap_alloc_new w _));have hs1:=hb1.size;simp at hs1;have HB1:=Lib.hid hb1;clear hb1))
  | (go_at_call 43;go_loud (refine(Zq HH.out.lay _).mono ?_;rintro e w2 ⟨rfl,hb2⟩;rw[hr];have z2:=(hb2.block (w.heap.size+1) (by simp;omega)).trans ((Below.heap_alloc w1 _ (w.heap.size+1) (by omega)).trans z1);have p2:=(hb2.block w.heap.size (by simp;omega)).trans ((Below.heap_alloc w1 _ w.heap.size (by omega)).trans p1);have x2: ∀j,w2.cell? ⟨w.heap.size,j,none⟩=(#[.int .u64 h.base,.int .i64 h.cap,.int .i64 h.to,.bool h.cycle,.int .i64 h.scan,src 0,src 1,src 2,src 3,src 4]:Array Value)[j]? :=fun j=>cell_of_row _ _ _ _ _ _ p2;have hb02:Below w.heap.size w w2:=((((((Below.refl _ _).alloc (Nat.le_refl _) _).alloc (by simp) _).trans (HB1.out.mono (by simp;omega))).alloc (by omega) _).trans (hb2.mono (by simp;omega)));have hs2:=hb2.size;simp at hs2;have m2:=(hb2.block w1.heap.size (by simp)).trans (heap_alloc_new w1 _);have HB02:=Lib.hid hb02;clear hb2 hb02))
  | (go_at_call 59;go_loud (refine(Zh hv _).mono ?_;rintro e w3 ⟨rfl,hb3⟩;have z3:=(hb3.block (w.heap.size+1) (by omega)).trans z2;have p3:=(hb3.block w.heap.size (by omega)).trans p2;have m3:=(hb3.block w1.heap.size (by omega)).trans m2;have l3: ∀j,w3.cell? ⟨w1.heap.size,j,none⟩=(#[.int .u64 (layH h).base,.int .i64 (layH h).cap,.int .i64 (layH h).to,.int .i64 (layH h).low,.int .i64 (layH h).high,.int .i64 (layH h).old,.int .i64 (layH h).far]:Array Value)[j]? :=fun j=>cell_of_row _ _ _ _ _ _ m3;have hs3:=hb3.size;have HB3:=Lib.hid hb3;clear hb3))
  | (go_at_call 60;go_loud (refine(ZH HH.out.lay (Uc hv) _).mono ?_;rintro e w4 ⟨rfl,hb4⟩;rw[hf];dsimp only;have hs4:=hb4.size;have z4: ∀o,(w4.alloc o).heap[w.heap.size+1]? =some (.cells Z5 25 (0,0)):=fun o=>(Below.heap_alloc w4 o (w.heap.size+1) (by omega)).trans ((hb4.block (w.heap.size+1) (by omega)).trans z3);have p4: ∀o,(w4.alloc o).heap[w.heap.size]? =some (.cells #[.int .u64 h.base,.int .i64 h.cap,.int .i64 h.to,.bool h.cycle,.int .i64 h.scan,src 0,src 1,src 2,src 3,src 4] 25 (0,0)):=fun o=>(Below.heap_alloc w4 o w.heap.size (by omega)).trans ((hb4.block w.heap.size (by omega)).trans p3);have x4: ∀o j,(w4.alloc o).cell? ⟨w.heap.size,j,none⟩=(#[.int .u64 h.base,.int .i64 h.cap,.int .i64 h.to,.bool h.cycle,.int .i64 h.scan,src 0,src 1,src 2,src 3,src 4]:Array Value)[j]? :=fun o j=>cell_of_row _ _ _ _ _ _ (p4 o);have hb04: ∀o,Below w.heap.size w (w4.alloc o):=fun o=>((HB02.out.trans (HB3.out.mono (by omega))).trans (hb4.mono (by omega))).alloc (by omega) o;have m4: ∀o,(w4.alloc o).heap[w1.heap.size]? =some (.cells #[.int .u64 (layH h).base,.int .i64 (layH h).cap,.int .i64 (layH h).to,.int .i64 (layH h).low,.int .i64 (layH h).high,.int .i64 (layH h).old,.int .i64 (layH h).far] 53 (0,0)):=fun o=>(Below.heap_alloc w4 o w1.heap.size (by omega)).trans ((hb4.block w1.heap.size (by omega)).trans m3);have k4:=heap_alloc_new w4 (.cells #[.int .i64 3,.int .i64 (at_:Nat)] 91);have HB04:=Lib.hid hb04;clear hb4 hb04 z3 p3 m3 l3 z2 p2 x2 m2))
  | (go_at_call 48;go_loud (refine(Yk _ G (fun b hb=>by have:=hG b hb;simp;omega) h HH.out src (fun j hj=>(HS.out j hj).keep (fun b hb=>(HB04.out _).block b (hG b hb)) (fun _ h=>h))).mono ?_;rintro e w5 ⟨x,rfl,hb5,ho5⟩;obtain⟨a0,q0,e0⟩:=Z1 (ho5.own 0 (by omega));obtain⟨a1,q1,e1⟩:=Z1 (ho5.own 1 (by omega));obtain⟨a2,q2,e2⟩:=Z1 (ho5.own 2 (by omega));obtain⟨a3,q3,e3⟩:=Z1 (ho5.own 3 (by omega));obtain⟨a4,q4,e4⟩:=Z1 (ho5.own 4 (by omega));obtain⟨g,hg⟩:=YF (ho5.own 2 (by omega)) e2 (by omega);subst hg;unfold hpA;rw[e0,e1,e2,e3,e4];have hs5:=hb5.size;simp at hs5;have hsz4: ∀o,(w4.alloc o).heap.size=w4.heap.size+1:=fun o=>(by simp);rw[hsz4]at ho5;have hN:=ZW ho5 (by omega);unfold Uo at hN;rw[e0,e1,e2,e3,e4]at hN;have hb05: ∀o,Below w.heap.size w (w5.alloc o):=fun o=>((HB04.out _).trans (hb5.mono (by simp;omega))).alloc (by omega) o;have z6: ∀o,(w5.alloc o).heap[w.heap.size+1]? =some (.cells Z5 25 (0,0)):=fun o=>(Below.heap_alloc w5 o (w.heap.size+1) (by omega)).trans ((hb5.block (w.heap.size+1) (by simp;omega)).trans (z4 _));have k6: ∀o,(w5.alloc o).heap[w4.heap.size]? =some (.cells #[.int .i64 3,.int .i64 (at_:Nat)] 91 (0,0)):=fun o=>(Below.heap_alloc w5 o w4.heap.size (by omega)).trans ((hb5.block w4.heap.size (by simp)).trans k4);have m6: ∀o,(w5.alloc o).heap[w1.heap.size]? =some (.cells #[.int .u64 (layH h).base,.int .i64 (layH h).cap,.int .i64 (layH h).to,.int .i64 (layH h).low,.int .i64 (layH h).high,.int .i64 (layH h).old,.int .i64 (layH h).far] 53 (0,0)):=fun o=>(Below.heap_alloc w5 o w1.heap.size (by omega)).trans ((hb5.block w1.heap.size (by simp;omega)).trans (m4 _));have k6c: ∀o j,(w5.alloc o).cell? ⟨w4.heap.size,j,none⟩=(#[.int .i64 3,.int .i64 (at_:Nat)]:Array Value)[j]? :=fun o j=>cell_of_row _ _ _ _ _ _ (k6 o);have m6c: ∀o j,(w5.alloc o).cell? ⟨w1.heap.size,j,none⟩=(#[.int .u64 (layH h).base,.int .i64 (layH h).cap,.int .i64 (layH h).to,.int .i64 (layH h).low,.int .i64 (layH h).high,.int .i64 (layH h).old,.int .i64 (layH h).far]:Array Value)[j]? :=fun o j=>cell_of_row _ _ _ _ _ _ (m6 o);have nb:=hN.blk;rw[e0,e1,e2,e3,e4]at nb;have n6c: ∀j,(w5.alloc (.cells #[.int .u64 h.base,.int .i64 h.cap,.int .i64 h.to,.bool h.cycle,.int .i64 h.scan,.slice a0 (lsH h 0).length q0,.slice a1 (lsH h 1).length q1,.slice (some ⟨g,0,none⟩) (lsH h 2).length q2,.slice a3 (lsH h 3).length q3,.slice a4 (lsH h 4).length q4] 113)).cell? ⟨w5.heap.size,j,none⟩=(#[.int .u64 h.base,.int .i64 h.cap,.int .i64 h.to,.bool h.cycle,.int .i64 h.scan,.slice a0 (lsH h 0).length q0,.slice a1 (lsH h 1).length q1,.slice (some ⟨g,0,none⟩) (lsH h 2).length q2,.slice a3 (lsH h 3).length q3,.slice a4 (lsH h 4).length q4]:Array Value)[j]? :=fun j=>cell_of_row _ _ _ _ _ _ nb;have y6: ∀o j,(w5.alloc o).cell? ⟨w.heap.size+1,j,none⟩=Z5[j]? :=fun o j=>cell_of_row _ _ _ _ _ _ (z6 o);have f6: ∀o j,(w5.alloc o).frozen? ⟨w.heap.size+1,j,none⟩=false:=fun o j=>Zb (z6 o);unfold Z5 at y6;have st6:FwSt w (w5.alloc (.cells #[.int .u64 h.base,.int .i64 h.cap,.int .i64 h.to,.bool h.cycle,.int .i64 h.scan,.slice a0 (lsH h 0).length q0,.slice a1 (lsH h 1).length q1,.slice (some ⟨g,0,none⟩) (lsH h 2).length q2,.slice a3 (lsH h 3).length q3,.slice a4 (lsH h 4).length q4] 113)) (w.heap.size+1) w1.heap.size w4.heap.size w5.heap.size (w4.heap.size+1) 3 (at_:Nat) h x:=⟨z6 _,m6 _,k6 _,hN,hb05 _,by omega,by omega,by omega,by omega,by simp;omega⟩;have ST6:=Lib.hid st6;have EP:=Lib.hid e2;clear st6;have HB05:=Lib.hid hb05;have HN:=Lib.hid hN;have E0:=Lib.hid e0;have E1:=Lib.hid e1;have E2:=Lib.hid e2;have E3:=Lib.hid e3;have E4:=Lib.hid e4;clear hb05 hN nb e0 e1 e2 e3 e4 ho5 hb5 z4 p4 x4 m4 k4)))
 obtain⟨sm,hsm⟩: ∃sm:Nat,sz+1=sm:=⟨_,rfl⟩
 have hwr:IntKind.i64.wrap ((sz:Int)+1)=(sm:Int):=by rw[Z2 ((sz:Int)+1) (by omega) (by omega)];omega
 have hrm2: ¬(Yo (layH h) < (sm:Int)):=by omega
 have hopc:=ST10.out.now.own.own 2 (by omega)
 rw[EP.out]at hopc
 have hcap:=qF hopc (by omega)
 have hsm1:(sm:Int)≤(qm:Int):=by omega
 have hsm0:(0:Int)≤(sm:Int):=by omega
 clear hopc
 have HSM:=Lib.hid hsm
 have HRM:=Lib.hid hrm
 have HLE:=Lib.hid hle
 clear hsm hrm hle
 have hbs:w9.heap.size< ((w9.alloc (.cells #[.int .i64 (sz:Nat),.int .i64 pt] 47))).heap.size:=by simp
 clear m7c m8c k10c k7c k8c y7 y8 f7 f8 n7c n8c c7 c8
 generalize (w9.alloc (.cells #[.int .i64 (sz:Nat),.int .i64 pt] 47))=w10 at*
 have S10:(fun w'=>w'.cell? ⟨w1.heap.size,0,none⟩=some (.int .u64 (layH h).base)∧w'.cell? ⟨w1.heap.size,1,none⟩=some (.int .i64 (layH h).cap)∧w'.cell? ⟨w1.heap.size,2,none⟩=some (.int .i64 (layH h).to)∧w'.cell? ⟨w1.heap.size,3,none⟩=some (.int .i64 (layH h).low)∧w'.cell? ⟨w1.heap.size,4,none⟩=some (.int .i64 (layH h).high)∧w'.cell? ⟨w1.heap.size,5,none⟩=some (.int .i64 (layH h).old)∧w'.cell? ⟨w1.heap.size,6,none⟩=some (.int .i64 (layH h).far)∧w'.cell? ⟨w9.heap.size,0,none⟩=some (.int .i64 (sz:Nat))∧FwSt w w' (w.heap.size+1) w1.heap.size w4.heap.size w5.heap.size (w4.heap.size+1) 3 (at_:Nat) h x∧w9.heap.size<w'.heap.size) w10.drew:=⟨m10c 0,m10c 1,m10c 2,m10c 3,m10c 4,m10c 5,m10c 6,s10c 0,ST10.out.drew,hbs⟩
 have SBel: ∀(u u':World),(fun w'=>w'.cell? ⟨w1.heap.size,0,none⟩=some (.int .u64 (layH h).base)∧w'.cell? ⟨w1.heap.size,1,none⟩=some (.int .i64 (layH h).cap)∧w'.cell? ⟨w1.heap.size,2,none⟩=some (.int .i64 (layH h).to)∧w'.cell? ⟨w1.heap.size,3,none⟩=some (.int .i64 (layH h).low)∧w'.cell? ⟨w1.heap.size,4,none⟩=some (.int .i64 (layH h).high)∧w'.cell? ⟨w1.heap.size,5,none⟩=some (.int .i64 (layH h).old)∧w'.cell? ⟨w1.heap.size,6,none⟩=some (.int .i64 (layH h).far)∧w'.cell? ⟨w9.heap.size,0,none⟩=some (.int .i64 (sz:Nat))∧FwSt w w' (w.heap.size+1) w1.heap.size w4.heap.size w5.heap.size (w4.heap.size+1) 3 (at_:Nat) h x∧w9.heap.size<w'.heap.size) u→Below u.heap.size u u'→(fun w'=>w'.cell? ⟨w1.heap.size,0,none⟩=some (.int .u64 (layH h).base)∧w'.cell? ⟨w1.heap.size,1,none⟩=some (.int .i64 (layH h).cap)∧w'.cell? ⟨w1.heap.size,2,none⟩=some (.int .i64 (layH h).to)∧w'.cell? ⟨w1.heap.size,3,none⟩=some (.int .i64 (layH h).low)∧w'.cell? ⟨w1.heap.size,4,none⟩=some (.int .i64 (layH h).high)∧w'.cell? ⟨w1.heap.size,5,none⟩=some (.int .i64 (layH h).old)∧w'.cell? ⟨w1.heap.size,6,none⟩=some (.int .i64 (layH h).far)∧w'.cell? ⟨w9.heap.size,0,none⟩=some (.int .i64 (sz:Nat))∧FwSt w w' (w.heap.size+1) w1.heap.size w4.heap.size w5.heap.size (w4.heap.size+1) 3 (at_:Nat) h x∧w9.heap.size<w'.heap.size) u':=by
  rintro u u' ⟨c0,c1,c2,c3,c4,c5,c6,c7,st,hs⟩ hb
  have hl:=st.lbB
  have hz:=st.sz
  exact⟨(hb.cell (by show w1.heap.size<u.heap.size;omega)).trans c0,(hb.cell (by show w1.heap.size<u.heap.size;omega)).trans c1,(hb.cell (by show w1.heap.size<u.heap.size;omega)).trans c2,(hb.cell (by show w1.heap.size<u.heap.size;omega)).trans c3,(hb.cell (by show w1.heap.size<u.heap.size;omega)).trans c4,(hb.cell (by show w1.heap.size<u.heap.size;omega)).trans c5,(hb.cell (by show w1.heap.size<u.heap.size;omega)).trans c6,(hb.cell hs).trans c7,st.below hb,by have:=hb.size;omega⟩
 go_region_held3 (fun w'=>w'.cell? ⟨w1.heap.size,0,none⟩=some (.int .u64 (layH h).base)∧w'.cell? ⟨w1.heap.size,1,none⟩=some (.int .i64 (layH h).cap)∧w'.cell? ⟨w1.heap.size,2,none⟩=some (.int .i64 (layH h).to)∧w'.cell? ⟨w1.heap.size,3,none⟩=some (.int .i64 (layH h).low)∧w'.cell? ⟨w1.heap.size,4,none⟩=some (.int .i64 (layH h).high)∧w'.cell? ⟨w1.heap.size,5,none⟩=some (.int .i64 (layH h).old)∧w'.cell? ⟨w1.heap.size,6,none⟩=some (.int .i64 (layH h).far)∧w'.cell? ⟨w9.heap.size,0,none⟩=some (.int .i64 (sz:Nat))∧FwSt w w' (w.heap.size+1) w1.heap.size w4.heap.size w5.heap.size (w4.heap.size+1) 3 (at_:Nat) h x∧w9.heap.size<w'.heap.size) (first|exact S10|assumption)
  (first| (go_at_call 24;refine(Wk HH.out.lay _).mono ?_;rintro e w11 ⟨rfl,hb11⟩;have S11:=SBel _ _ S10 hb11))
 obtain⟨-,-,-,-,-,-,-,c11,st11,hs11⟩:=S11
 clear S10 SBel s10c y10 f10 n10c m10c hb11 hbs
 rename_i hHeld
 clear hHeld
 have res11:=st11.res
 have y11: ∀j,(w11).cell? ⟨w.heap.size+1,j,none⟩=Z5[j]? :=fun j=>cell_of_row _ _ _ _ _ _ res11
 unfold Z5 at y11
 have f11: ∀j,(w11).frozen? ⟨w.heap.size+1,j,none⟩=false:=fun j=>Zb res11
 have nb11:=st11.now.blk
 rw[E0.out,E1.out,E2.out,E3.out,E4.out]at nb11
 have n11c: ∀j,(w11).cell? ⟨w5.heap.size,j,none⟩=(#[.int .u64 h.base,.int .i64 h.cap,.int .i64 h.to,.bool h.cycle,.int .i64 h.scan,.slice a0 (lsH h 0).length q0,.slice a1 (lsH h 1).length q1,.slice (some ⟨g,0,none⟩) (lsH h 2).length q2,.slice a3 (lsH h 3).length q3,.slice a4 (lsH h 4).length q4]:Array Value)[j]? :=fun j=>cell_of_row _ _ _ _ _ _ nb11
 have k11c: ∀j,(w11).cell? ⟨w4.heap.size,j,none⟩=(#[.int .i64 3,.int .i64 (at_:Nat)]:Array Value)[j]? :=fun j=>cell_of_row _ _ _ _ _ _ st11.plc
 have m11c: ∀j,(w11).cell? ⟨w1.heap.size,j,none⟩=(#[.int .u64 (layH h).base,.int .i64 (layH h).cap,.int .i64 (layH h).to,.int .i64 (layH h).low,.int .i64 (layH h).high,.int .i64 (layH h).old,.int .i64 (layH h).far]:Array Value)[j]? :=fun j=>cell_of_row _ _ _ _ _ _ st11.lay
 have hop11:=st11.now.own.own 2 (by omega)
 rw[EP.out]at hop11
 have cw11:=Zi hop11 hwd
 clear nb11 hop11 hm hqm hat2
 have ST11:=Lib.hid st11
 clear st11
 have hsm:=HSM.out
 have hrm:=HRM.out
 have hle:=HLE.out
 have hpH:h.old.getD at_ 0=wd:=by show(lsH h 2).getD at_ 0=wd;simp[List.getD,hwd]
 have hpL:h.old.length=(lsH h 2).length:=rfl
 have hrmz: ¬Yo (layH h) < (sz:Int)+1:=by omega
 have hfw:fwd h v=(toOf h 3 at_ sm,Yf (ZO h 3 at_ sm) 3 ((zr (lsH h 2) at_ sm).set at_ (toOf h 3 at_ sm)),0):=by
  subst hsm
  simp only[fwd,hr,hv0,h1,hf,if_false,if_true,Bool.true_eq_false,ne_eq,not_true_eq_false]
  simp[-List.getD_eq_getElem?_getD,hpH,hgo,hun,her,fwdC,hpL,Nat.not_lt.2 hle,hrmz]
  exact⟨rfl,rfl⟩
 have HC:=Lib.hid (R2 w11 (w4.heap.size+1) w5.heap.size h x ST11.out.now ST11.out.sz HH.out 2 at_ sm (by omega) (by omega) (by omega) (by omega) g q2 EP.out (by omega) qm)
 have HFW:=Lib.hid hfw
 clear hsm hrm hle hfw hpH hpL hrmz
 have HRES:=Lib.hid res11
 go_wp2_with (first| (go_at_call 63;go_loud (refine HC.out.mono ?_;rintro e w12 ⟨x',rfl,hb12,hN12⟩;have res12:=(hb12.block _ ST11.out.rbB).trans HRES.out;have hbel:=ST11.out.bel.trans (hb12.mono (by have:=ST11.out.old;have:=ST11.out.rbB;omega));obtain⟨b0,r0,g0⟩:=Z1 (hN12.own.own 0 (by omega));obtain⟨b1,r1,g1⟩:=Z1 (hN12.own.own 1 (by omega));obtain⟨b2,r2,g2⟩:=Z1 (hN12.own.own 2 (by omega));obtain⟨b3,r3,g3⟩:=Z1 (hN12.own.own 3 (by omega));obtain⟨b4,r4,g4⟩:=Z1 (hN12.own.own 4 (by omega));have nb12:=hN12.blk;have e1:fwd h v=(toOf h 3 at_ sm,_,0):=HFW.out;have e2:toOf h (((2:Nat):Int)+1) at_ sm=toOf h 3 at_ sm:=rfl;rw[e2]at hN12 nb12 g0 g1 g2 g3 g4;rw[e2];generalize hto:toOf h 3 at_ sm=to at*;have e3:Yf (ZO h (((2:Nat):Int)+1) at_ sm) (((2:Nat):Int)+1) ((zr (lsH h 2) at_ sm).set at_ to)=Yf (ZO h 3 at_ sm) 3 ((zr (lsH h 2) at_ sm).set at_ to):=rfl;rw[e3]at hN12 nb12 g0 g1 g2 g3 g4;generalize Yf (ZO h 3 at_ sm) 3 ((zr (lsH h 2) at_ sm).set at_ to)=h' at*;rw[g0,g1,g2,g3,g4]at nb12)))
 have y12: ∀j,w12.cell? ⟨w.heap.size+1,j,none⟩=Z5[j]? :=fun j=>cell_of_row _ _ _ _ _ _ res12
 unfold Z5 at y12
 have f12: ∀j,w12.frozen? ⟨w.heap.size+1,j,none⟩=false:=fun j=>Zb res12
 have n12c: ∀j,w12.cell? ⟨w5.heap.size,j,none⟩=(#[.int .u64 h'.base,.int .i64 h'.cap,.int .i64 h'.to,.bool h'.cycle,.int .i64 h'.scan,.slice b0 (lsH h' 0).length r0,.slice b1 (lsH h' 1).length r1,.slice b2 (lsH h' 2).length r2,.slice b3 (lsH h' 3).length r3,.slice b4 (lsH h' 4).length r4]:Array Value)[j]? :=fun j=>cell_of_row _ _ _ _ _ _ nb12
 have hs12:=hbel.size
 have hB12:w4.heap.size+1≤w12.heap.size:=by have:=hb12.size;have:=ST11.out.sz;omega
 have HN12:=Lib.hid hN12
 have HBEL:=Lib.hid hbel
 have RES12:=Lib.hid res12
 have G0:=Lib.hid g0
 have G1:=Lib.hid g1
 have G2:=Lib.hid g2
 have G3:=Lib.hid g3
 have G4:=Lib.hid g4
 clear nb12 hN12 hbel hb12 res12 g0 g1 g2 g3 g4 y11 f11 n11c k11c m11c
 go_region
 all_goals
  go_wp2
  try simp only[Exit.inBlock,Exit.then]
  have y:=Zv RES12.out (.int .u64 h'.base) (.int .i64 h'.cap) (.int .i64 h'.to) (.bool h'.cycle) (.int .i64 h'.scan) (.slice b0 (lsH h' 0).length r0) (.slice b1 (lsH h' 1).length r1) (.slice b2 (lsH h' 2).length r2) (.slice b3 (lsH h' 3).length r3) (.slice b4 (lsH h' 4).length r4)
  rw[HFW.out]
  refine bodyPost_ret (v:= .tuple #[.int .u64 to,hpA h' x',.int .i64 0]) ?_ rfl ?_
  ·unfold hpA;rw[G0.out,G1.out,G2.out,G3.out,G4.out];simp[results,Try.results39,go_sem,y]
  ·refine⟨x',rfl,?_,?_⟩
   ·exact(Zr HBEL.out (by omega) _ _ _ _ _ _ _ _ _ _).drew
   ·refine⟨fun j hj=> ?_,HN12.out.own.apart⟩
    have ho:=HN12.out.own.own j hj
    refine Sh (Zn ho ?_) ?_
    ·intro c hc
     have hc1:=(ho.lt c hc).1
     exact Yy (by omega) _ _ _ _ _ _ _ _ _ _
    ·intro c h1 h2
     exact⟨by omega,h2⟩
theorem RA(w:World)(G:Nat→Prop)(hG: ∀b,G b→b<w.heap.size)(h:Hp)(hh:h.ok)(src:Nat→Value)(hs: ∀j,j<5→Rd w G (.sl ((lsH h j).map vu)) (src j))(v:Int)(hv:U64 v)
  (hr:Za (layH h)=true) (hv0: ¬v=0) (h1:(adr v).2=0) (part:Int) (at_:Nat) (hf:ZB (layH h) (adr v).1=(part,(at_:Int),0)) (hp:part=4)
  (wd:Int) (hwd:(lsH h 3)[at_]? =some wd) (hat:at_< (lsH h 3).length) (hwu:U64 wd) (hgo: ¬(adr wd).2=0) (sz pt er:Int) (hun:unpk wd=(sz,pt,er)) (her: ¬er=0):
  Calls Try.prog 39 #[hpA h src,.int .u64 v] w (Yu w (fwd h v)):=by
 have HS:=Lib.hid hs
 have HH:=Lib.hid hh
 clear hs hh
 unfold hpA
 go_enter Try.func39,Try.ntmps39
 subst hp
 go_wp2_with (first
  | (go_at_call 61;go_loud (refine(Yr _ (w4.heap.size+1) w5.heap.size h x ST6.out.now HH.out 3 at_ (by omega) g q3 EP.out (by omega)).mono ?_;rintro e w7 ⟨rfl,hb7⟩;obtain⟨m,hm⟩: ∃m,(lsH h 3).length-at_=m:=⟨_,rfl⟩;obtain⟨qm,hqm⟩: ∃qm,q3-at_=qm:=⟨_,rfl⟩;rw[hm,hqm];have hm0:0<m:=(by omega);have hm0i:(0:Int) < (m:Int):=(by omega);have hat2:at_+0=at_:=rfl;have st7:=ST6.out.below hb7;have hs7:=hb7.size;simp at hs7;have res7:=st7.res;have y7: ∀j,(w7).cell? ⟨w.heap.size+1,j,none⟩=Z5[j]? :=fun j=>cell_of_row _ _ _ _ _ _ res7;unfold Z5 at y7;have f7: ∀j,(w7).frozen? ⟨w.heap.size+1,j,none⟩=false:=fun j=>Zb res7;have nb7:=st7.now.blk;rw[E0.out,E1.out,E2.out,E3.out,E4.out]at nb7;have n7c: ∀j,(w7).cell? ⟨w5.heap.size,j,none⟩=(#[.int .u64 h.base,.int .i64 h.cap,.int .i64 h.to,.bool h.cycle,.int .i64 h.scan,.slice a0 (lsH h 0).length q0,.slice a1 (lsH h 1).length q1,.slice a2 (lsH h 2).length q2,.slice (some ⟨g,0,none⟩) (lsH h 3).length q3,.slice a4 (lsH h 4).length q4]:Array Value)[j]? :=fun j=>cell_of_row _ _ _ _ _ _ nb7;have k7c: ∀j,(w7).cell? ⟨w4.heap.size,j,none⟩=(#[.int .i64 4,.int .i64 (at_:Nat)]:Array Value)[j]? :=fun j=>cell_of_row _ _ _ _ _ _ st7.plc;have m7c: ∀j,(w7).cell? ⟨w1.heap.size,j,none⟩=(#[.int .u64 (layH h).base,.int .i64 (layH h).cap,.int .i64 (layH h).to,.int .i64 (layH h).low,.int .i64 (layH h).high,.int .i64 (layH h).old,.int .i64 (layH h).far]:Array Value)[j]? :=fun j=>cell_of_row _ _ _ _ _ _ st7.lay;have hop7:=st7.now.own.own 3 (by omega);rw[EP.out]at hop7;have c7:=Zi hop7 hwd;clear nb7 hop7;have ST7:=Lib.hid st7;clear hb7 st7))
  | (go_at_call 59;go_loud (have st7:=ST7.out;refine(Zh hwu _).mono ?_;rintro e w8 ⟨rfl,hb8⟩;have st8:=st7.below hb8;have hs8:=hb8.size;have res8:=st8.res;have y8: ∀j,(w8).cell? ⟨w.heap.size+1,j,none⟩=Z5[j]? :=fun j=>cell_of_row _ _ _ _ _ _ res8;unfold Z5 at y8;have f8: ∀j,(w8).frozen? ⟨w.heap.size+1,j,none⟩=false:=fun j=>Zb res8;have nb8:=st8.now.blk;rw[E0.out,E1.out,E2.out,E3.out,E4.out]at nb8;have n8c: ∀j,(w8).cell? ⟨w5.heap.size,j,none⟩=(#[.int .u64 h.base,.int .i64 h.cap,.int .i64 h.to,.bool h.cycle,.int .i64 h.scan,.slice a0 (lsH h 0).length q0,.slice a1 (lsH h 1).length q1,.slice a2 (lsH h 2).length q2,.slice (some ⟨g,0,none⟩) (lsH h 3).length q3,.slice a4 (lsH h 4).length q4]:Array Value)[j]? :=fun j=>cell_of_row _ _ _ _ _ _ nb8;have k8c: ∀j,(w8).cell? ⟨w4.heap.size,j,none⟩=(#[.int .i64 4,.int .i64 (at_:Nat)]:Array Value)[j]? :=fun j=>cell_of_row _ _ _ _ _ _ st8.plc;have m8c: ∀j,(w8).cell? ⟨w1.heap.size,j,none⟩=(#[.int .u64 (layH h).base,.int .i64 (layH h).cap,.int .i64 (layH h).to,.int .i64 (layH h).low,.int .i64 (layH h).high,.int .i64 (layH h).old,.int .i64 (layH h).far]:Array Value)[j]? :=fun j=>cell_of_row _ _ _ _ _ _ st8.lay;have hop8:=st8.now.own.own 3 (by omega);rw[EP.out]at hop8;have c8:=Zi hop8 hwd;clear nb8 hop8;have ST8:=Lib.hid st8;clear hb8 st8 st7))
  | (go_at_call 62;go_loud (refine(ZG hwu _).mono ?_;rintro e w9 ⟨rfl,hb9⟩;rw[hun];dsimp only;have hs9:=hb9.size;have st10:FwSt w (w9.alloc (.cells #[.int .i64 sz,.int .i64 pt] 47)) _ _ _ _ _ _ _ h x:=(ST8.out.below hb9).below ((Below.refl _ _).alloc (Nat.le_refl _) _);have res10:=st10.res;have y10: ∀j,((w9.alloc (.cells #[.int .i64 sz,.int .i64 pt] 47))).cell? ⟨w.heap.size+1,j,none⟩=Z5[j]? :=fun j=>cell_of_row _ _ _ _ _ _ res10;unfold Z5 at y10;have f10: ∀j,((w9.alloc (.cells #[.int .i64 sz,.int .i64 pt] 47))).frozen? ⟨w.heap.size+1,j,none⟩=false:=fun j=>Zb res10;have nb10:=st10.now.blk;rw[E0.out,E1.out,E2.out,E3.out,E4.out]at nb10;have n10c: ∀j,((w9.alloc (.cells #[.int .i64 sz,.int .i64 pt] 47))).cell? ⟨w5.heap.size,j,none⟩=(#[.int .u64 h.base,.int .i64 h.cap,.int .i64 h.to,.bool h.cycle,.int .i64 h.scan,.slice a0 (lsH h 0).length q0,.slice a1 (lsH h 1).length q1,.slice a2 (lsH h 2).length q2,.slice (some ⟨g,0,none⟩) (lsH h 3).length q3,.slice a4 (lsH h 4).length q4]:Array Value)[j]? :=fun j=>cell_of_row _ _ _ _ _ _ nb10;have k10c: ∀j,((w9.alloc (.cells #[.int .i64 sz,.int .i64 pt] 47))).cell? ⟨w4.heap.size,j,none⟩=(#[.int .i64 4,.int .i64 (at_:Nat)]:Array Value)[j]? :=fun j=>cell_of_row _ _ _ _ _ _ st10.plc;have m10c: ∀j,((w9.alloc (.cells #[.int .i64 sz,.int .i64 pt] 47))).cell? ⟨w1.heap.size,j,none⟩=(#[.int .u64 (layH h).base,.int .i64 (layH h).cap,.int .i64 (layH h).to,.int .i64 (layH h).low,.int .i64 (layH h).high,.int .i64 (layH h).old,.int .i64 (layH h).far]:Array Value)[j]? :=fun j=>cell_of_row _ _ _ _ _ _ st10.lay;have hop10:=st10.now.own.own 3 (by omega);rw[EP.out]at hop10;have c10:=Zi hop10 hwd;clear nb10 hop10;have s10c: ∀j,(w9.alloc (.cells #[.int .i64 sz,.int .i64 pt] 47)).cell? ⟨w9.heap.size,j,none⟩=(#[.int .i64 sz,.int .i64 pt]:Array Value)[j]? :=fun j=>cell_of_row _ _ _ _ _ _ (heap_alloc_new w9 _);have ST10:=Lib.hid st10;have hml:m≤1000000:=(by have:=YJ HH.out 3;omega);have hl10:at_+m=(lsH h 3).length:=(by omega);clear hb9 st10))
  | (go_at_call 51;go_loud (refine(Zm (h:=h) (x:=src) (G:=G) (fun c hc=>by have:=hG c hc;simp;omega) (fun j hj=>(HS.out j hj).keep (fun b hb=>by have:=hG b hb;rw[Below.heap_alloc _ _ _ (by simp;omega),Below.heap_alloc _ _ _ (by omega)]) (fun _ h=>h))).mono ?_;rintro e w1 ⟨rfl,hb1⟩;unfold lyA;have z1:=(hb1.block (w.heap.size+1) (by simp)).trans (Y2 w _);have p1:=(hb1.block w.heap.size (by simp;omega)).trans ((Below.heap_alloc (w.alloc (.cells #[.int .u64 h.base,.int .i64 h.cap,.int .i64 h.to,.bool h.cycle,.int .i64 h.scan,src 0,src 1,src 2,src 3,src 4] 25)) _ w.heap.size (by simp)).trans (heap_alloc_new w _));have hs1:=hb1.size;simp at hs1;have HB1:=Lib.hid hb1;clear hb1))
  | (go_at_call 43;go_loud (refine(Zq HH.out.lay _).mono ?_;rintro e w2 ⟨rfl,hb2⟩;rw[hr];have z2:=(hb2.block (w.heap.size+1) (by simp;omega)).trans ((Below.heap_alloc w1 _ (w.heap.size+1) (by omega)).trans z1);have p2:=(hb2.block w.heap.size (by simp;omega)).trans ((Below.heap_alloc w1 _ w.heap.size (by omega)).trans p1);have x2: ∀j,w2.cell? ⟨w.heap.size,j,none⟩=(#[.int .u64 h.base,.int .i64 h.cap,.int .i64 h.to,.bool h.cycle,.int .i64 h.scan,src 0,src 1,src 2,src 3,src 4]:Array Value)[j]? :=fun j=>cell_of_row _ _ _ _ _ _ p2;have hb02:Below w.heap.size w w2:=((((((Below.refl _ _).alloc (Nat.le_refl _) _).alloc (by simp) _).trans (HB1.out.mono (by simp;omega))).alloc (by omega) _).trans (hb2.mono (by simp;omega)));have hs2:=hb2.size;simp at hs2;have m2:=(hb2.block w1.heap.size (by simp)).trans (heap_alloc_new w1 _);have HB02:=Lib.hid hb02;clear hb2 hb02))
  | (go_at_call 59;go_loud (refine(Zh hv _).mono ?_;rintro e w3 ⟨rfl,hb3⟩;have z3:=(hb3.block (w.heap.size+1) (by omega)).trans z2;have p3:=(hb3.block w.heap.size (by omega)).trans p2;have m3:=(hb3.block w1.heap.size (by omega)).trans m2;have l3: ∀j,w3.cell? ⟨w1.heap.size,j,none⟩=(#[.int .u64 (layH h).base,.int .i64 (layH h).cap,.int .i64 (layH h).to,.int .i64 (layH h).low,.int .i64 (layH h).high,.int .i64 (layH h).old,.int .i64 (layH h).far]:Array Value)[j]? :=fun j=>cell_of_row _ _ _ _ _ _ m3;have hs3:=hb3.size;have HB3:=Lib.hid hb3;clear hb3))
  | (go_at_call 60;go_loud (refine(ZH HH.out.lay (Uc hv) _).mono ?_;rintro e w4 ⟨rfl,hb4⟩;rw[hf];dsimp only;have hs4:=hb4.size;have z4: ∀o,(w4.alloc o).heap[w.heap.size+1]? =some (.cells Z5 25 (0,0)):=fun o=>(Below.heap_alloc w4 o (w.heap.size+1) (by omega)).trans ((hb4.block (w.heap.size+1) (by omega)).trans z3);have p4: ∀o,(w4.alloc o).heap[w.heap.size]? =some (.cells #[.int .u64 h.base,.int .i64 h.cap,.int .i64 h.to,.bool h.cycle,.int .i64 h.scan,src 0,src 1,src 2,src 3,src 4] 25 (0,0)):=fun o=>(Below.heap_alloc w4 o w.heap.size (by omega)).trans ((hb4.block w.heap.size (by omega)).trans p3);have x4: ∀o j,(w4.alloc o).cell? ⟨w.heap.size,j,none⟩=(#[.int .u64 h.base,.int .i64 h.cap,.int .i64 h.to,.bool h.cycle,.int .i64 h.scan,src 0,src 1,src 2,src 3,src 4]:Array Value)[j]? :=fun o j=>cell_of_row _ _ _ _ _ _ (p4 o);have hb04: ∀o,Below w.heap.size w (w4.alloc o):=fun o=>((HB02.out.trans (HB3.out.mono (by omega))).trans (hb4.mono (by omega))).alloc (by omega) o;have m4: ∀o,(w4.alloc o).heap[w1.heap.size]? =some (.cells #[.int .u64 (layH h).base,.int .i64 (layH h).cap,.int .i64 (layH h).to,.int .i64 (layH h).low,.int .i64 (layH h).high,.int .i64 (layH h).old,.int .i64 (layH h).far] 53 (0,0)):=fun o=>(Below.heap_alloc w4 o w1.heap.size (by omega)).trans ((hb4.block w1.heap.size (by omega)).trans m3);have k4:=heap_alloc_new w4 (.cells #[.int .i64 4,.int .i64 (at_:Nat)] 91);have HB04:=Lib.hid hb04;clear hb4 hb04 z3 p3 m3 l3 z2 p2 x2 m2))
  | (go_at_call 48;go_loud (refine(Yk _ G (fun b hb=>by have:=hG b hb;simp;omega) h HH.out src (fun j hj=>(HS.out j hj).keep (fun b hb=>(HB04.out _).block b (hG b hb)) (fun _ h=>h))).mono ?_;rintro e w5 ⟨x,rfl,hb5,ho5⟩;obtain⟨a0,q0,e0⟩:=Z1 (ho5.own 0 (by omega));obtain⟨a1,q1,e1⟩:=Z1 (ho5.own 1 (by omega));obtain⟨a2,q2,e2⟩:=Z1 (ho5.own 2 (by omega));obtain⟨a3,q3,e3⟩:=Z1 (ho5.own 3 (by omega));obtain⟨a4,q4,e4⟩:=Z1 (ho5.own 4 (by omega));obtain⟨g,hg⟩:=YF (ho5.own 3 (by omega)) e3 (by omega);subst hg;unfold hpA;rw[e0,e1,e2,e3,e4];have hs5:=hb5.size;simp at hs5;have hsz4: ∀o,(w4.alloc o).heap.size=w4.heap.size+1:=fun o=>(by simp);rw[hsz4]at ho5;have hN:=ZW ho5 (by omega);unfold Uo at hN;rw[e0,e1,e2,e3,e4]at hN;have hb05: ∀o,Below w.heap.size w (w5.alloc o):=fun o=>((HB04.out _).trans (hb5.mono (by simp;omega))).alloc (by omega) o;have z6: ∀o,(w5.alloc o).heap[w.heap.size+1]? =some (.cells Z5 25 (0,0)):=fun o=>(Below.heap_alloc w5 o (w.heap.size+1) (by omega)).trans ((hb5.block (w.heap.size+1) (by simp;omega)).trans (z4 _));have k6: ∀o,(w5.alloc o).heap[w4.heap.size]? =some (.cells #[.int .i64 4,.int .i64 (at_:Nat)] 91 (0,0)):=fun o=>(Below.heap_alloc w5 o w4.heap.size (by omega)).trans ((hb5.block w4.heap.size (by simp)).trans k4);have m6: ∀o,(w5.alloc o).heap[w1.heap.size]? =some (.cells #[.int .u64 (layH h).base,.int .i64 (layH h).cap,.int .i64 (layH h).to,.int .i64 (layH h).low,.int .i64 (layH h).high,.int .i64 (layH h).old,.int .i64 (layH h).far] 53 (0,0)):=fun o=>(Below.heap_alloc w5 o w1.heap.size (by omega)).trans ((hb5.block w1.heap.size (by simp;omega)).trans (m4 _));have k6c: ∀o j,(w5.alloc o).cell? ⟨w4.heap.size,j,none⟩=(#[.int .i64 4,.int .i64 (at_:Nat)]:Array Value)[j]? :=fun o j=>cell_of_row _ _ _ _ _ _ (k6 o);have m6c: ∀o j,(w5.alloc o).cell? ⟨w1.heap.size,j,none⟩=(#[.int .u64 (layH h).base,.int .i64 (layH h).cap,.int .i64 (layH h).to,.int .i64 (layH h).low,.int .i64 (layH h).high,.int .i64 (layH h).old,.int .i64 (layH h).far]:Array Value)[j]? :=fun o j=>cell_of_row _ _ _ _ _ _ (m6 o);have nb:=hN.blk;rw[e0,e1,e2,e3,e4]at nb;have n6c: ∀j,(w5.alloc (.cells #[.int .u64 h.base,.int .i64 h.cap,.int .i64 h.to,.bool h.cycle,.int .i64 h.scan,.slice a0 (lsH h 0).length q0,.slice a1 (lsH h 1).length q1,.slice a2 (lsH h 2).length q2,.slice (some ⟨g,0,none⟩) (lsH h 3).length q3,.slice a4 (lsH h 4).length q4] 113)).cell? ⟨w5.heap.size,j,none⟩=(#[.int .u64 h.base,.int .i64 h.cap,.int .i64 h.to,.bool h.cycle,.int .i64 h.scan,.slice a0 (lsH h 0).length q0,.slice a1 (lsH h 1).length q1,.slice a2 (lsH h 2).length q2,.slice (some ⟨g,0,none⟩) (lsH h 3).length q3,.slice a4 (lsH h 4).length q4]:Array Value)[j]? :=fun j=>cell_of_row _ _ _ _ _ _ nb;have y6: ∀o j,(w5.alloc o).cell? ⟨w.heap.size+1,j,none⟩=Z5[j]? :=fun o j=>cell_of_row _ _ _ _ _ _ (z6 o);have f6: ∀o j,(w5.alloc o).frozen? ⟨w.heap.size+1,j,none⟩=false:=fun o j=>Zb (z6 o);unfold Z5 at y6;have st6:FwSt w (w5.alloc (.cells #[.int .u64 h.base,.int .i64 h.cap,.int .i64 h.to,.bool h.cycle,.int .i64 h.scan,.slice a0 (lsH h 0).length q0,.slice a1 (lsH h 1).length q1,.slice a2 (lsH h 2).length q2,.slice (some ⟨g,0,none⟩) (lsH h 3).length q3,.slice a4 (lsH h 4).length q4] 113)) (w.heap.size+1) w1.heap.size w4.heap.size w5.heap.size (w4.heap.size+1) 4 (at_:Nat) h x:=⟨z6 _,m6 _,k6 _,hN,hb05 _,by omega,by omega,by omega,by omega,by simp;omega⟩;have ST6:=Lib.hid st6;have EP:=Lib.hid e3;clear st6;have HB05:=Lib.hid hb05;have HN:=Lib.hid hN;have E0:=Lib.hid e0;have E1:=Lib.hid e1;have E2:=Lib.hid e2;have E3:=Lib.hid e3;have E4:=Lib.hid e4;clear hb05 hN nb e0 e1 e2 e3 e4 ho5 hb5 z4 p4 x4 m4 k4)))
 have hpH:h.far.getD at_ 0=wd:=by show(lsH h 3).getD at_ 0=wd;simp[List.getD,hwd]
 have hpL:h.far.length=(lsH h 3).length:=rfl
 have hfw:fwd h v=(0,Hp.zero,3):=by simp[fwd,fwdC,hr,hv0,h1,hf,-List.getD_eq_getElem?_getD,hpH,hpL,hgo,hun,her]
 have y:=Zv ST10.out.res (.int .u64 0) (.int .i64 0) (.int .i64 0) (.bool false) (.int .i64 0) (.slice none 0 0) (.slice none 0 0) (.slice none 0 0) (.slice none 0 0) (.slice none 0 0)
 rw[hfw]
 refine bodyPost_ret (v:= .tuple #[.int .u64 0,.agg Z5,.int .i64 3]) ?_ rfl ?_
 ·simp[results,Try.results39,go_sem,y,Z5]
 ·refine⟨fun _=> .slice none 0 0,?_,?_,X9 _ _⟩
  ·simp[hpA,Hp.zero,Z5]
  ·exact Zr ST10.out.bel (by omega) _ _ _ _ _ _ _ _ _ _
theorem Su(w:World)(G:Nat→Prop)(hG: ∀b,G b→b<w.heap.size)(h:Hp)(hh:h.ok)(src:Nat→Value)(hs: ∀j,j<5→Rd w G (.sl ((lsH h j).map vu)) (src j))(v:Int)(hv:U64 v)
  (hr:Za (layH h)=true) (hv0: ¬v=0) (h1:(adr v).2=0) (part:Int) (at_:Nat) (hf:ZB (layH h) (adr v).1=(part,(at_:Int),0)) (hp:part=4)
  (wd:Int) (hwd:(lsH h 3)[at_]? =some wd) (hat:at_< (lsH h 3).length) (hwu:U64 wd) (hgo: ¬(adr wd).2=0) (sz:Nat) (pt er:Int) (hun:unpk wd=((sz:Int),pt,er)) (hsz:sz≤255) (her:er=0) (hlt:(lsH h 3).length<at_+(sz+1)):
  Calls Try.prog 39 #[hpA h src,.int .u64 v] w (Yu w (fwd h v)):=by
 have HS:=Lib.hid hs
 have HH:=Lib.hid hh
 clear hs hh
 unfold hpA
 go_enter Try.func39,Try.ntmps39
 subst hp
 go_wp2_with (first
  | (go_at_call 61;go_loud (refine(Yr _ (w4.heap.size+1) w5.heap.size h x ST6.out.now HH.out 3 at_ (by omega) g q3 EP.out (by omega)).mono ?_;rintro e w7 ⟨rfl,hb7⟩;obtain⟨m,hm⟩: ∃m,(lsH h 3).length-at_=m:=⟨_,rfl⟩;obtain⟨qm,hqm⟩: ∃qm,q3-at_=qm:=⟨_,rfl⟩;rw[hm,hqm];have hm0:0<m:=(by omega);have hm0i:(0:Int) < (m:Int):=(by omega);have hat2:at_+0=at_:=rfl;have st7:=ST6.out.below hb7;have hs7:=hb7.size;simp at hs7;have res7:=st7.res;have y7: ∀j,(w7).cell? ⟨w.heap.size+1,j,none⟩=Z5[j]? :=fun j=>cell_of_row _ _ _ _ _ _ res7;unfold Z5 at y7;have f7: ∀j,(w7).frozen? ⟨w.heap.size+1,j,none⟩=false:=fun j=>Zb res7;have nb7:=st7.now.blk;rw[E0.out,E1.out,E2.out,E3.out,E4.out]at nb7;have n7c: ∀j,(w7).cell? ⟨w5.heap.size,j,none⟩=(#[.int .u64 h.base,.int .i64 h.cap,.int .i64 h.to,.bool h.cycle,.int .i64 h.scan,.slice a0 (lsH h 0).length q0,.slice a1 (lsH h 1).length q1,.slice a2 (lsH h 2).length q2,.slice (some ⟨g,0,none⟩) (lsH h 3).length q3,.slice a4 (lsH h 4).length q4]:Array Value)[j]? :=fun j=>cell_of_row _ _ _ _ _ _ nb7;have k7c: ∀j,(w7).cell? ⟨w4.heap.size,j,none⟩=(#[.int .i64 4,.int .i64 (at_:Nat)]:Array Value)[j]? :=fun j=>cell_of_row _ _ _ _ _ _ st7.plc;have m7c: ∀j,(w7).cell? ⟨w1.heap.size,j,none⟩=(#[.int .u64 (layH h).base,.int .i64 (layH h).cap,.int .i64 (layH h).to,.int .i64 (layH h).low,.int .i64 (layH h).high,.int .i64 (layH h).old,.int .i64 (layH h).far]:Array Value)[j]? :=fun j=>cell_of_row _ _ _ _ _ _ st7.lay;have hop7:=st7.now.own.own 3 (by omega);rw[EP.out]at hop7;have c7:=Zi hop7 hwd;clear nb7 hop7;have ST7:=Lib.hid st7;clear hb7 st7))
  | (go_at_call 59;go_loud (have st7:=ST7.out;refine(Zh hwu _).mono ?_;rintro e w8 ⟨rfl,hb8⟩;have st8:=st7.below hb8;have hs8:=hb8.size;have res8:=st8.res;have y8: ∀j,(w8).cell? ⟨w.heap.size+1,j,none⟩=Z5[j]? :=fun j=>cell_of_row _ _ _ _ _ _ res8;unfold Z5 at y8;have f8: ∀j,(w8).frozen? ⟨w.heap.size+1,j,none⟩=false:=fun j=>Zb res8;have nb8:=st8.now.blk;rw[E0.out,E1.out,E2.out,E3.out,E4.out]at nb8;have n8c: ∀j,(w8).cell? ⟨w5.heap.size,j,none⟩=(#[.int .u64 h.base,.int .i64 h.cap,.int .i64 h.to,.bool h.cycle,.int .i64 h.scan,.slice a0 (lsH h 0).length q0,.slice a1 (lsH h 1).length q1,.slice a2 (lsH h 2).length q2,.slice (some ⟨g,0,none⟩) (lsH h 3).length q3,.slice a4 (lsH h 4).length q4]:Array Value)[j]? :=fun j=>cell_of_row _ _ _ _ _ _ nb8;have k8c: ∀j,(w8).cell? ⟨w4.heap.size,j,none⟩=(#[.int .i64 4,.int .i64 (at_:Nat)]:Array Value)[j]? :=fun j=>cell_of_row _ _ _ _ _ _ st8.plc;have m8c: ∀j,(w8).cell? ⟨w1.heap.size,j,none⟩=(#[.int .u64 (layH h).base,.int .i64 (layH h).cap,.int .i64 (layH h).to,.int .i64 (layH h).low,.int .i64 (layH h).high,.int .i64 (layH h).old,.int .i64 (layH h).far]:Array Value)[j]? :=fun j=>cell_of_row _ _ _ _ _ _ st8.lay;have hop8:=st8.now.own.own 3 (by omega);rw[EP.out]at hop8;have c8:=Zi hop8 hwd;clear nb8 hop8;have ST8:=Lib.hid st8;clear hb8 st8 st7))
  | (go_at_call 62;go_loud (refine(ZG hwu _).mono ?_;rintro e w9 ⟨rfl,hb9⟩;rw[hun];dsimp only;have hs9:=hb9.size;have st10:FwSt w (w9.alloc (.cells #[.int .i64 (sz:Nat),.int .i64 pt] 47)) _ _ _ _ _ _ _ h x:=(ST8.out.below hb9).below ((Below.refl _ _).alloc (Nat.le_refl _) _);have res10:=st10.res;have y10: ∀j,((w9.alloc (.cells #[.int .i64 (sz:Nat),.int .i64 pt] 47))).cell? ⟨w.heap.size+1,j,none⟩=Z5[j]? :=fun j=>cell_of_row _ _ _ _ _ _ res10;unfold Z5 at y10;have f10: ∀j,((w9.alloc (.cells #[.int .i64 (sz:Nat),.int .i64 pt] 47))).frozen? ⟨w.heap.size+1,j,none⟩=false:=fun j=>Zb res10;have nb10:=st10.now.blk;rw[E0.out,E1.out,E2.out,E3.out,E4.out]at nb10;have n10c: ∀j,((w9.alloc (.cells #[.int .i64 (sz:Nat),.int .i64 pt] 47))).cell? ⟨w5.heap.size,j,none⟩=(#[.int .u64 h.base,.int .i64 h.cap,.int .i64 h.to,.bool h.cycle,.int .i64 h.scan,.slice a0 (lsH h 0).length q0,.slice a1 (lsH h 1).length q1,.slice a2 (lsH h 2).length q2,.slice (some ⟨g,0,none⟩) (lsH h 3).length q3,.slice a4 (lsH h 4).length q4]:Array Value)[j]? :=fun j=>cell_of_row _ _ _ _ _ _ nb10;have k10c: ∀j,((w9.alloc (.cells #[.int .i64 (sz:Nat),.int .i64 pt] 47))).cell? ⟨w4.heap.size,j,none⟩=(#[.int .i64 4,.int .i64 (at_:Nat)]:Array Value)[j]? :=fun j=>cell_of_row _ _ _ _ _ _ st10.plc;have m10c: ∀j,((w9.alloc (.cells #[.int .i64 (sz:Nat),.int .i64 pt] 47))).cell? ⟨w1.heap.size,j,none⟩=(#[.int .u64 (layH h).base,.int .i64 (layH h).cap,.int .i64 (layH h).to,.int .i64 (layH h).low,.int .i64 (layH h).high,.int .i64 (layH h).old,.int .i64 (layH h).far]:Array Value)[j]? :=fun j=>cell_of_row _ _ _ _ _ _ st10.lay;have hop10:=st10.now.own.own 3 (by omega);rw[EP.out]at hop10;have c10:=Zi hop10 hwd;clear nb10 hop10;have s10c: ∀j,(w9.alloc (.cells #[.int .i64 (sz:Nat),.int .i64 pt] 47)).cell? ⟨w9.heap.size,j,none⟩=(#[.int .i64 (sz:Nat),.int .i64 pt]:Array Value)[j]? :=fun j=>cell_of_row _ _ _ _ _ _ (heap_alloc_new w9 _);have ST10:=Lib.hid st10;have hml:m≤1000000:=(by have:=YJ HH.out 3;omega);have hl10:at_+m=(lsH h 3).length:=(by omega);clear hb9 st10))
  | (go_at_call 51;go_loud (refine(Zm (h:=h) (x:=src) (G:=G) (fun c hc=>by have:=hG c hc;simp;omega) (fun j hj=>(HS.out j hj).keep (fun b hb=>by have:=hG b hb;rw[Below.heap_alloc _ _ _ (by simp;omega),Below.heap_alloc _ _ _ (by omega)]) (fun _ h=>h))).mono ?_;rintro e w1 ⟨rfl,hb1⟩;unfold lyA;have z1:=(hb1.block (w.heap.size+1) (by simp)).trans (Y2 w _);have p1:=(hb1.block w.heap.size (by simp;omega)).trans ((Below.heap_alloc (w.alloc (.cells #[.int .u64 h.base,.int .i64 h.cap,.int .i64 h.to,.bool h.cycle,.int .i64 h.scan,src 0,src 1,src 2,src 3,src 4] 25)) _ w.heap.size (by simp)).trans (heap_alloc_new w _));have hs1:=hb1.size;simp at hs1;have HB1:=Lib.hid hb1;clear hb1))
  | (go_at_call 43;go_loud (refine(Zq HH.out.lay _).mono ?_;rintro e w2 ⟨rfl,hb2⟩;rw[hr];have z2:=(hb2.block (w.heap.size+1) (by simp;omega)).trans ((Below.heap_alloc w1 _ (w.heap.size+1) (by omega)).trans z1);have p2:=(hb2.block w.heap.size (by simp;omega)).trans ((Below.heap_alloc w1 _ w.heap.size (by omega)).trans p1);have x2: ∀j,w2.cell? ⟨w.heap.size,j,none⟩=(#[.int .u64 h.base,.int .i64 h.cap,.int .i64 h.to,.bool h.cycle,.int .i64 h.scan,src 0,src 1,src 2,src 3,src 4]:Array Value)[j]? :=fun j=>cell_of_row _ _ _ _ _ _ p2;have hb02:Below w.heap.size w w2:=((((((Below.refl _ _).alloc (Nat.le_refl _) _).alloc (by simp) _).trans (HB1.out.mono (by simp;omega))).alloc (by omega) _).trans (hb2.mono (by simp;omega)));have hs2:=hb2.size;simp at hs2;have m2:=(hb2.block w1.heap.size (by simp)).trans (heap_alloc_new w1 _);have HB02:=Lib.hid hb02;clear hb2 hb02))
  | (go_at_call 59;go_loud (refine(Zh hv _).mono ?_;rintro e w3 ⟨rfl,hb3⟩;have z3:=(hb3.block (w.heap.size+1) (by omega)).trans z2;have p3:=(hb3.block w.heap.size (by omega)).trans p2;have m3:=(hb3.block w1.heap.size (by omega)).trans m2;have l3: ∀j,w3.cell? ⟨w1.heap.size,j,none⟩=(#[.int .u64 (layH h).base,.int .i64 (layH h).cap,.int .i64 (layH h).to,.int .i64 (layH h).low,.int .i64 (layH h).high,.int .i64 (layH h).old,.int .i64 (layH h).far]:Array Value)[j]? :=fun j=>cell_of_row _ _ _ _ _ _ m3;have hs3:=hb3.size;have HB3:=Lib.hid hb3;clear hb3))
  | (go_at_call 60;go_loud (refine(ZH HH.out.lay (Uc hv) _).mono ?_;rintro e w4 ⟨rfl,hb4⟩;rw[hf];dsimp only;have hs4:=hb4.size;have z4: ∀o,(w4.alloc o).heap[w.heap.size+1]? =some (.cells Z5 25 (0,0)):=fun o=>(Below.heap_alloc w4 o (w.heap.size+1) (by omega)).trans ((hb4.block (w.heap.size+1) (by omega)).trans z3);have p4: ∀o,(w4.alloc o).heap[w.heap.size]? =some (.cells #[.int .u64 h.base,.int .i64 h.cap,.int .i64 h.to,.bool h.cycle,.int .i64 h.scan,src 0,src 1,src 2,src 3,src 4] 25 (0,0)):=fun o=>(Below.heap_alloc w4 o w.heap.size (by omega)).trans ((hb4.block w.heap.size (by omega)).trans p3);have x4: ∀o j,(w4.alloc o).cell? ⟨w.heap.size,j,none⟩=(#[.int .u64 h.base,.int .i64 h.cap,.int .i64 h.to,.bool h.cycle,.int .i64 h.scan,src 0,src 1,src 2,src 3,src 4]:Array Value)[j]? :=fun o j=>cell_of_row _ _ _ _ _ _ (p4 o);have hb04: ∀o,Below w.heap.size w (w4.alloc o):=fun o=>((HB02.out.trans (HB3.out.mono (by omega))).trans (hb4.mono (by omega))).alloc (by omega) o;have m4: ∀o,(w4.alloc o).heap[w1.heap.size]? =some (.cells #[.int .u64 (layH h).base,.int .i64 (layH h).cap,.int .i64 (layH h).to,.int .i64 (layH h).low,.int .i64 (layH h).high,.int .i64 (layH h).old,.int .i64 (layH h).far] 53 (0,0)):=fun o=>(Below.heap_alloc w4 o w1.heap.size (by omega)).trans ((hb4.block w1.heap.size (by omega)).trans m3);have k4:=heap_alloc_new w4 (.cells #[.int .i64 4,.int .i64 (at_:Nat)] 91);have HB04:=Lib.hid hb04;clear hb4 hb04 z3 p3 m3 l3 z2 p2 x2 m2))
  | (go_at_call 48;go_loud (refine(Yk _ G (fun b hb=>by have:=hG b hb;simp;omega) h HH.out src (fun j hj=>(HS.out j hj).keep (fun b hb=>(HB04.out _).block b (hG b hb)) (fun _ h=>h))).mono ?_;rintro e w5 ⟨x,rfl,hb5,ho5⟩;obtain⟨a0,q0,e0⟩:=Z1 (ho5.own 0 (by omega));obtain⟨a1,q1,e1⟩:=Z1 (ho5.own 1 (by omega));obtain⟨a2,q2,e2⟩:=Z1 (ho5.own 2 (by omega));obtain⟨a3,q3,e3⟩:=Z1 (ho5.own 3 (by omega));obtain⟨a4,q4,e4⟩:=Z1 (ho5.own 4 (by omega));obtain⟨g,hg⟩:=YF (ho5.own 3 (by omega)) e3 (by omega);subst hg;unfold hpA;rw[e0,e1,e2,e3,e4];have hs5:=hb5.size;simp at hs5;have hsz4: ∀o,(w4.alloc o).heap.size=w4.heap.size+1:=fun o=>(by simp);rw[hsz4]at ho5;have hN:=ZW ho5 (by omega);unfold Uo at hN;rw[e0,e1,e2,e3,e4]at hN;have hb05: ∀o,Below w.heap.size w (w5.alloc o):=fun o=>((HB04.out _).trans (hb5.mono (by simp;omega))).alloc (by omega) o;have z6: ∀o,(w5.alloc o).heap[w.heap.size+1]? =some (.cells Z5 25 (0,0)):=fun o=>(Below.heap_alloc w5 o (w.heap.size+1) (by omega)).trans ((hb5.block (w.heap.size+1) (by simp;omega)).trans (z4 _));have k6: ∀o,(w5.alloc o).heap[w4.heap.size]? =some (.cells #[.int .i64 4,.int .i64 (at_:Nat)] 91 (0,0)):=fun o=>(Below.heap_alloc w5 o w4.heap.size (by omega)).trans ((hb5.block w4.heap.size (by simp)).trans k4);have m6: ∀o,(w5.alloc o).heap[w1.heap.size]? =some (.cells #[.int .u64 (layH h).base,.int .i64 (layH h).cap,.int .i64 (layH h).to,.int .i64 (layH h).low,.int .i64 (layH h).high,.int .i64 (layH h).old,.int .i64 (layH h).far] 53 (0,0)):=fun o=>(Below.heap_alloc w5 o w1.heap.size (by omega)).trans ((hb5.block w1.heap.size (by simp;omega)).trans (m4 _));have k6c: ∀o j,(w5.alloc o).cell? ⟨w4.heap.size,j,none⟩=(#[.int .i64 4,.int .i64 (at_:Nat)]:Array Value)[j]? :=fun o j=>cell_of_row _ _ _ _ _ _ (k6 o);have m6c: ∀o j,(w5.alloc o).cell? ⟨w1.heap.size,j,none⟩=(#[.int .u64 (layH h).base,.int .i64 (layH h).cap,.int .i64 (layH h).to,.int .i64 (layH h).low,.int .i64 (layH h).high,.int .i64 (layH h).old,.int .i64 (layH h).far]:Array Value)[j]? :=fun o j=>cell_of_row _ _ _ _ _ _ (m6 o);have nb:=hN.blk;rw[e0,e1,e2,e3,e4]at nb;have n6c: ∀j,(w5.alloc (.cells #[.int .u64 h.base,.int .i64 h.cap,.int .i64 h.to,.bool h.cycle,.int .i64 h.scan,.slice a0 (lsH h 0).length q0,.slice a1 (lsH h 1).length q1,.slice a2 (lsH h 2).length q2,.slice (some ⟨g,0,none⟩) (lsH h 3).length q3,.slice a4 (lsH h 4).length q4] 113)).cell? ⟨w5.heap.size,j,none⟩=(#[.int .u64 h.base,.int .i64 h.cap,.int .i64 h.to,.bool h.cycle,.int .i64 h.scan,.slice a0 (lsH h 0).length q0,.slice a1 (lsH h 1).length q1,.slice a2 (lsH h 2).length q2,.slice (some ⟨g,0,none⟩) (lsH h 3).length q3,.slice a4 (lsH h 4).length q4]:Array Value)[j]? :=fun j=>cell_of_row _ _ _ _ _ _ nb;have y6: ∀o j,(w5.alloc o).cell? ⟨w.heap.size+1,j,none⟩=Z5[j]? :=fun o j=>cell_of_row _ _ _ _ _ _ (z6 o);have f6: ∀o j,(w5.alloc o).frozen? ⟨w.heap.size+1,j,none⟩=false:=fun o j=>Zb (z6 o);unfold Z5 at y6;have st6:FwSt w (w5.alloc (.cells #[.int .u64 h.base,.int .i64 h.cap,.int .i64 h.to,.bool h.cycle,.int .i64 h.scan,.slice a0 (lsH h 0).length q0,.slice a1 (lsH h 1).length q1,.slice a2 (lsH h 2).length q2,.slice (some ⟨g,0,none⟩) (lsH h 3).length q3,.slice a4 (lsH h 4).length q4] 113)) (w.heap.size+1) w1.heap.size w4.heap.size w5.heap.size (w4.heap.size+1) 4 (at_:Nat) h x:=⟨z6 _,m6 _,k6 _,hN,hb05 _,by omega,by omega,by omega,by omega,by simp;omega⟩;have ST6:=Lib.hid st6;have EP:=Lib.hid e3;clear st6;have HB05:=Lib.hid hb05;have HN:=Lib.hid hN;have E0:=Lib.hid e0;have E1:=Lib.hid e1;have E2:=Lib.hid e2;have E3:=Lib.hid e3;have E4:=Lib.hid e4;clear hb05 hN nb e0 e1 e2 e3 e4 ho5 hb5 z4 p4 x4 m4 k4)))
 have hpH:h.far.getD at_ 0=wd:=by show(lsH h 3).getD at_ 0=wd;simp[List.getD,hwd]
 have hpL:h.far.length=(lsH h 3).length:=rfl
 have hfw:fwd h v=(0,Hp.zero,2):=by simp[fwd,fwdC,hr,hv0,h1,hf,-List.getD_eq_getElem?_getD,hpH,hpL,hgo,hun,her,hlt]
 have y:=Zv ST10.out.res (.int .u64 0) (.int .i64 0) (.int .i64 0) (.bool false) (.int .i64 0) (.slice none 0 0) (.slice none 0 0) (.slice none 0 0) (.slice none 0 0) (.slice none 0 0)
 rw[hfw]
 refine bodyPost_ret (v:= .tuple #[.int .u64 0,.agg Z5,.int .i64 2]) ?_ rfl ?_
 ·simp[results,Try.results39,go_sem,y,Z5]
 ·refine⟨fun _=> .slice none 0 0,?_,?_,X9 _ _⟩
  ·simp[hpA,Hp.zero,Z5]
  ·exact Zr ST10.out.bel (by omega) _ _ _ _ _ _ _ _ _ _
theorem Qh(w:World)(G:Nat→Prop)(hG: ∀b,G b→b<w.heap.size)(h:Hp)(hh:h.ok)(src:Nat→Value)(hs: ∀j,j<5→Rd w G (.sl ((lsH h j).map vu)) (src j))(v:Int)(hv:U64 v)
  (hr:Za (layH h)=true) (hv0: ¬v=0) (h1:(adr v).2=0) (part:Int) (at_:Nat) (hf:ZB (layH h) (adr v).1=(part,(at_:Int),0)) (hp:part=4)
  (wd:Int) (hwd:(lsH h 3)[at_]? =some wd) (hat:at_< (lsH h 3).length) (hwu:U64 wd) (hgo: ¬(adr wd).2=0) (sz:Nat) (pt er:Int) (hun:unpk wd=((sz:Int),pt,er)) (hsz:sz≤255) (her:er=0) (hle:at_+(sz+1)≤(lsH h 3).length) (hrm:Yo (layH h) < ((sz+1:Nat):Int)):
  Calls Try.prog 39 #[hpA h src,.int .u64 v] w (Yu w (fwd h v)):=by
 have HS:=Lib.hid hs
 have HH:=Lib.hid hh
 clear hs hh
 unfold hpA
 go_enter Try.func39,Try.ntmps39
 subst hp
 go_wp2_with (first
  | (go_at_call 61;go_loud (refine(Yr _ (w4.heap.size+1) w5.heap.size h x ST6.out.now HH.out 3 at_ (by omega) g q3 EP.out (by omega)).mono ?_;rintro e w7 ⟨rfl,hb7⟩;obtain⟨m,hm⟩: ∃m,(lsH h 3).length-at_=m:=⟨_,rfl⟩;obtain⟨qm,hqm⟩: ∃qm,q3-at_=qm:=⟨_,rfl⟩;rw[hm,hqm];have hm0:0<m:=(by omega);have hm0i:(0:Int) < (m:Int):=(by omega);have hat2:at_+0=at_:=rfl;have st7:=ST6.out.below hb7;have hs7:=hb7.size;simp at hs7;have res7:=st7.res;have y7: ∀j,(w7).cell? ⟨w.heap.size+1,j,none⟩=Z5[j]? :=fun j=>cell_of_row _ _ _ _ _ _ res7;unfold Z5 at y7;have f7: ∀j,(w7).frozen? ⟨w.heap.size+1,j,none⟩=false:=fun j=>Zb res7;have nb7:=st7.now.blk;rw[E0.out,E1.out,E2.out,E3.out,E4.out]at nb7;have n7c: ∀j,(w7).cell? ⟨w5.heap.size,j,none⟩=(#[.int .u64 h.base,.int .i64 h.cap,.int .i64 h.to,.bool h.cycle,.int .i64 h.scan,.slice a0 (lsH h 0).length q0,.slice a1 (lsH h 1).length q1,.slice a2 (lsH h 2).length q2,.slice (some ⟨g,0,none⟩) (lsH h 3).length q3,.slice a4 (lsH h 4).length q4]:Array Value)[j]? :=fun j=>cell_of_row _ _ _ _ _ _ nb7;have k7c: ∀j,(w7).cell? ⟨w4.heap.size,j,none⟩=(#[.int .i64 4,.int .i64 (at_:Nat)]:Array Value)[j]? :=fun j=>cell_of_row _ _ _ _ _ _ st7.plc;have m7c: ∀j,(w7).cell? ⟨w1.heap.size,j,none⟩=(#[.int .u64 (layH h).base,.int .i64 (layH h).cap,.int .i64 (layH h).to,.int .i64 (layH h).low,.int .i64 (layH h).high,.int .i64 (layH h).old,.int .i64 (layH h).far]:Array Value)[j]? :=fun j=>cell_of_row _ _ _ _ _ _ st7.lay;have hop7:=st7.now.own.own 3 (by omega);rw[EP.out]at hop7;have c7:=Zi hop7 hwd;clear nb7 hop7;have ST7:=Lib.hid st7;clear hb7 st7))
  | (go_at_call 59;go_loud (have st7:=ST7.out;refine(Zh hwu _).mono ?_;rintro e w8 ⟨rfl,hb8⟩;have st8:=st7.below hb8;have hs8:=hb8.size;have res8:=st8.res;have y8: ∀j,(w8).cell? ⟨w.heap.size+1,j,none⟩=Z5[j]? :=fun j=>cell_of_row _ _ _ _ _ _ res8;unfold Z5 at y8;have f8: ∀j,(w8).frozen? ⟨w.heap.size+1,j,none⟩=false:=fun j=>Zb res8;have nb8:=st8.now.blk;rw[E0.out,E1.out,E2.out,E3.out,E4.out]at nb8;have n8c: ∀j,(w8).cell? ⟨w5.heap.size,j,none⟩=(#[.int .u64 h.base,.int .i64 h.cap,.int .i64 h.to,.bool h.cycle,.int .i64 h.scan,.slice a0 (lsH h 0).length q0,.slice a1 (lsH h 1).length q1,.slice a2 (lsH h 2).length q2,.slice (some ⟨g,0,none⟩) (lsH h 3).length q3,.slice a4 (lsH h 4).length q4]:Array Value)[j]? :=fun j=>cell_of_row _ _ _ _ _ _ nb8;have k8c: ∀j,(w8).cell? ⟨w4.heap.size,j,none⟩=(#[.int .i64 4,.int .i64 (at_:Nat)]:Array Value)[j]? :=fun j=>cell_of_row _ _ _ _ _ _ st8.plc;have m8c: ∀j,(w8).cell? ⟨w1.heap.size,j,none⟩=(#[.int .u64 (layH h).base,.int .i64 (layH h).cap,.int .i64 (layH h).to,.int .i64 (layH h).low,.int .i64 (layH h).high,.int .i64 (layH h).old,.int .i64 (layH h).far]:Array Value)[j]? :=fun j=>cell_of_row _ _ _ _ _ _ st8.lay;have hop8:=st8.now.own.own 3 (by omega);rw[EP.out]at hop8;have c8:=Zi hop8 hwd;clear nb8 hop8;have ST8:=Lib.hid st8;clear hb8 st8 st7))
  | (go_at_call 62;go_loud (refine(ZG hwu _).mono ?_;rintro e w9 ⟨rfl,hb9⟩;rw[hun];dsimp only;have hs9:=hb9.size;have st10:FwSt w (w9.alloc (.cells #[.int .i64 (sz:Nat),.int .i64 pt] 47)) _ _ _ _ _ _ _ h x:=(ST8.out.below hb9).below ((Below.refl _ _).alloc (Nat.le_refl _) _);have res10:=st10.res;have y10: ∀j,((w9.alloc (.cells #[.int .i64 (sz:Nat),.int .i64 pt] 47))).cell? ⟨w.heap.size+1,j,none⟩=Z5[j]? :=fun j=>cell_of_row _ _ _ _ _ _ res10;unfold Z5 at y10;have f10: ∀j,((w9.alloc (.cells #[.int .i64 (sz:Nat),.int .i64 pt] 47))).frozen? ⟨w.heap.size+1,j,none⟩=false:=fun j=>Zb res10;have nb10:=st10.now.blk;rw[E0.out,E1.out,E2.out,E3.out,E4.out]at nb10;have n10c: ∀j,((w9.alloc (.cells #[.int .i64 (sz:Nat),.int .i64 pt] 47))).cell? ⟨w5.heap.size,j,none⟩=(#[.int .u64 h.base,.int .i64 h.cap,.int .i64 h.to,.bool h.cycle,.int .i64 h.scan,.slice a0 (lsH h 0).length q0,.slice a1 (lsH h 1).length q1,.slice a2 (lsH h 2).length q2,.slice (some ⟨g,0,none⟩) (lsH h 3).length q3,.slice a4 (lsH h 4).length q4]:Array Value)[j]? :=fun j=>cell_of_row _ _ _ _ _ _ nb10;have k10c: ∀j,((w9.alloc (.cells #[.int .i64 (sz:Nat),.int .i64 pt] 47))).cell? ⟨w4.heap.size,j,none⟩=(#[.int .i64 4,.int .i64 (at_:Nat)]:Array Value)[j]? :=fun j=>cell_of_row _ _ _ _ _ _ st10.plc;have m10c: ∀j,((w9.alloc (.cells #[.int .i64 (sz:Nat),.int .i64 pt] 47))).cell? ⟨w1.heap.size,j,none⟩=(#[.int .u64 (layH h).base,.int .i64 (layH h).cap,.int .i64 (layH h).to,.int .i64 (layH h).low,.int .i64 (layH h).high,.int .i64 (layH h).old,.int .i64 (layH h).far]:Array Value)[j]? :=fun j=>cell_of_row _ _ _ _ _ _ st10.lay;have hop10:=st10.now.own.own 3 (by omega);rw[EP.out]at hop10;have c10:=Zi hop10 hwd;clear nb10 hop10;have s10c: ∀j,(w9.alloc (.cells #[.int .i64 (sz:Nat),.int .i64 pt] 47)).cell? ⟨w9.heap.size,j,none⟩=(#[.int .i64 (sz:Nat),.int .i64 pt]:Array Value)[j]? :=fun j=>cell_of_row _ _ _ _ _ _ (heap_alloc_new w9 _);have ST10:=Lib.hid st10;have hml:m≤1000000:=(by have:=YJ HH.out 3;omega);have hl10:at_+m=(lsH h 3).length:=(by omega);clear hb9 st10))
  | (go_at_call 51;go_loud (refine(Zm (h:=h) (x:=src) (G:=G) (fun c hc=>by have:=hG c hc;simp;omega) (fun j hj=>(HS.out j hj).keep (fun b hb=>by have:=hG b hb;rw[Below.heap_alloc _ _ _ (by simp;omega),Below.heap_alloc _ _ _ (by omega)]) (fun _ h=>h))).mono ?_;rintro e w1 ⟨rfl,hb1⟩;unfold lyA;have z1:=(hb1.block (w.heap.size+1) (by simp)).trans (Y2 w _);have p1:=(hb1.block w.heap.size (by simp;omega)).trans ((Below.heap_alloc (w.alloc (.cells #[.int .u64 h.base,.int .i64 h.cap,.int .i64 h.to,.bool h.cycle,.int .i64 h.scan,src 0,src 1,src 2,src 3,src 4] 25)) _ w.heap.size (by simp)).trans (heap_alloc_new w _));have hs1:=hb1.size;simp at hs1;have HB1:=Lib.hid hb1;clear hb1))
  | (go_at_call 43;go_loud (refine(Zq HH.out.lay _).mono ?_;rintro e w2 ⟨rfl,hb2⟩;rw[hr];have z2:=(hb2.block (w.heap.size+1) (by simp;omega)).trans ((Below.heap_alloc w1 _ (w.heap.size+1) (by omega)).trans z1);have p2:=(hb2.block w.heap.size (by simp;omega)).trans ((Below.heap_alloc w1 _ w.heap.size (by omega)).trans p1);have x2: ∀j,w2.cell? ⟨w.heap.size,j,none⟩=(#[.int .u64 h.base,.int .i64 h.cap,.int .i64 h.to,.bool h.cycle,.int .i64 h.scan,src 0,src 1,src 2,src 3,src 4]:Array Value)[j]? :=fun j=>cell_of_row _ _ _ _ _ _ p2;have hb02:Below w.heap.size w w2:=((((((Below.refl _ _).alloc (Nat.le_refl _) _).alloc (by simp) _).trans (HB1.out.mono (by simp;omega))).alloc (by omega) _).trans (hb2.mono (by simp;omega)));have hs2:=hb2.size;simp at hs2;have m2:=(hb2.block w1.heap.size (by simp)).trans (heap_alloc_new w1 _);have HB02:=Lib.hid hb02;clear hb2 hb02))
  | (go_at_call 59;go_loud (refine(Zh hv _).mono ?_;rintro e w3 ⟨rfl,hb3⟩;have z3:=(hb3.block (w.heap.size+1) (by omega)).trans z2;have p3:=(hb3.block w.heap.size (by omega)).trans p2;have m3:=(hb3.block w1.heap.size (by omega)).trans m2;have l3: ∀j,w3.cell? ⟨w1.heap.size,j,none⟩=(#[.int .u64 (layH h).base,.int .i64 (layH h).cap,.int .i64 (layH h).to,.int .i64 (layH h).low,.int .i64 (layH h).high,.int .i64 (layH h).old,.int .i64 (layH h).far]:Array Value)[j]? :=fun j=>cell_of_row _ _ _ _ _ _ m3;have hs3:=hb3.size;have HB3:=Lib.hid hb3;clear hb3))
  | (go_at_call 60;go_loud (refine(ZH HH.out.lay (Uc hv) _).mono ?_;rintro e w4 ⟨rfl,hb4⟩;rw[hf];dsimp only;have hs4:=hb4.size;have z4: ∀o,(w4.alloc o).heap[w.heap.size+1]? =some (.cells Z5 25 (0,0)):=fun o=>(Below.heap_alloc w4 o (w.heap.size+1) (by omega)).trans ((hb4.block (w.heap.size+1) (by omega)).trans z3);have p4: ∀o,(w4.alloc o).heap[w.heap.size]? =some (.cells #[.int .u64 h.base,.int .i64 h.cap,.int .i64 h.to,.bool h.cycle,.int .i64 h.scan,src 0,src 1,src 2,src 3,src 4] 25 (0,0)):=fun o=>(Below.heap_alloc w4 o w.heap.size (by omega)).trans ((hb4.block w.heap.size (by omega)).trans p3);have x4: ∀o j,(w4.alloc o).cell? ⟨w.heap.size,j,none⟩=(#[.int .u64 h.base,.int .i64 h.cap,.int .i64 h.to,.bool h.cycle,.int .i64 h.scan,src 0,src 1,src 2,src 3,src 4]:Array Value)[j]? :=fun o j=>cell_of_row _ _ _ _ _ _ (p4 o);have hb04: ∀o,Below w.heap.size w (w4.alloc o):=fun o=>((HB02.out.trans (HB3.out.mono (by omega))).trans (hb4.mono (by omega))).alloc (by omega) o;have m4: ∀o,(w4.alloc o).heap[w1.heap.size]? =some (.cells #[.int .u64 (layH h).base,.int .i64 (layH h).cap,.int .i64 (layH h).to,.int .i64 (layH h).low,.int .i64 (layH h).high,.int .i64 (layH h).old,.int .i64 (layH h).far] 53 (0,0)):=fun o=>(Below.heap_alloc w4 o w1.heap.size (by omega)).trans ((hb4.block w1.heap.size (by omega)).trans m3);have k4:=heap_alloc_new w4 (.cells #[.int .i64 4,.int .i64 (at_:Nat)] 91);have HB04:=Lib.hid hb04;clear hb4 hb04 z3 p3 m3 l3 z2 p2 x2 m2))
  | (go_at_call 48;go_loud (refine(Yk _ G (fun b hb=>by have:=hG b hb;simp;omega) h HH.out src (fun j hj=>(HS.out j hj).keep (fun b hb=>(HB04.out _).block b (hG b hb)) (fun _ h=>h))).mono ?_;rintro e w5 ⟨x,rfl,hb5,ho5⟩;obtain⟨a0,q0,e0⟩:=Z1 (ho5.own 0 (by omega));obtain⟨a1,q1,e1⟩:=Z1 (ho5.own 1 (by omega));obtain⟨a2,q2,e2⟩:=Z1 (ho5.own 2 (by omega));obtain⟨a3,q3,e3⟩:=Z1 (ho5.own 3 (by omega));obtain⟨a4,q4,e4⟩:=Z1 (ho5.own 4 (by omega));obtain⟨g,hg⟩:=YF (ho5.own 3 (by omega)) e3 (by omega);subst hg;unfold hpA;rw[e0,e1,e2,e3,e4];have hs5:=hb5.size;simp at hs5;have hsz4: ∀o,(w4.alloc o).heap.size=w4.heap.size+1:=fun o=>(by simp);rw[hsz4]at ho5;have hN:=ZW ho5 (by omega);unfold Uo at hN;rw[e0,e1,e2,e3,e4]at hN;have hb05: ∀o,Below w.heap.size w (w5.alloc o):=fun o=>((HB04.out _).trans (hb5.mono (by simp;omega))).alloc (by omega) o;have z6: ∀o,(w5.alloc o).heap[w.heap.size+1]? =some (.cells Z5 25 (0,0)):=fun o=>(Below.heap_alloc w5 o (w.heap.size+1) (by omega)).trans ((hb5.block (w.heap.size+1) (by simp;omega)).trans (z4 _));have k6: ∀o,(w5.alloc o).heap[w4.heap.size]? =some (.cells #[.int .i64 4,.int .i64 (at_:Nat)] 91 (0,0)):=fun o=>(Below.heap_alloc w5 o w4.heap.size (by omega)).trans ((hb5.block w4.heap.size (by simp)).trans k4);have m6: ∀o,(w5.alloc o).heap[w1.heap.size]? =some (.cells #[.int .u64 (layH h).base,.int .i64 (layH h).cap,.int .i64 (layH h).to,.int .i64 (layH h).low,.int .i64 (layH h).high,.int .i64 (layH h).old,.int .i64 (layH h).far] 53 (0,0)):=fun o=>(Below.heap_alloc w5 o w1.heap.size (by omega)).trans ((hb5.block w1.heap.size (by simp;omega)).trans (m4 _));have k6c: ∀o j,(w5.alloc o).cell? ⟨w4.heap.size,j,none⟩=(#[.int .i64 4,.int .i64 (at_:Nat)]:Array Value)[j]? :=fun o j=>cell_of_row _ _ _ _ _ _ (k6 o);have m6c: ∀o j,(w5.alloc o).cell? ⟨w1.heap.size,j,none⟩=(#[.int .u64 (layH h).base,.int .i64 (layH h).cap,.int .i64 (layH h).to,.int .i64 (layH h).low,.int .i64 (layH h).high,.int .i64 (layH h).old,.int .i64 (layH h).far]:Array Value)[j]? :=fun o j=>cell_of_row _ _ _ _ _ _ (m6 o);have nb:=hN.blk;rw[e0,e1,e2,e3,e4]at nb;have n6c: ∀j,(w5.alloc (.cells #[.int .u64 h.base,.int .i64 h.cap,.int .i64 h.to,.bool h.cycle,.int .i64 h.scan,.slice a0 (lsH h 0).length q0,.slice a1 (lsH h 1).length q1,.slice a2 (lsH h 2).length q2,.slice (some ⟨g,0,none⟩) (lsH h 3).length q3,.slice a4 (lsH h 4).length q4] 113)).cell? ⟨w5.heap.size,j,none⟩=(#[.int .u64 h.base,.int .i64 h.cap,.int .i64 h.to,.bool h.cycle,.int .i64 h.scan,.slice a0 (lsH h 0).length q0,.slice a1 (lsH h 1).length q1,.slice a2 (lsH h 2).length q2,.slice (some ⟨g,0,none⟩) (lsH h 3).length q3,.slice a4 (lsH h 4).length q4]:Array Value)[j]? :=fun j=>cell_of_row _ _ _ _ _ _ nb;have y6: ∀o j,(w5.alloc o).cell? ⟨w.heap.size+1,j,none⟩=Z5[j]? :=fun o j=>cell_of_row _ _ _ _ _ _ (z6 o);have f6: ∀o j,(w5.alloc o).frozen? ⟨w.heap.size+1,j,none⟩=false:=fun o j=>Zb (z6 o);unfold Z5 at y6;have st6:FwSt w (w5.alloc (.cells #[.int .u64 h.base,.int .i64 h.cap,.int .i64 h.to,.bool h.cycle,.int .i64 h.scan,.slice a0 (lsH h 0).length q0,.slice a1 (lsH h 1).length q1,.slice a2 (lsH h 2).length q2,.slice (some ⟨g,0,none⟩) (lsH h 3).length q3,.slice a4 (lsH h 4).length q4] 113)) (w.heap.size+1) w1.heap.size w4.heap.size w5.heap.size (w4.heap.size+1) 4 (at_:Nat) h x:=⟨z6 _,m6 _,k6 _,hN,hb05 _,by omega,by omega,by omega,by omega,by simp;omega⟩;have ST6:=Lib.hid st6;have EP:=Lib.hid e3;clear st6;have HB05:=Lib.hid hb05;have HN:=Lib.hid hN;have E0:=Lib.hid e0;have E1:=Lib.hid e1;have E2:=Lib.hid e2;have E3:=Lib.hid e3;have E4:=Lib.hid e4;clear hb05 hN nb e0 e1 e2 e3 e4 ho5 hb5 z4 p4 x4 m4 k4)))
 obtain⟨sm,hsm⟩: ∃sm:Nat,sz+1=sm:=⟨_,rfl⟩
 have hwr:IntKind.i64.wrap ((sz:Int)+1)=(sm:Int):=by rw[Z2 ((sz:Int)+1) (by omega) (by omega)];omega
 have hrm2:Yo (layH h) < (sm:Int):=by omega
 have HSM:=Lib.hid hsm
 have HRM:=Lib.hid hrm
 have HLE:=Lib.hid hle
 clear hsm hrm hle
 have hbs:w9.heap.size< ((w9.alloc (.cells #[.int .i64 (sz:Nat),.int .i64 pt] 47))).heap.size:=by simp
 clear m7c m8c k10c k7c k8c y7 y8 f7 f8 n7c n8c c7 c8
 generalize (w9.alloc (.cells #[.int .i64 (sz:Nat),.int .i64 pt] 47))=w10 at*
 have S10:(fun w'=>w'.cell? ⟨w1.heap.size,0,none⟩=some (.int .u64 (layH h).base)∧w'.cell? ⟨w1.heap.size,1,none⟩=some (.int .i64 (layH h).cap)∧w'.cell? ⟨w1.heap.size,2,none⟩=some (.int .i64 (layH h).to)∧w'.cell? ⟨w1.heap.size,3,none⟩=some (.int .i64 (layH h).low)∧w'.cell? ⟨w1.heap.size,4,none⟩=some (.int .i64 (layH h).high)∧w'.cell? ⟨w1.heap.size,5,none⟩=some (.int .i64 (layH h).old)∧w'.cell? ⟨w1.heap.size,6,none⟩=some (.int .i64 (layH h).far)∧w'.cell? ⟨w9.heap.size,0,none⟩=some (.int .i64 (sz:Nat))∧FwSt w w' (w.heap.size+1) w1.heap.size w4.heap.size w5.heap.size (w4.heap.size+1) 4 (at_:Nat) h x∧w9.heap.size<w'.heap.size) w10.drew:=⟨m10c 0,m10c 1,m10c 2,m10c 3,m10c 4,m10c 5,m10c 6,s10c 0,ST10.out.drew,hbs⟩
 have SBel: ∀(u u':World),(fun w'=>w'.cell? ⟨w1.heap.size,0,none⟩=some (.int .u64 (layH h).base)∧w'.cell? ⟨w1.heap.size,1,none⟩=some (.int .i64 (layH h).cap)∧w'.cell? ⟨w1.heap.size,2,none⟩=some (.int .i64 (layH h).to)∧w'.cell? ⟨w1.heap.size,3,none⟩=some (.int .i64 (layH h).low)∧w'.cell? ⟨w1.heap.size,4,none⟩=some (.int .i64 (layH h).high)∧w'.cell? ⟨w1.heap.size,5,none⟩=some (.int .i64 (layH h).old)∧w'.cell? ⟨w1.heap.size,6,none⟩=some (.int .i64 (layH h).far)∧w'.cell? ⟨w9.heap.size,0,none⟩=some (.int .i64 (sz:Nat))∧FwSt w w' (w.heap.size+1) w1.heap.size w4.heap.size w5.heap.size (w4.heap.size+1) 4 (at_:Nat) h x∧w9.heap.size<w'.heap.size) u→Below u.heap.size u u'→(fun w'=>w'.cell? ⟨w1.heap.size,0,none⟩=some (.int .u64 (layH h).base)∧w'.cell? ⟨w1.heap.size,1,none⟩=some (.int .i64 (layH h).cap)∧w'.cell? ⟨w1.heap.size,2,none⟩=some (.int .i64 (layH h).to)∧w'.cell? ⟨w1.heap.size,3,none⟩=some (.int .i64 (layH h).low)∧w'.cell? ⟨w1.heap.size,4,none⟩=some (.int .i64 (layH h).high)∧w'.cell? ⟨w1.heap.size,5,none⟩=some (.int .i64 (layH h).old)∧w'.cell? ⟨w1.heap.size,6,none⟩=some (.int .i64 (layH h).far)∧w'.cell? ⟨w9.heap.size,0,none⟩=some (.int .i64 (sz:Nat))∧FwSt w w' (w.heap.size+1) w1.heap.size w4.heap.size w5.heap.size (w4.heap.size+1) 4 (at_:Nat) h x∧w9.heap.size<w'.heap.size) u':=by
  rintro u u' ⟨c0,c1,c2,c3,c4,c5,c6,c7,st,hs⟩ hb
  have hl:=st.lbB
  have hz:=st.sz
  exact⟨(hb.cell (by show w1.heap.size<u.heap.size;omega)).trans c0,(hb.cell (by show w1.heap.size<u.heap.size;omega)).trans c1,(hb.cell (by show w1.heap.size<u.heap.size;omega)).trans c2,(hb.cell (by show w1.heap.size<u.heap.size;omega)).trans c3,(hb.cell (by show w1.heap.size<u.heap.size;omega)).trans c4,(hb.cell (by show w1.heap.size<u.heap.size;omega)).trans c5,(hb.cell (by show w1.heap.size<u.heap.size;omega)).trans c6,(hb.cell hs).trans c7,st.below hb,by have:=hb.size;omega⟩
 go_region_held3 (fun w'=>w'.cell? ⟨w1.heap.size,0,none⟩=some (.int .u64 (layH h).base)∧w'.cell? ⟨w1.heap.size,1,none⟩=some (.int .i64 (layH h).cap)∧w'.cell? ⟨w1.heap.size,2,none⟩=some (.int .i64 (layH h).to)∧w'.cell? ⟨w1.heap.size,3,none⟩=some (.int .i64 (layH h).low)∧w'.cell? ⟨w1.heap.size,4,none⟩=some (.int .i64 (layH h).high)∧w'.cell? ⟨w1.heap.size,5,none⟩=some (.int .i64 (layH h).old)∧w'.cell? ⟨w1.heap.size,6,none⟩=some (.int .i64 (layH h).far)∧w'.cell? ⟨w9.heap.size,0,none⟩=some (.int .i64 (sz:Nat))∧FwSt w w' (w.heap.size+1) w1.heap.size w4.heap.size w5.heap.size (w4.heap.size+1) 4 (at_:Nat) h x∧w9.heap.size<w'.heap.size) (first|exact S10|assumption)
  (first| (go_at_call 24;refine(Wk HH.out.lay _).mono ?_;rintro e w11 ⟨rfl,hb11⟩;have S11:=SBel _ _ S10 hb11))
 obtain⟨-,-,-,-,-,-,-,c11,st11,hs11⟩:=S11
 clear S10 SBel s10c y10 f10 n10c m10c hb11 hbs
 rename_i hHeld
 clear hHeld
 have res11:=st11.res
 have y11: ∀j,(w11).cell? ⟨w.heap.size+1,j,none⟩=Z5[j]? :=fun j=>cell_of_row _ _ _ _ _ _ res11
 unfold Z5 at y11
 have f11: ∀j,(w11).frozen? ⟨w.heap.size+1,j,none⟩=false:=fun j=>Zb res11
 have nb11:=st11.now.blk
 rw[E0.out,E1.out,E2.out,E3.out,E4.out]at nb11
 have n11c: ∀j,(w11).cell? ⟨w5.heap.size,j,none⟩=(#[.int .u64 h.base,.int .i64 h.cap,.int .i64 h.to,.bool h.cycle,.int .i64 h.scan,.slice a0 (lsH h 0).length q0,.slice a1 (lsH h 1).length q1,.slice a2 (lsH h 2).length q2,.slice (some ⟨g,0,none⟩) (lsH h 3).length q3,.slice a4 (lsH h 4).length q4]:Array Value)[j]? :=fun j=>cell_of_row _ _ _ _ _ _ nb11
 have k11c: ∀j,(w11).cell? ⟨w4.heap.size,j,none⟩=(#[.int .i64 4,.int .i64 (at_:Nat)]:Array Value)[j]? :=fun j=>cell_of_row _ _ _ _ _ _ st11.plc
 have m11c: ∀j,(w11).cell? ⟨w1.heap.size,j,none⟩=(#[.int .u64 (layH h).base,.int .i64 (layH h).cap,.int .i64 (layH h).to,.int .i64 (layH h).low,.int .i64 (layH h).high,.int .i64 (layH h).old,.int .i64 (layH h).far]:Array Value)[j]? :=fun j=>cell_of_row _ _ _ _ _ _ st11.lay
 have hop11:=st11.now.own.own 3 (by omega)
 rw[EP.out]at hop11
 have cw11:=Zi hop11 hwd
 clear nb11 hop11 hm hqm hat2
 have ST11:=Lib.hid st11
 clear st11
 go_wp2
 have hrmz:Yo (layH h) < (sz:Int)+1:=by have:=HSM.out;omega
 have hpH:h.far.getD at_ 0=wd:=by show(lsH h 3).getD at_ 0=wd;simp[List.getD,hwd]
 have hpL:h.far.length=(lsH h 3).length:=rfl
 have hfw:fwd h v=(0,Hp.zero,7):=by simp[fwd,fwdC,hr,hv0,h1,hf,-List.getD_eq_getElem?_getD,hpH,hpL,hgo,hun,her,Nat.not_lt.2 HLE.out,hrmz]
 have y:=Zv ST11.out.res (.int .u64 0) (.int .i64 0) (.int .i64 0) (.bool false) (.int .i64 0) (.slice none 0 0) (.slice none 0 0) (.slice none 0 0) (.slice none 0 0) (.slice none 0 0)
 rw[hfw]
 refine bodyPost_ret (v:= .tuple #[.int .u64 0,.agg Z5,.int .i64 7]) ?_ rfl ?_
 ·simp[results,Try.results39,go_sem,y,Z5]
 ·refine⟨fun _=> .slice none 0 0,?_,?_,X9 _ _⟩
  ·simp[hpA,Hp.zero,Z5]
  ·exact Zr ST11.out.bel (by omega) _ _ _ _ _ _ _ _ _ _
theorem Sv(w:World)(G:Nat→Prop)(hG: ∀b,G b→b<w.heap.size)(h:Hp)(hh:h.ok)(src:Nat→Value)(hs: ∀j,j<5→Rd w G (.sl ((lsH h j).map vu)) (src j))(v:Int)(hv:U64 v)
  (hr:Za (layH h)=true) (hv0: ¬v=0) (h1:(adr v).2=0) (part:Int) (at_:Nat) (hf:ZB (layH h) (adr v).1=(part,(at_:Int),0)) (hp:part=4)
  (wd:Int) (hwd:(lsH h 3)[at_]? =some wd) (hat:at_< (lsH h 3).length) (hwu:U64 wd) (hgo: ¬(adr wd).2=0) (sz:Nat) (pt er:Int) (hun:unpk wd=((sz:Int),pt,er)) (hsz:sz≤255) (her:er=0) (hle:at_+(sz+1)≤(lsH h 3).length) (hrm: ¬Yo (layH h) < ((sz+1:Nat):Int)):
  Calls Try.prog 39 #[hpA h src,.int .u64 v] w (Yu w (fwd h v)):=by
 have HS:=Lib.hid hs
 have HH:=Lib.hid hh
 clear hs hh
 unfold hpA
 go_enter Try.func39,Try.ntmps39
 subst hp
 go_wp2_with (first
  | (go_at_call 61;go_loud (refine(Yr _ (w4.heap.size+1) w5.heap.size h x ST6.out.now HH.out 3 at_ (by omega) g q3 EP.out (by omega)).mono ?_;rintro e w7 ⟨rfl,hb7⟩;obtain⟨m,hm⟩: ∃m,(lsH h 3).length-at_=m:=⟨_,rfl⟩;obtain⟨qm,hqm⟩: ∃qm,q3-at_=qm:=⟨_,rfl⟩;rw[hm,hqm];have hm0:0<m:=(by omega);have hm0i:(0:Int) < (m:Int):=(by omega);have hat2:at_+0=at_:=rfl;have st7:=ST6.out.below hb7;have hs7:=hb7.size;simp at hs7;have res7:=st7.res;have y7: ∀j,(w7).cell? ⟨w.heap.size+1,j,none⟩=Z5[j]? :=fun j=>cell_of_row _ _ _ _ _ _ res7;unfold Z5 at y7;have f7: ∀j,(w7).frozen? ⟨w.heap.size+1,j,none⟩=false:=fun j=>Zb res7;have nb7:=st7.now.blk;rw[E0.out,E1.out,E2.out,E3.out,E4.out]at nb7;have n7c: ∀j,(w7).cell? ⟨w5.heap.size,j,none⟩=(#[.int .u64 h.base,.int .i64 h.cap,.int .i64 h.to,.bool h.cycle,.int .i64 h.scan,.slice a0 (lsH h 0).length q0,.slice a1 (lsH h 1).length q1,.slice a2 (lsH h 2).length q2,.slice (some ⟨g,0,none⟩) (lsH h 3).length q3,.slice a4 (lsH h 4).length q4]:Array Value)[j]? :=fun j=>cell_of_row _ _ _ _ _ _ nb7;have k7c: ∀j,(w7).cell? ⟨w4.heap.size,j,none⟩=(#[.int .i64 4,.int .i64 (at_:Nat)]:Array Value)[j]? :=fun j=>cell_of_row _ _ _ _ _ _ st7.plc;have m7c: ∀j,(w7).cell? ⟨w1.heap.size,j,none⟩=(#[.int .u64 (layH h).base,.int .i64 (layH h).cap,.int .i64 (layH h).to,.int .i64 (layH h).low,.int .i64 (layH h).high,.int .i64 (layH h).old,.int .i64 (layH h).far]:Array Value)[j]? :=fun j=>cell_of_row _ _ _ _ _ _ st7.lay;have hop7:=st7.now.own.own 3 (by omega);rw[EP.out]at hop7;have c7:=Zi hop7 hwd;clear nb7 hop7;have ST7:=Lib.hid st7;clear hb7 st7))
  | (go_at_call 59;go_loud (have st7:=ST7.out;refine(Zh hwu _).mono ?_;rintro e w8 ⟨rfl,hb8⟩;have st8:=st7.below hb8;have hs8:=hb8.size;have res8:=st8.res;have y8: ∀j,(w8).cell? ⟨w.heap.size+1,j,none⟩=Z5[j]? :=fun j=>cell_of_row _ _ _ _ _ _ res8;unfold Z5 at y8;have f8: ∀j,(w8).frozen? ⟨w.heap.size+1,j,none⟩=false:=fun j=>Zb res8;have nb8:=st8.now.blk;rw[E0.out,E1.out,E2.out,E3.out,E4.out]at nb8;have n8c: ∀j,(w8).cell? ⟨w5.heap.size,j,none⟩=(#[.int .u64 h.base,.int .i64 h.cap,.int .i64 h.to,.bool h.cycle,.int .i64 h.scan,.slice a0 (lsH h 0).length q0,.slice a1 (lsH h 1).length q1,.slice a2 (lsH h 2).length q2,.slice (some ⟨g,0,none⟩) (lsH h 3).length q3,.slice a4 (lsH h 4).length q4]:Array Value)[j]? :=fun j=>cell_of_row _ _ _ _ _ _ nb8;have k8c: ∀j,(w8).cell? ⟨w4.heap.size,j,none⟩=(#[.int .i64 4,.int .i64 (at_:Nat)]:Array Value)[j]? :=fun j=>cell_of_row _ _ _ _ _ _ st8.plc;have m8c: ∀j,(w8).cell? ⟨w1.heap.size,j,none⟩=(#[.int .u64 (layH h).base,.int .i64 (layH h).cap,.int .i64 (layH h).to,.int .i64 (layH h).low,.int .i64 (layH h).high,.int .i64 (layH h).old,.int .i64 (layH h).far]:Array Value)[j]? :=fun j=>cell_of_row _ _ _ _ _ _ st8.lay;have hop8:=st8.now.own.own 3 (by omega);rw[EP.out]at hop8;have c8:=Zi hop8 hwd;clear nb8 hop8;have ST8:=Lib.hid st8;clear hb8 st8 st7))
  | (go_at_call 62;go_loud (refine(ZG hwu _).mono ?_;rintro e w9 ⟨rfl,hb9⟩;rw[hun];dsimp only;have hs9:=hb9.size;have st10:FwSt w (w9.alloc (.cells #[.int .i64 (sz:Nat),.int .i64 pt] 47)) _ _ _ _ _ _ _ h x:=(ST8.out.below hb9).below ((Below.refl _ _).alloc (Nat.le_refl _) _);have res10:=st10.res;have y10: ∀j,((w9.alloc (.cells #[.int .i64 (sz:Nat),.int .i64 pt] 47))).cell? ⟨w.heap.size+1,j,none⟩=Z5[j]? :=fun j=>cell_of_row _ _ _ _ _ _ res10;unfold Z5 at y10;have f10: ∀j,((w9.alloc (.cells #[.int .i64 (sz:Nat),.int .i64 pt] 47))).frozen? ⟨w.heap.size+1,j,none⟩=false:=fun j=>Zb res10;have nb10:=st10.now.blk;rw[E0.out,E1.out,E2.out,E3.out,E4.out]at nb10;have n10c: ∀j,((w9.alloc (.cells #[.int .i64 (sz:Nat),.int .i64 pt] 47))).cell? ⟨w5.heap.size,j,none⟩=(#[.int .u64 h.base,.int .i64 h.cap,.int .i64 h.to,.bool h.cycle,.int .i64 h.scan,.slice a0 (lsH h 0).length q0,.slice a1 (lsH h 1).length q1,.slice a2 (lsH h 2).length q2,.slice (some ⟨g,0,none⟩) (lsH h 3).length q3,.slice a4 (lsH h 4).length q4]:Array Value)[j]? :=fun j=>cell_of_row _ _ _ _ _ _ nb10;have k10c: ∀j,((w9.alloc (.cells #[.int .i64 (sz:Nat),.int .i64 pt] 47))).cell? ⟨w4.heap.size,j,none⟩=(#[.int .i64 4,.int .i64 (at_:Nat)]:Array Value)[j]? :=fun j=>cell_of_row _ _ _ _ _ _ st10.plc;have m10c: ∀j,((w9.alloc (.cells #[.int .i64 (sz:Nat),.int .i64 pt] 47))).cell? ⟨w1.heap.size,j,none⟩=(#[.int .u64 (layH h).base,.int .i64 (layH h).cap,.int .i64 (layH h).to,.int .i64 (layH h).low,.int .i64 (layH h).high,.int .i64 (layH h).old,.int .i64 (layH h).far]:Array Value)[j]? :=fun j=>cell_of_row _ _ _ _ _ _ st10.lay;have hop10:=st10.now.own.own 3 (by omega);rw[EP.out]at hop10;have c10:=Zi hop10 hwd;clear nb10 hop10;have s10c: ∀j,(w9.alloc (.cells #[.int .i64 (sz:Nat),.int .i64 pt] 47)).cell? ⟨w9.heap.size,j,none⟩=(#[.int .i64 (sz:Nat),.int .i64 pt]:Array Value)[j]? :=fun j=>cell_of_row _ _ _ _ _ _ (heap_alloc_new w9 _);have ST10:=Lib.hid st10;have hml:m≤1000000:=(by have:=YJ HH.out 3;omega);have hl10:at_+m=(lsH h 3).length:=(by omega);clear hb9 st10))
  | (go_at_call 51;go_loud (refine(Zm (h:=h) (x:=src) (G:=G) (fun c hc=>by have:=hG c hc;simp;omega) (fun j hj=>(HS.out j hj).keep (fun b hb=>by have:=hG b hb;rw[Below.heap_alloc _ _ _ (by simp;omega),Below.heap_alloc _ _ _ (by omega)]) (fun _ h=>h))).mono ?_;rintro e w1 ⟨rfl,hb1⟩;unfold lyA;have z1:=(hb1.block (w.heap.size+1) (by simp)).trans (Y2 w _);have p1:=(hb1.block w.heap.size (by simp;omega)).trans ((Below.heap_alloc (w.alloc (.cells #[.int .u64 h.base,.int .i64 h.cap,.int .i64 h.to,.bool h.cycle,.int .i64 h.scan,src 0,src 1,src 2,src 3,src 4] 25)) _ w.heap.size (by simp)).trans (heap_alloc_new w _));have hs1:=hb1.size;simp at hs1;have HB1:=Lib.hid hb1;clear hb1))
  | (go_at_call 43;go_loud (refine(Zq HH.out.lay _).mono ?_;rintro e w2 ⟨rfl,hb2⟩;rw[hr];have z2:=(hb2.block (w.heap.size+1) (by simp;omega)).trans ((Below.heap_alloc w1 _ (w.heap.size+1) (by omega)).trans z1);have p2:=(hb2.block w.heap.size (by simp;omega)).trans ((Below.heap_alloc w1 _ w.heap.size (by omega)).trans p1);have x2: ∀j,w2.cell? ⟨w.heap.size,j,none⟩=(#[.int .u64 h.base,.int .i64 h.cap,.int .i64 h.to,.bool h.cycle,.int .i64 h.scan,src 0,src 1,src 2,src 3,src 4]:Array Value)[j]? :=fun j=>cell_of_row _ _ _ _ _ _ p2;have hb02:Below w.heap.size w w2:=((((((Below.refl _ _).alloc (Nat.le_refl _) _).alloc (by simp) _).trans (HB1.out.mono (by simp;omega))).alloc (by omega) _).trans (hb2.mono (by simp;omega)));have hs2:=hb2.size;simp at hs2;have m2:=(hb2.block w1.heap.size (by simp)).trans (heap_alloc_new w1 _);have HB02:=Lib.hid hb02;clear hb2 hb02))
  | (go_at_call 59;go_loud (refine(Zh hv _).mono ?_;rintro e w3 ⟨rfl,hb3⟩;have z3:=(hb3.block (w.heap.size+1) (by omega)).trans z2;have p3:=(hb3.block w.heap.size (by omega)).trans p2;have m3:=(hb3.block w1.heap.size (by omega)).trans m2;have l3: ∀j,w3.cell? ⟨w1.heap.size,j,none⟩=(#[.int .u64 (layH h).base,.int .i64 (layH h).cap,.int .i64 (layH h).to,.int .i64 (layH h).low,.int .i64 (layH h).high,.int .i64 (layH h).old,.int .i64 (layH h).far]:Array Value)[j]? :=fun j=>cell_of_row _ _ _ _ _ _ m3;have hs3:=hb3.size;have HB3:=Lib.hid hb3;clear hb3))
  | (go_at_call 60;go_loud (refine(ZH HH.out.lay (Uc hv) _).mono ?_;rintro e w4 ⟨rfl,hb4⟩;rw[hf];dsimp only;have hs4:=hb4.size;have z4: ∀o,(w4.alloc o).heap[w.heap.size+1]? =some (.cells Z5 25 (0,0)):=fun o=>(Below.heap_alloc w4 o (w.heap.size+1) (by omega)).trans ((hb4.block (w.heap.size+1) (by omega)).trans z3);have p4: ∀o,(w4.alloc o).heap[w.heap.size]? =some (.cells #[.int .u64 h.base,.int .i64 h.cap,.int .i64 h.to,.bool h.cycle,.int .i64 h.scan,src 0,src 1,src 2,src 3,src 4] 25 (0,0)):=fun o=>(Below.heap_alloc w4 o w.heap.size (by omega)).trans ((hb4.block w.heap.size (by omega)).trans p3);have x4: ∀o j,(w4.alloc o).cell? ⟨w.heap.size,j,none⟩=(#[.int .u64 h.base,.int .i64 h.cap,.int .i64 h.to,.bool h.cycle,.int .i64 h.scan,src 0,src 1,src 2,src 3,src 4]:Array Value)[j]? :=fun o j=>cell_of_row _ _ _ _ _ _ (p4 o);have hb04: ∀o,Below w.heap.size w (w4.alloc o):=fun o=>((HB02.out.trans (HB3.out.mono (by omega))).trans (hb4.mono (by omega))).alloc (by omega) o;have m4: ∀o,(w4.alloc o).heap[w1.heap.size]? =some (.cells #[.int .u64 (layH h).base,.int .i64 (layH h).cap,.int .i64 (layH h).to,.int .i64 (layH h).low,.int .i64 (layH h).high,.int .i64 (layH h).old,.int .i64 (layH h).far] 53 (0,0)):=fun o=>(Below.heap_alloc w4 o w1.heap.size (by omega)).trans ((hb4.block w1.heap.size (by omega)).trans m3);have k4:=heap_alloc_new w4 (.cells #[.int .i64 4,.int .i64 (at_:Nat)] 91);have HB04:=Lib.hid hb04;clear hb4 hb04 z3 p3 m3 l3 z2 p2 x2 m2))
  | (go_at_call 48;go_loud (refine(Yk _ G (fun b hb=>by have:=hG b hb;simp;omega) h HH.out src (fun j hj=>(HS.out j hj).keep (fun b hb=>(HB04.out _).block b (hG b hb)) (fun _ h=>h))).mono ?_;rintro e w5 ⟨x,rfl,hb5,ho5⟩;obtain⟨a0,q0,e0⟩:=Z1 (ho5.own 0 (by omega));obtain⟨a1,q1,e1⟩:=Z1 (ho5.own 1 (by omega));obtain⟨a2,q2,e2⟩:=Z1 (ho5.own 2 (by omega));obtain⟨a3,q3,e3⟩:=Z1 (ho5.own 3 (by omega));obtain⟨a4,q4,e4⟩:=Z1 (ho5.own 4 (by omega));obtain⟨g,hg⟩:=YF (ho5.own 3 (by omega)) e3 (by omega);subst hg;unfold hpA;rw[e0,e1,e2,e3,e4];have hs5:=hb5.size;simp at hs5;have hsz4: ∀o,(w4.alloc o).heap.size=w4.heap.size+1:=fun o=>(by simp);rw[hsz4]at ho5;have hN:=ZW ho5 (by omega);unfold Uo at hN;rw[e0,e1,e2,e3,e4]at hN;have hb05: ∀o,Below w.heap.size w (w5.alloc o):=fun o=>((HB04.out _).trans (hb5.mono (by simp;omega))).alloc (by omega) o;have z6: ∀o,(w5.alloc o).heap[w.heap.size+1]? =some (.cells Z5 25 (0,0)):=fun o=>(Below.heap_alloc w5 o (w.heap.size+1) (by omega)).trans ((hb5.block (w.heap.size+1) (by simp;omega)).trans (z4 _));have k6: ∀o,(w5.alloc o).heap[w4.heap.size]? =some (.cells #[.int .i64 4,.int .i64 (at_:Nat)] 91 (0,0)):=fun o=>(Below.heap_alloc w5 o w4.heap.size (by omega)).trans ((hb5.block w4.heap.size (by simp)).trans k4);have m6: ∀o,(w5.alloc o).heap[w1.heap.size]? =some (.cells #[.int .u64 (layH h).base,.int .i64 (layH h).cap,.int .i64 (layH h).to,.int .i64 (layH h).low,.int .i64 (layH h).high,.int .i64 (layH h).old,.int .i64 (layH h).far] 53 (0,0)):=fun o=>(Below.heap_alloc w5 o w1.heap.size (by omega)).trans ((hb5.block w1.heap.size (by simp;omega)).trans (m4 _));have k6c: ∀o j,(w5.alloc o).cell? ⟨w4.heap.size,j,none⟩=(#[.int .i64 4,.int .i64 (at_:Nat)]:Array Value)[j]? :=fun o j=>cell_of_row _ _ _ _ _ _ (k6 o);have m6c: ∀o j,(w5.alloc o).cell? ⟨w1.heap.size,j,none⟩=(#[.int .u64 (layH h).base,.int .i64 (layH h).cap,.int .i64 (layH h).to,.int .i64 (layH h).low,.int .i64 (layH h).high,.int .i64 (layH h).old,.int .i64 (layH h).far]:Array Value)[j]? :=fun o j=>cell_of_row _ _ _ _ _ _ (m6 o);have nb:=hN.blk;rw[e0,e1,e2,e3,e4]at nb;have n6c: ∀j,(w5.alloc (.cells #[.int .u64 h.base,.int .i64 h.cap,.int .i64 h.to,.bool h.cycle,.int .i64 h.scan,.slice a0 (lsH h 0).length q0,.slice a1 (lsH h 1).length q1,.slice a2 (lsH h 2).length q2,.slice (some ⟨g,0,none⟩) (lsH h 3).length q3,.slice a4 (lsH h 4).length q4] 113)).cell? ⟨w5.heap.size,j,none⟩=(#[.int .u64 h.base,.int .i64 h.cap,.int .i64 h.to,.bool h.cycle,.int .i64 h.scan,.slice a0 (lsH h 0).length q0,.slice a1 (lsH h 1).length q1,.slice a2 (lsH h 2).length q2,.slice (some ⟨g,0,none⟩) (lsH h 3).length q3,.slice a4 (lsH h 4).length q4]:Array Value)[j]? :=fun j=>cell_of_row _ _ _ _ _ _ nb;have y6: ∀o j,(w5.alloc o).cell? ⟨w.heap.size+1,j,none⟩=Z5[j]? :=fun o j=>cell_of_row _ _ _ _ _ _ (z6 o);have f6: ∀o j,(w5.alloc o).frozen? ⟨w.heap.size+1,j,none⟩=false:=fun o j=>Zb (z6 o);unfold Z5 at y6;have st6:FwSt w (w5.alloc (.cells #[.int .u64 h.base,.int .i64 h.cap,.int .i64 h.to,.bool h.cycle,.int .i64 h.scan,.slice a0 (lsH h 0).length q0,.slice a1 (lsH h 1).length q1,.slice a2 (lsH h 2).length q2,.slice (some ⟨g,0,none⟩) (lsH h 3).length q3,.slice a4 (lsH h 4).length q4] 113)) (w.heap.size+1) w1.heap.size w4.heap.size w5.heap.size (w4.heap.size+1) 4 (at_:Nat) h x:=⟨z6 _,m6 _,k6 _,hN,hb05 _,by omega,by omega,by omega,by omega,by simp;omega⟩;have ST6:=Lib.hid st6;have EP:=Lib.hid e3;clear st6;have HB05:=Lib.hid hb05;have HN:=Lib.hid hN;have E0:=Lib.hid e0;have E1:=Lib.hid e1;have E2:=Lib.hid e2;have E3:=Lib.hid e3;have E4:=Lib.hid e4;clear hb05 hN nb e0 e1 e2 e3 e4 ho5 hb5 z4 p4 x4 m4 k4)))
 obtain⟨sm,hsm⟩: ∃sm:Nat,sz+1=sm:=⟨_,rfl⟩
 have hwr:IntKind.i64.wrap ((sz:Int)+1)=(sm:Int):=by rw[Z2 ((sz:Int)+1) (by omega) (by omega)];omega
 have hrm2: ¬(Yo (layH h) < (sm:Int)):=by omega
 have hopc:=ST10.out.now.own.own 3 (by omega)
 rw[EP.out]at hopc
 have hcap:=qF hopc (by omega)
 have hsm1:(sm:Int)≤(qm:Int):=by omega
 have hsm0:(0:Int)≤(sm:Int):=by omega
 clear hopc
 have HSM:=Lib.hid hsm
 have HRM:=Lib.hid hrm
 have HLE:=Lib.hid hle
 clear hsm hrm hle
 have hbs:w9.heap.size< ((w9.alloc (.cells #[.int .i64 (sz:Nat),.int .i64 pt] 47))).heap.size:=by simp
 clear m7c m8c k10c k7c k8c y7 y8 f7 f8 n7c n8c c7 c8
 generalize (w9.alloc (.cells #[.int .i64 (sz:Nat),.int .i64 pt] 47))=w10 at*
 have S10:(fun w'=>w'.cell? ⟨w1.heap.size,0,none⟩=some (.int .u64 (layH h).base)∧w'.cell? ⟨w1.heap.size,1,none⟩=some (.int .i64 (layH h).cap)∧w'.cell? ⟨w1.heap.size,2,none⟩=some (.int .i64 (layH h).to)∧w'.cell? ⟨w1.heap.size,3,none⟩=some (.int .i64 (layH h).low)∧w'.cell? ⟨w1.heap.size,4,none⟩=some (.int .i64 (layH h).high)∧w'.cell? ⟨w1.heap.size,5,none⟩=some (.int .i64 (layH h).old)∧w'.cell? ⟨w1.heap.size,6,none⟩=some (.int .i64 (layH h).far)∧w'.cell? ⟨w9.heap.size,0,none⟩=some (.int .i64 (sz:Nat))∧FwSt w w' (w.heap.size+1) w1.heap.size w4.heap.size w5.heap.size (w4.heap.size+1) 4 (at_:Nat) h x∧w9.heap.size<w'.heap.size) w10.drew:=⟨m10c 0,m10c 1,m10c 2,m10c 3,m10c 4,m10c 5,m10c 6,s10c 0,ST10.out.drew,hbs⟩
 have SBel: ∀(u u':World),(fun w'=>w'.cell? ⟨w1.heap.size,0,none⟩=some (.int .u64 (layH h).base)∧w'.cell? ⟨w1.heap.size,1,none⟩=some (.int .i64 (layH h).cap)∧w'.cell? ⟨w1.heap.size,2,none⟩=some (.int .i64 (layH h).to)∧w'.cell? ⟨w1.heap.size,3,none⟩=some (.int .i64 (layH h).low)∧w'.cell? ⟨w1.heap.size,4,none⟩=some (.int .i64 (layH h).high)∧w'.cell? ⟨w1.heap.size,5,none⟩=some (.int .i64 (layH h).old)∧w'.cell? ⟨w1.heap.size,6,none⟩=some (.int .i64 (layH h).far)∧w'.cell? ⟨w9.heap.size,0,none⟩=some (.int .i64 (sz:Nat))∧FwSt w w' (w.heap.size+1) w1.heap.size w4.heap.size w5.heap.size (w4.heap.size+1) 4 (at_:Nat) h x∧w9.heap.size<w'.heap.size) u→Below u.heap.size u u'→(fun w'=>w'.cell? ⟨w1.heap.size,0,none⟩=some (.int .u64 (layH h).base)∧w'.cell? ⟨w1.heap.size,1,none⟩=some (.int .i64 (layH h).cap)∧w'.cell? ⟨w1.heap.size,2,none⟩=some (.int .i64 (layH h).to)∧w'.cell? ⟨w1.heap.size,3,none⟩=some (.int .i64 (layH h).low)∧w'.cell? ⟨w1.heap.size,4,none⟩=some (.int .i64 (layH h).high)∧w'.cell? ⟨w1.heap.size,5,none⟩=some (.int .i64 (layH h).old)∧w'.cell? ⟨w1.heap.size,6,none⟩=some (.int .i64 (layH h).far)∧w'.cell? ⟨w9.heap.size,0,none⟩=some (.int .i64 (sz:Nat))∧FwSt w w' (w.heap.size+1) w1.heap.size w4.heap.size w5.heap.size (w4.heap.size+1) 4 (at_:Nat) h x∧w9.heap.size<w'.heap.size) u':=by
  rintro u u' ⟨c0,c1,c2,c3,c4,c5,c6,c7,st,hs⟩ hb
  have hl:=st.lbB
  have hz:=st.sz
  exact⟨(hb.cell (by show w1.heap.size<u.heap.size;omega)).trans c0,(hb.cell (by show w1.heap.size<u.heap.size;omega)).trans c1,(hb.cell (by show w1.heap.size<u.heap.size;omega)).trans c2,(hb.cell (by show w1.heap.size<u.heap.size;omega)).trans c3,(hb.cell (by show w1.heap.size<u.heap.size;omega)).trans c4,(hb.cell (by show w1.heap.size<u.heap.size;omega)).trans c5,(hb.cell (by show w1.heap.size<u.heap.size;omega)).trans c6,(hb.cell hs).trans c7,st.below hb,by have:=hb.size;omega⟩
 go_region_held3 (fun w'=>w'.cell? ⟨w1.heap.size,0,none⟩=some (.int .u64 (layH h).base)∧w'.cell? ⟨w1.heap.size,1,none⟩=some (.int .i64 (layH h).cap)∧w'.cell? ⟨w1.heap.size,2,none⟩=some (.int .i64 (layH h).to)∧w'.cell? ⟨w1.heap.size,3,none⟩=some (.int .i64 (layH h).low)∧w'.cell? ⟨w1.heap.size,4,none⟩=some (.int .i64 (layH h).high)∧w'.cell? ⟨w1.heap.size,5,none⟩=some (.int .i64 (layH h).old)∧w'.cell? ⟨w1.heap.size,6,none⟩=some (.int .i64 (layH h).far)∧w'.cell? ⟨w9.heap.size,0,none⟩=some (.int .i64 (sz:Nat))∧FwSt w w' (w.heap.size+1) w1.heap.size w4.heap.size w5.heap.size (w4.heap.size+1) 4 (at_:Nat) h x∧w9.heap.size<w'.heap.size) (first|exact S10|assumption)
  (first| (go_at_call 24;refine(Wk HH.out.lay _).mono ?_;rintro e w11 ⟨rfl,hb11⟩;have S11:=SBel _ _ S10 hb11))
 obtain⟨-,-,-,-,-,-,-,c11,st11,hs11⟩:=S11
 clear S10 SBel s10c y10 f10 n10c m10c hb11 hbs
 rename_i hHeld
 clear hHeld
 have res11:=st11.res
 have y11: ∀j,(w11).cell? ⟨w.heap.size+1,j,none⟩=Z5[j]? :=fun j=>cell_of_row _ _ _ _ _ _ res11
 unfold Z5 at y11
 have f11: ∀j,(w11).frozen? ⟨w.heap.size+1,j,none⟩=false:=fun j=>Zb res11
 have nb11:=st11.now.blk
 rw[E0.out,E1.out,E2.out,E3.out,E4.out]at nb11
 have n11c: ∀j,(w11).cell? ⟨w5.heap.size,j,none⟩=(#[.int .u64 h.base,.int .i64 h.cap,.int .i64 h.to,.bool h.cycle,.int .i64 h.scan,.slice a0 (lsH h 0).length q0,.slice a1 (lsH h 1).length q1,.slice a2 (lsH h 2).length q2,.slice (some ⟨g,0,none⟩) (lsH h 3).length q3,.slice a4 (lsH h 4).length q4]:Array Value)[j]? :=fun j=>cell_of_row _ _ _ _ _ _ nb11
 have k11c: ∀j,(w11).cell? ⟨w4.heap.size,j,none⟩=(#[.int .i64 4,.int .i64 (at_:Nat)]:Array Value)[j]? :=fun j=>cell_of_row _ _ _ _ _ _ st11.plc
 have m11c: ∀j,(w11).cell? ⟨w1.heap.size,j,none⟩=(#[.int .u64 (layH h).base,.int .i64 (layH h).cap,.int .i64 (layH h).to,.int .i64 (layH h).low,.int .i64 (layH h).high,.int .i64 (layH h).old,.int .i64 (layH h).far]:Array Value)[j]? :=fun j=>cell_of_row _ _ _ _ _ _ st11.lay
 have hop11:=st11.now.own.own 3 (by omega)
 rw[EP.out]at hop11
 have cw11:=Zi hop11 hwd
 clear nb11 hop11 hm hqm hat2
 have ST11:=Lib.hid st11
 clear st11
 have hsm:=HSM.out
 have hrm:=HRM.out
 have hle:=HLE.out
 have hpH:h.far.getD at_ 0=wd:=by show(lsH h 3).getD at_ 0=wd;simp[List.getD,hwd]
 have hpL:h.far.length=(lsH h 3).length:=rfl
 have hrmz: ¬Yo (layH h) < (sz:Int)+1:=by omega
 have hfw:fwd h v=(toOf h 4 at_ sm,Yf (ZO h 4 at_ sm) 4 ((zr (lsH h 3) at_ sm).set at_ (toOf h 4 at_ sm)),0):=by
  subst hsm
  simp only[fwd,hr,hv0,h1,hf,if_false,if_true,Bool.true_eq_false,ne_eq,not_true_eq_false]
  simp[-List.getD_eq_getElem?_getD,hpH,hgo,hun,her,fwdC,hpL,Nat.not_lt.2 hle,hrmz]
  exact⟨rfl,rfl⟩
 have HC:=Lib.hid (R2 w11 (w4.heap.size+1) w5.heap.size h x ST11.out.now ST11.out.sz HH.out 3 at_ sm (by omega) (by omega) (by omega) (by omega) g q3 EP.out (by omega) qm)
 have HFW:=Lib.hid hfw
 clear hsm hrm hle hfw hpH hpL hrmz
 have HRES:=Lib.hid res11
 go_wp2_with (first| (go_at_call 63;go_loud (refine HC.out.mono ?_;rintro e w12 ⟨x',rfl,hb12,hN12⟩;have res12:=(hb12.block _ ST11.out.rbB).trans HRES.out;have hbel:=ST11.out.bel.trans (hb12.mono (by have:=ST11.out.old;have:=ST11.out.rbB;omega));obtain⟨b0,r0,g0⟩:=Z1 (hN12.own.own 0 (by omega));obtain⟨b1,r1,g1⟩:=Z1 (hN12.own.own 1 (by omega));obtain⟨b2,r2,g2⟩:=Z1 (hN12.own.own 2 (by omega));obtain⟨b3,r3,g3⟩:=Z1 (hN12.own.own 3 (by omega));obtain⟨b4,r4,g4⟩:=Z1 (hN12.own.own 4 (by omega));have nb12:=hN12.blk;have e1:fwd h v=(toOf h 4 at_ sm,_,0):=HFW.out;have e2:toOf h (((3:Nat):Int)+1) at_ sm=toOf h 4 at_ sm:=rfl;rw[e2]at hN12 nb12 g0 g1 g2 g3 g4;rw[e2];generalize hto:toOf h 4 at_ sm=to at*;have e3:Yf (ZO h (((3:Nat):Int)+1) at_ sm) (((3:Nat):Int)+1) ((zr (lsH h 3) at_ sm).set at_ to)=Yf (ZO h 4 at_ sm) 4 ((zr (lsH h 3) at_ sm).set at_ to):=rfl;rw[e3]at hN12 nb12 g0 g1 g2 g3 g4;generalize Yf (ZO h 4 at_ sm) 4 ((zr (lsH h 3) at_ sm).set at_ to)=h' at*;rw[g0,g1,g2,g3,g4]at nb12)))
 have y12: ∀j,w12.cell? ⟨w.heap.size+1,j,none⟩=Z5[j]? :=fun j=>cell_of_row _ _ _ _ _ _ res12
 unfold Z5 at y12
 have f12: ∀j,w12.frozen? ⟨w.heap.size+1,j,none⟩=false:=fun j=>Zb res12
 have n12c: ∀j,w12.cell? ⟨w5.heap.size,j,none⟩=(#[.int .u64 h'.base,.int .i64 h'.cap,.int .i64 h'.to,.bool h'.cycle,.int .i64 h'.scan,.slice b0 (lsH h' 0).length r0,.slice b1 (lsH h' 1).length r1,.slice b2 (lsH h' 2).length r2,.slice b3 (lsH h' 3).length r3,.slice b4 (lsH h' 4).length r4]:Array Value)[j]? :=fun j=>cell_of_row _ _ _ _ _ _ nb12
 have hs12:=hbel.size
 have hB12:w4.heap.size+1≤w12.heap.size:=by have:=hb12.size;have:=ST11.out.sz;omega
 have HN12:=Lib.hid hN12
 have HBEL:=Lib.hid hbel
 have RES12:=Lib.hid res12
 have G0:=Lib.hid g0
 have G1:=Lib.hid g1
 have G2:=Lib.hid g2
 have G3:=Lib.hid g3
 have G4:=Lib.hid g4
 clear nb12 hN12 hbel hb12 res12 g0 g1 g2 g3 g4 y11 f11 n11c k11c m11c
 go_region
 all_goals
  go_wp2
  try simp only[Exit.inBlock,Exit.then]
  have y:=Zv RES12.out (.int .u64 h'.base) (.int .i64 h'.cap) (.int .i64 h'.to) (.bool h'.cycle) (.int .i64 h'.scan) (.slice b0 (lsH h' 0).length r0) (.slice b1 (lsH h' 1).length r1) (.slice b2 (lsH h' 2).length r2) (.slice b3 (lsH h' 3).length r3) (.slice b4 (lsH h' 4).length r4)
  rw[HFW.out]
  refine bodyPost_ret (v:= .tuple #[.int .u64 to,hpA h' x',.int .i64 0]) ?_ rfl ?_
  ·unfold hpA;rw[G0.out,G1.out,G2.out,G3.out,G4.out];simp[results,Try.results39,go_sem,y]
  ·refine⟨x',rfl,?_,?_⟩
   ·exact(Zr HBEL.out (by omega) _ _ _ _ _ _ _ _ _ _).drew
   ·refine⟨fun j hj=> ?_,HN12.out.own.apart⟩
    have ho:=HN12.out.own.own j hj
    refine Sh (Zn ho ?_) ?_
    ·intro c hc
     have hc1:=(ho.lt c hc).1
     exact Yy (by omega) _ _ _ _ _ _ _ _ _ _
    ·intro c h1 h2
     exact⟨by omega,h2⟩
theorem RL(w:World)(G:Nat→Prop)(hG: ∀b,G b→b<w.heap.size)(h:Hp)(hh:h.ok)(src:Nat→Value)(hs: ∀j,j<5→Rd w G (.sl ((lsH h j).map vu)) (src j))(v:Int)(hv:U64 v)
  (hr:Za (layH h)=true) (hv0: ¬v=0) (h1:(adr v).2=0) (h2:(ZB (layH h) (adr v).1).2.2=0):
  Calls Try.prog 39 #[hpA h src,.int .u64 v] w (Yu w (fwd h v)):=by
 obtain⟨_,f1,f2,f3,f4,_⟩:=jn h2
 rw[X0 ⟨f1,f2⟩]at f4
 obtain⟨k,hk⟩:=Int.eq_ofNat_of_zero_le f3
 have hf:ZB (layH h) (adr v).1=((ZB (layH h) (adr v).1).1,(k:Int),0):=by rw[←hk,←h2]
 rw[hk]at f4
 generalize (ZB (layH h) (adr v).1).1=part at*
 have:part=1∨part=2∨part=3∨part=4:=by omega
 rcases this with hp|hp|hp|hp
 ·exact RQ w G hG h hh src hs v hv hr hv0 h1 part k hf hp
 ·exact Rl w G hG h hh src hs v hv hr hv0 h1 part k hf hp
 ·subst hp
  have hat:k< (lsH h 2).length:=by
   have:((Z8 h 3).length:Int)=(lsH h 2).length:=rfl
   omega
  have hwd:(lsH h 2)[k]? =some (lsH h 2)[k]:=List.getElem?_eq_getElem hat
  have hwu:U64 (lsH h 2)[k]:=(Zw hh 3).1 _ (List.getElem_mem hat)
  generalize (lsH h 2)[k]=wd at*
  by_cases hgo:(adr wd).2=0
  ·exact Rh w G hG h hh src hs v hv hr hv0 h1 3 k hf rfl wd hwd hat hwu hgo
  obtain⟨sz,pt,er,hun⟩: ∃sz pt er,unpk wd=(sz,pt,er):=⟨_,_,_,rfl⟩
  by_cases her:er=0
  ·have hu:=Z4.1 (Rj (w:=wd) (by rw[hun];exact her))
   rw[hun]at hu
   obtain⟨n,hn⟩:=Int.eq_ofNat_of_zero_le hu.1
   simp only at hn
   subst hn
   have hn5:n≤255:=by have:=hu.2.1;simp only at this;omega
   by_cases hlt:(lsH h 2).length<k+(n+1)
   ·exact Sm w G hG h hh src hs v hv hr hv0 h1 3 k hf rfl wd hwd hat hwu hgo n pt er hun hn5 her hlt
   by_cases hrm:Yo (layH h) < ((n+1:Nat):Int)
   ·exact QK w G hG h hh src hs v hv hr hv0 h1 3 k hf rfl wd hwd hat hwu hgo n pt er hun hn5 her (by omega) hrm
   ·exact Sx w G hG h hh src hs v hv hr hv0 h1 3 k hf rfl wd hwd hat hwu hgo n pt er hun hn5 her (by omega) hrm
  ·exact RP w G hG h hh src hs v hv hr hv0 h1 3 k hf rfl wd hwd hat hwu hgo sz pt er hun her
 ·subst hp
  have hat:k< (lsH h 3).length:=by
   have:((Z8 h 4).length:Int)=(lsH h 3).length:=rfl
   omega
  have hwd:(lsH h 3)[k]? =some (lsH h 3)[k]:=List.getElem?_eq_getElem hat
  have hwu:U64 (lsH h 3)[k]:=(Zw hh 4).1 _ (List.getElem_mem hat)
  generalize (lsH h 3)[k]=wd at*
  by_cases hgo:(adr wd).2=0
  ·exact Rm w G hG h hh src hs v hv hr hv0 h1 4 k hf rfl wd hwd hat hwu hgo
  obtain⟨sz,pt,er,hun⟩: ∃sz pt er,unpk wd=(sz,pt,er):=⟨_,_,_,rfl⟩
  by_cases her:er=0
  ·have hu:=Z4.1 (Rj (w:=wd) (by rw[hun];exact her))
   rw[hun]at hu
   obtain⟨n,hn⟩:=Int.eq_ofNat_of_zero_le hu.1
   simp only at hn
   subst hn
   have hn5:n≤255:=by have:=hu.2.1;simp only at this;omega
   by_cases hlt:(lsH h 3).length<k+(n+1)
   ·exact Su w G hG h hh src hs v hv hr hv0 h1 4 k hf rfl wd hwd hat hwu hgo n pt er hun hn5 her hlt
   by_cases hrm:Yo (layH h) < ((n+1:Nat):Int)
   ·exact Qh w G hG h hh src hs v hv hr hv0 h1 4 k hf rfl wd hwd hat hwu hgo n pt er hun hn5 her (by omega) hrm
   ·exact Sv w G hG h hh src hs v hv hr hv0 h1 4 k hf rfl wd hwd hat hwu hgo n pt er hun hn5 her (by omega) hrm
  ·exact RA w G hG h hh src hs v hv hr hv0 h1 4 k hf rfl wd hwd hat hwu hgo sz pt er hun her
end Vm
namespace Vm
open Go Go.Proofs Go.RowKit
set_option maxHeartbeats 4000000
set_option maxRecDepth 100000
theorem J1(w:World)(G:Nat→Prop)(hG: ∀b,G b→b<w.heap.size)(h:Hp)(hh:h.ok)(src:Nat→Value)(hs: ∀j,j<5→Rd w G (.sl ((lsH h j).map vu)) (src j))(v:Int)(hv:U64 v):
  Calls Try.prog 39 #[hpA h src,.int .u64 v] w (Yu w (fwd h v)):=by
 have HS:=Lib.hid hs
 have HH:=Lib.hid hh
 clear hs hh
 by_cases hfo:Za (layH h)=true∧ ¬v=0∧(adr v).2=0∧(ZB (layH h) (adr v).1).2.2=0
 ·exact RL w G hG h HH.out src HS.out v hv hfo.1 hfo.2.1 hfo.2.2.1 hfo.2.2.2
 unfold hpA
 go_enter Try.func39,Try.ntmps39
 cases hr:Za (layH h)
 ·go_wp2_with (first
   | (go_at_call 51;refine(Zm (h:=h) (x:=src) (G:=G) (fun c hc=>by have:=hG c hc;simp;omega) (fun j hj=>(HS.out j hj).keep (fun b hb=>by have:=hG b hb;rw[Below.heap_alloc _ _ _ (by simp;omega),Below.heap_alloc _ _ _ (by omega)]) (fun _ h=>h))).mono ?_;rintro e w1 ⟨rfl,hb1⟩;unfold lyA;have z1:=(hb1.block (w.heap.size+1) (by simp)).trans (Y2 w _);have hs1:=hb1.size;simp at hs1;have HB1:=Lib.hid hb1;clear hb1)
   | (go_at_call 43;refine(Zq HH.out.lay _).mono ?_;rintro e w2 ⟨rfl,hb2⟩;rw[hr];have z2:=(hb2.block (w.heap.size+1) (by simp;omega)).trans ((Below.heap_alloc w1 _ (w.heap.size+1) (by omega)).trans z1);have y2: ∀j,w2.cell? ⟨w.heap.size+1,j,none⟩=Z5[j]? :=fun j=>cell_of_row _ _ _ _ _ _ z2;have f2: ∀j,w2.frozen? ⟨w.heap.size+1,j,none⟩=false:=fun j=>Zb z2;unfold Z5 at y2;have HB2:=Lib.hid hb2;clear hb2))
  have y:=Zv z2 (.int .u64 0) (.int .i64 0) (.int .i64 0) (.bool false) (.int .i64 0) (.slice none 0 0) (.slice none 0 0) (.slice none 0 0) (.slice none 0 0) (.slice none 0 0)
  refine bodyPost_ret (v:= .tuple #[.int .u64 0,.agg Z5,.int .i64 1]) (by simp[results,Try.results39,go_sem,y,Z5]) rfl ⟨fun _=> .slice none 0 0,?_,Zr ?_ (by omega) _ _ _ _ _ _ _ _ _ _,?_⟩
  ·simp[fwd,hr,hpA,Hp.zero,Z5]
  ·exact((((((Below.refl _ _).alloc (Nat.le_refl _) _).alloc (by simp) _).trans (HB1.out.mono (by simp;omega))).alloc (by omega) _).trans (HB2.out.mono (by simp;omega)))
  ·have:(fwd h v).2.1=Hp.zero:=by simp[fwd,hr]
   rw[this]
   exact X9 _ _
 ·by_cases h0:v=0
  ·subst h0
   go_wp2_with (first
    | (go_at_call 51;refine(Zm (h:=h) (x:=src) (G:=G) (fun c hc=>by have:=hG c hc;simp;omega) (fun j hj=>(HS.out j hj).keep (fun b hb=>by have:=hG b hb;rw[Below.heap_alloc _ _ _ (by simp;omega),Below.heap_alloc _ _ _ (by omega)]) (fun _ h=>h))).mono ?_;rintro e w1 ⟨rfl,hb1⟩;unfold lyA;have z1:=(hb1.block (w.heap.size+1) (by simp)).trans (Y2 w _);have p1:=(hb1.block w.heap.size (by simp;omega)).trans ((Below.heap_alloc (w.alloc (.cells #[.int .u64 h.base,.int .i64 h.cap,.int .i64 h.to,.bool h.cycle,.int .i64 h.scan,src 0,src 1,src 2,src 3,src 4] 25)) _ w.heap.size (by simp)).trans (heap_alloc_new w _));have hs1:=hb1.size;simp at hs1;have HB1:=Lib.hid hb1;clear hb1)
    | (go_at_call 43;refine(Zq HH.out.lay _).mono ?_;rintro e w2 ⟨rfl,hb2⟩;rw[hr];have z2:=(hb2.block (w.heap.size+1) (by simp;omega)).trans ((Below.heap_alloc w1 _ (w.heap.size+1) (by omega)).trans z1);have p2:=(hb2.block w.heap.size (by simp;omega)).trans ((Below.heap_alloc w1 _ w.heap.size (by omega)).trans p1);have x2: ∀j,w2.cell? ⟨w.heap.size,j,none⟩=(#[.int .u64 h.base,.int .i64 h.cap,.int .i64 h.to,.bool h.cycle,.int .i64 h.scan,src 0,src 1,src 2,src 3,src 4]:Array Value)[j]? :=fun j=>cell_of_row _ _ _ _ _ _ p2;have hb02:Below w.heap.size w w2:=((((((Below.refl _ _).alloc (Nat.le_refl _) _).alloc (by simp) _).trans (HB1.out.mono (by simp;omega))).alloc (by omega) _).trans (hb2.mono (by simp;omega)));have hs2:=hb2.size;simp at hs2;have HB02:=Lib.hid hb02;clear hb2 hb02)
    | (go_at_call 48;refine(Yk _ G (fun b hb=>by have:=hG b hb;omega) h HH.out src (fun j hj=>(HS.out j hj).keep (fun b hb=>HB02.out.block b (hG b hb)) (fun _ h=>h))).mono ?_;rintro e w3 ⟨x,rfl,hb3,ho3⟩;obtain⟨a0,q0,e0⟩:=Z1 (ho3.own 0 (by omega));obtain⟨a1,q1,e1⟩:=Z1 (ho3.own 1 (by omega));obtain⟨a2,q2,e2⟩:=Z1 (ho3.own 2 (by omega));obtain⟨a3,q3,e3⟩:=Z1 (ho3.own 3 (by omega));obtain⟨a4,q4,e4⟩:=Z1 (ho3.own 4 (by omega));unfold hpA;rw[e0,e1,e2,e3,e4];have z3:=(hb3.block (w.heap.size+1) (by omega)).trans z2;have y3: ∀j,w3.cell? ⟨w.heap.size+1,j,none⟩=Z5[j]? :=fun j=>cell_of_row _ _ _ _ _ _ z3;have f3: ∀j,w3.frozen? ⟨w.heap.size+1,j,none⟩=false:=fun j=>Zb z3;unfold Z5 at y3;have HB3:=Lib.hid hb3;have HO3:=Lib.hid ho3;clear hb3 ho3))
   have y:=Zv z3 (.int .u64 h.base) (.int .i64 h.cap) (.int .i64 h.to) (.bool h.cycle) (.int .i64 h.scan) (.slice a0 (lsH h 0).length q0) (.slice a1 (lsH h 1).length q1) (.slice a2 (lsH h 2).length q2) (.slice a3 (lsH h 3).length q3) (.slice a4 (lsH h 4).length q4)
   have hf:fwd h 0=(0,h,0):=by simp[fwd,hr]
   refine bodyPost_ret (v:= .tuple #[.int .u64 0,hpA h x,.int .i64 0]) (by unfold hpA;rw[e0,e1,e2,e3,e4];simp[results,Try.results39,go_sem,y]) rfl ⟨x,?_,Zr (HB02.out.trans (HB3.out.mono (by omega))) (by omega) _ _ _ _ _ _ _ _ _ _,?_⟩
   ·rw[hf]
   ·rw[hf]
    refine⟨fun j hj=> ?_,HO3.out.apart⟩
    have ho:=HO3.out.own j hj
    refine Sh (B':=w2.heap.size) (Zn ho fun c hc=>Wn (by have:=(ho.lt c hc).1;omega) _ _ _ _ _ _ _ _ _ _) (fun c h1 h2=>⟨by omega,h2⟩)
  ·have hv0: ¬(v=0):=h0
   by_cases h1:(adr v).2=0
   ·by_cases h2:(ZB (layH h) (adr v).1).2.2=0
    ·exact(hfo ⟨hr,hv0,h1,h2⟩).elim
    ·go_wp2_with (first
     | (go_at_call 51;refine(Zm (h:=h) (x:=src) (G:=G) (fun c hc=>by have:=hG c hc;simp;omega) (fun j hj=>(HS.out j hj).keep (fun b hb=>by have:=hG b hb;rw[Below.heap_alloc _ _ _ (by simp;omega),Below.heap_alloc _ _ _ (by omega)]) (fun _ h=>h))).mono ?_;rintro e w1 ⟨rfl,hb1⟩;unfold lyA;have z1:=(hb1.block (w.heap.size+1) (by simp)).trans (Y2 w _);have p1:=(hb1.block w.heap.size (by simp;omega)).trans ((Below.heap_alloc (w.alloc (.cells #[.int .u64 h.base,.int .i64 h.cap,.int .i64 h.to,.bool h.cycle,.int .i64 h.scan,src 0,src 1,src 2,src 3,src 4] 25)) _ w.heap.size (by simp)).trans (heap_alloc_new w _));have hs1:=hb1.size;simp at hs1;have HB1:=Lib.hid hb1;clear hb1)
     | (go_at_call 43;refine(Zq HH.out.lay _).mono ?_;rintro e w2 ⟨rfl,hb2⟩;rw[hr];have z2:=(hb2.block (w.heap.size+1) (by simp;omega)).trans ((Below.heap_alloc w1 _ (w.heap.size+1) (by omega)).trans z1);have p2:=(hb2.block w.heap.size (by simp;omega)).trans ((Below.heap_alloc w1 _ w.heap.size (by omega)).trans p1);have x2: ∀j,w2.cell? ⟨w.heap.size,j,none⟩=(#[.int .u64 h.base,.int .i64 h.cap,.int .i64 h.to,.bool h.cycle,.int .i64 h.scan,src 0,src 1,src 2,src 3,src 4]:Array Value)[j]? :=fun j=>cell_of_row _ _ _ _ _ _ p2;have hb02:Below w.heap.size w w2:=((((((Below.refl _ _).alloc (Nat.le_refl _) _).alloc (by simp) _).trans (HB1.out.mono (by simp;omega))).alloc (by omega) _).trans (hb2.mono (by simp;omega)));have hs2:=hb2.size;simp at hs2;have m2:=(hb2.block w1.heap.size (by simp)).trans (heap_alloc_new w1 _);have HB02:=Lib.hid hb02;clear hb2 hb02)
     | (go_at_call 59;refine(Zh hv _).mono ?_;rintro e w3 ⟨rfl,hb3⟩;have z3:=(hb3.block (w.heap.size+1) (by omega)).trans z2;have y3: ∀j,w3.cell? ⟨w.heap.size+1,j,none⟩=Z5[j]? :=fun j=>cell_of_row _ _ _ _ _ _ z3;have f3: ∀j,w3.frozen? ⟨w.heap.size+1,j,none⟩=false:=fun j=>Zb z3;unfold Z5 at y3;have m3:=(hb3.block w1.heap.size (by omega)).trans m2;have l3: ∀j,w3.cell? ⟨w1.heap.size,j,none⟩=(#[.int .u64 (layH h).base,.int .i64 (layH h).cap,.int .i64 (layH h).to,.int .i64 (layH h).low,.int .i64 (layH h).high,.int .i64 (layH h).old,.int .i64 (layH h).far]:Array Value)[j]? :=fun j=>cell_of_row _ _ _ _ _ _ m3;have hs3:=hb3.size;have HB3:=Lib.hid hb3;clear hb3)
     | (go_at_call 60;refine(ZH HH.out.lay (Uc hv) _).mono ?_;rintro e w4 ⟨rfl,hb4⟩;have hs4:=hb4.size;have z4: ∀o,(w4.alloc o).heap[w.heap.size+1]? =some (.cells Z5 25 (0,0)):=fun o=>(Below.heap_alloc w4 o (w.heap.size+1) (by omega)).trans ((hb4.block (w.heap.size+1) (by omega)).trans z3);have y4: ∀o j,(w4.alloc o).cell? ⟨w.heap.size+1,j,none⟩=Z5[j]? :=fun o j=>cell_of_row _ _ _ _ _ _ (z4 o);have f4: ∀o j,(w4.alloc o).frozen? ⟨w.heap.size+1,j,none⟩=false:=fun o j=>Zb (z4 o);unfold Z5 at y4;have HB4:=Lib.hid hb4;clear hb4))
     have y:=Zv (z4 (.cells #[.int .i64 (ZB (layH h) (adr v).1).1,.int .i64 (ZB (layH h) (adr v).1).2.1] 91)) (.int .u64 0) (.int .i64 0) (.int .i64 0) (.bool false) (.int .i64 0) (.slice none 0 0) (.slice none 0 0) (.slice none 0 0) (.slice none 0 0) (.slice none 0 0)
     have hf:fwd h v=(0,Hp.zero,6):=by simp[fwd,hr,h0,h1,h2]
     refine bodyPost_ret (v:= .tuple #[.int .u64 0,.agg Z5,.int .i64 6]) (by simp[results,Try.results39,go_sem,y,Z5]) rfl ⟨fun _=> .slice none 0 0,?_,Zr (((HB02.out.trans (HB3.out.mono (by omega))).trans (HB4.out.mono (by omega))).alloc (by omega) _) (by omega) _ _ _ _ _ _ _ _ _ _,?_⟩
     ·rw[hf];simp[hpA,Hp.zero,Z5]
     ·rw[hf]
      exact X9 _ _
   ·go_wp2_with (first
    | (go_at_call 51;refine(Zm (h:=h) (x:=src) (G:=G) (fun c hc=>by have:=hG c hc;simp;omega) (fun j hj=>(HS.out j hj).keep (fun b hb=>by have:=hG b hb;rw[Below.heap_alloc _ _ _ (by simp;omega),Below.heap_alloc _ _ _ (by omega)]) (fun _ h=>h))).mono ?_;rintro e w1 ⟨rfl,hb1⟩;unfold lyA;have z1:=(hb1.block (w.heap.size+1) (by simp)).trans (Y2 w _);have p1:=(hb1.block w.heap.size (by simp;omega)).trans ((Below.heap_alloc (w.alloc (.cells #[.int .u64 h.base,.int .i64 h.cap,.int .i64 h.to,.bool h.cycle,.int .i64 h.scan,src 0,src 1,src 2,src 3,src 4] 25)) _ w.heap.size (by simp)).trans (heap_alloc_new w _));have hs1:=hb1.size;simp at hs1;have HB1:=Lib.hid hb1;clear hb1)
    | (go_at_call 43;refine(Zq HH.out.lay _).mono ?_;rintro e w2 ⟨rfl,hb2⟩;rw[hr];have z2:=(hb2.block (w.heap.size+1) (by simp;omega)).trans ((Below.heap_alloc w1 _ (w.heap.size+1) (by omega)).trans z1);have p2:=(hb2.block w.heap.size (by simp;omega)).trans ((Below.heap_alloc w1 _ w.heap.size (by omega)).trans p1);have x2: ∀j,w2.cell? ⟨w.heap.size,j,none⟩=(#[.int .u64 h.base,.int .i64 h.cap,.int .i64 h.to,.bool h.cycle,.int .i64 h.scan,src 0,src 1,src 2,src 3,src 4]:Array Value)[j]? :=fun j=>cell_of_row _ _ _ _ _ _ p2;have hb02:Below w.heap.size w w2:=((((((Below.refl _ _).alloc (Nat.le_refl _) _).alloc (by simp) _).trans (HB1.out.mono (by simp;omega))).alloc (by omega) _).trans (hb2.mono (by simp;omega)));have hs2:=hb2.size;simp at hs2;have HB02:=Lib.hid hb02;clear hb2 hb02)
      | (go_at_call 59;refine(Zh hv _).mono ?_;rintro e w3 ⟨rfl,hb3⟩;have z3:=(hb3.block (w.heap.size+1) (by omega)).trans z2;have y3: ∀j,w3.cell? ⟨w.heap.size+1,j,none⟩=Z5[j]? :=fun j=>cell_of_row _ _ _ _ _ _ z3;have f3: ∀j,w3.frozen? ⟨w.heap.size+1,j,none⟩=false:=fun j=>Zb z3;unfold Z5 at y3;have HB3:=Lib.hid hb3;clear hb3))
    have y:=Zv z3 (.int .u64 0) (.int .i64 0) (.int .i64 0) (.bool false) (.int .i64 0) (.slice none 0 0) (.slice none 0 0) (.slice none 0 0) (.slice none 0 0) (.slice none 0 0)
    have hf:fwd h v=(0,Hp.zero,3):=by simp[fwd,hr,h0,h1]
    refine bodyPost_ret (v:= .tuple #[.int .u64 0,.agg Z5,.int .i64 3]) (by simp[results,Try.results39,go_sem,y,Z5]) rfl ⟨fun _=> .slice none 0 0,?_,Zr (HB02.out.trans (HB3.out.mono (by omega))) (by omega) _ _ _ _ _ _ _ _ _ _,?_⟩
    ·rw[hf];simp[hpA,Hp.zero,Z5]
    ·rw[hf]
     exact X9 _ _
end Vm
namespace Vm
open Go Go.Proofs Go.RowKit
set_option maxHeartbeats 1000000
set_option maxRecDepth 100000
theorem YA{w:World}{G:Nat→Prop}{k:IntKind}{n:Int}{v:Value}(r:Rd w G (.int k n) v):v= .int k n:=by cases r;rfl
theorem JW{w:World}{G:Nat→Prop}{b:Bool}{v:Value}(r:Rd w G (.bool b) v):v= .bool b:=by cases r;rfl
theorem Z0x{w:World}{G:Nat→Prop}{h:Hp}{v:Value}(r:Rd w G (hpV h) v): ∃src,v=hpA h src∧ ∀j,j<5→Rd w G (.sl ((lsH h j).map vu)) (src j):=by
 cases r with
 |agg _ vs hl _ hr=>
  refine⟨fun j=>vs.getD (5+j) undef,?_,?_⟩
  ·have e0:=YA (hr 0 _ rfl)
   have e1:=YA (hr 1 _ rfl)
   have e2:=YA (hr 2 _ rfl)
   have e3:=JW (hr 3 _ rfl)
   have e4:=YA (hr 4 _ rfl)
   have hl':vs.size=10:=hl
   unfold hpA
   rw[←e0,←e1,←e2,←e3,←e4]
   congr 1
   apply Array.ext
   ·simp[hl']
   ·intro i h1 h2
    have hi:i<10:=by omega
    match i,hi with
    |0,_|1,_|2,_|3,_|4,_|5,_|6,_|7,_|8,_|9,_=>simp[Array.getD,hl']
  ·intro j hj
   match j,hj with
   |0,_=>exact hr 5 _ rfl
   |1,_=>exact hr 6 _ rfl
   |2,_=>exact hr 7 _ rfl
   |3,_=>exact hr 8 _ rfl
   |4,_=>exact hr 9 _ rfl
theorem Z2Z{w:World}{G:Nat→Prop}{h:Hp}{x:Nat→Value}(hr: ∀j,j<5→Rd w G (.sl ((lsH h j).map vu)) (x j)):Rd w G (hpV h) (hpA h x):=by
 refine .agg _ _ rfl (by simp[V.one]) ?_
 intro i y hy
 match i,hy with
 |0,hy=>cases hy;exact .int _ _
 |1,hy=>cases hy;exact .int _ _
 |2,hy=>cases hy;exact .int _ _
 |3,hy=>cases hy;exact .bool _
 |4,hy=>cases hy;exact .int _ _
 |5,hy=>cases hy;exact hr 0 (by omega)
 |6,hy=>cases hy;exact hr 1 (by omega)
 |7,hy=>cases hy;exact hr 2 (by omega)
 |8,hy=>cases hy;exact hr 3 (by omega)
 |9,hy=>cases hy;exact hr 4 (by omega)
end Vm
end
section
namespace Vm
open Go Go.Proofs Go.RowKit
set_option maxHeartbeats 1000000
set_option maxRecDepth 100000
theorem Rd.slfT{w:World}{G:Nat→Prop}{l:List V}{v:Value}(h:Rd w G (.sl l) v): ∃a c,v= .slice a l.length c:=by
 cases h with
 |nil a cap _=>exact⟨a,cap,rfl⟩
 |sl l b o cap k vs=>exact⟨_,cap,rfl⟩
theorem append_empty{P:Program}{w:World}{t ty e:TypeId}(ht:P.underlying t=some (.slice e))(hel:elOk P e=true)(ad a:Addr)(n c:Nat)(news:List Value)(hl:news.length=n*P.cellsOf e)(hnews: ∀j v,news[j]? =some v→w.cell? (a.add j)=some v)(h0:0<n)(hlim:n≤lim):
  (Builtin.append_ #[t,t] ty #[.slice (some ad) 0 0,.slice (some a) n c]).run P w=(Builtin.append_ #[t,t] ty #[.slice none 0 0,.slice (some a) n c]).run P w:=by
 obtain⟨i,z,hi,hz,hzs,h1,hby,hcs⟩:=Xj hel
 simp only[lim]at hlim
 have hbytes:n*i.bytes≤140737488355328:=by
  have:n*i.bytes≤4294967296*32768:=Nat.mul_le_mul hlim hby
  omega
 rw[run_append_nil (P:=P) w t ty e i z ht hi hz a n c news (by rw[hl,hcs]) hnews h0 (by omega) (by omega)]
 have hr:=run_append_grow (P:=P) w t ty e i z ht hi hz ad 0 0 [] (by simp) (fun j v hv=>by simp at hv) a n c news (by rw[hl,hcs]) hnews (by omega) (by omega) (growslice_fits (by omega) (by simpa using hbytes))
 simpa using hr
theorem Q8{w:World}(ad:Option Addr){ty:TypeId}{G:Nat→Prop}{l:List Int}{y:Value}(hl:l.length≤1000000)(hy:Rd w G (.sl (l.map vu)) y):
  ∃v' w',(Builtin.append_ #[23,23] ty #[.slice ad 0 0,y]).run Try.prog w= .ok v' w'∧Below w.heap.size w w'∧Rd w' (fun c=>w.heap.size≤c∧c<w'.heap.size) (.sl (l.map vu)) v':=by
 have hT:=Try.underlying23
 have nilOk: ∀(w:World),Rd w (fun c=>w.heap.size≤c∧c<w.heap.size) (.sl ([]:List V)) (.slice ad 0 0):=fun w=> .nil _ _ (by unfold maxLen;omega)
 by_cases h0:l= []
 ·subst h0
  obtain⟨i,z,hi,hz,hzs,h1,hby,hcs⟩:=Xj (P:=Try.prog) elU
  have hv: ∃a c,y= .slice a 0 c:=by
   obtain⟨a,c,e⟩:=Rd.slfT hy
   exact⟨a,c,by simpa using e⟩
  obtain⟨a,c,rfl⟩:=hv
  refine⟨.slice ad 0 0,w,?_,Below.refl _ _,nilOk w⟩
  cases a<;>cases ad<;>simp[Builtin.append_,run_underlying hT,Go.sizeOf,typeInfo,hi,Builtin.lenOf,Builtin.firstCells,loadCells,loadCellsFrom,storeCells]
 ·have hpos:0<l.length:=List.length_pos_iff.2 h0
  have key:(Builtin.append_ #[23,23] ty #[.slice ad 0 0,y]).run Try.prog w=(Builtin.append_ #[23,23] ty #[.slice none 0 0,y]).run Try.prog w:=by
   cases ad with
   |none=>rfl
   |some ad=>
    have hy':=hy
    generalize hL:l.map vu=L at hy'
    cases hy' with
    |nil=>simp at hL;exact absurd hL h0
    |sl _ b o cap kk vs h1 h2 h3 h4 h5 h6=>
     have hlen:L.length=l.length:=by rw[←hL,List.length_map]
     have hkk:kk=1:=by
      obtain⟨x,hx⟩:=List.exists_mem_of_ne_nil l h0
      have:=(h4 (vu x) (by rw[←hL];exact List.mem_map_of_mem hx)).1
      simpa using this.symm
     subst hkk
     refine append_empty hT elU ad ⟨b,o,none⟩ _ cap ((List.range L.length).map vs) (by rw[ceU];simp) (fun j u hj=> ?_) (by omega) (by simp only[lim];omega)
     have hlt:j<L.length:=by simpa using(List.getElem?_eq_some_iff.1 hj).1
     have hvs:vs j=u:=by simpa[hlt]using hj
     rw[Addr.add_lit,←hvs]
     exact h5 j (by omega)
  obtain⟨v',w',news,hr,h1,h2,h3,_,h5⟩:=Wf (ty:=ty) (B:=w.heap.size) (n:=0) (xs:= []) hT elU (World.ownsRow_nil w _ _ _) (Nat.le_refl _) hy (by rw[ceU];exact VN _) (by simp only[lim,List.length_map];omega)
  rw[ceU]at h1
  have hl6:news.length=l.length:=by have:=h1.1;simpa using this
  have h6:=TF h5 hl6
  rw[h6]at h1
  simp only[List.length_map,Nat.zero_add,List.nil_append]at h1
  refine⟨v',w',key.trans hr,?_,Ld h1 fun c h1 h2=>⟨h1,h2⟩⟩
  have hn:(Value.slice none 0 0).ownBlock=none:=rfl
  rw[hn]at h2
  exact Below.grown (Below.refl _ _) h2 (Nat.le_refl _) (fun r hr=>by cases hr)
theorem Z08{w:World}{o:Oper}{a:Act}{K:Act→World→Prop}{Q:Exit→Act→World→Prop}(s x:Operand)
  (ho:o.op= .call {callee:= .builtin .append,args:= #[s,x],argTypes:= #[23,23]}) {ad:Option Addr} {y:Value} (hs:a.eval s= .slice ad 0 0) (hx:a.eval x=y)
  {G:Nat→Prop} {l:List Int} (hl:l.length≤1000000) (hy:Rd w G (.sl (l.map vu)) y)
  (h: ∀v' w',Below w.heap.size w w'→Rd w' (fun c=>w.heap.size≤c∧c<w'.heap.size) (.sl (l.map vu)) v'→K (a.put o.dst v') w'):o.wp Try.prog a w K Q:=by
 obtain⟨v',w',hr,h1,h2⟩:=Q8 ad (ty:=o.type) hl hy
 unfold Oper.wp execOp
 simp only[ho,resolve,invoke,builtin,Sem.run_bind,Sem.run_pure,Result.andThen_ok,List.map_toArray,List.map_cons,List.map_nil,hs,hx,hr]
 exact h v' w' h1 h2
theorem Jh{w:World}{ops:Array Oper}{rest:List Oper}{o:Oper}{a:Act}{Q:Exit→Act→World→Prop}(hgd:o.guard=none)(s x:Operand)
  (ho:o.op= .call {callee:= .builtin .append,args:= #[s,x],argTypes:= #[23,23]}) {ad:Option Addr} {y:Value} (hs:a.eval s= .slice ad 0 0) (hx:a.eval x=y)
  {G:Nat→Prop} {l:List Int} (hl:l.length≤1000000) (hy:Rd w G (.sl (l.map vu)) y)
  (h: ∀v' w',Below w.heap.size w w'→Rd w' (fun c=>w.heap.size≤c∧c<w'.heap.size) (.sl (l.map vu)) v'→wpList Try.prog ops Q rest (a.put o.dst v') w'):wpList Try.prog ops Q (o::rest) a w:=
 wpList_plain hgd fun _ hK=>Z08 s x ho hs hx hl hy fun v' w' h1 h2=>hK _ _ (h v' w' h1 h2)
end Vm
end
section
namespace Vm
open Go Go.Proofs Go.RowKit
set_option maxHeartbeats 1000000
set_option maxRecDepth 100000
theorem zZ(w:World)(n c:Nat):Sem.run Try.prog (binOp .eql 23 (.slice none n c) (.slice none 0 0)) w= .ok (.bool true) w:=by rfl
theorem LW(w:World)(a:Addr)(n c:Nat):Sem.run Try.prog (binOp .eql 23 (.slice (some a) n c) (.slice none 0 0)) w= .ok (.bool false) w:=by rfl
theorem K6(w:World){G:Nat→Prop}(hG: ∀b,G b→b<w.heap.size){l:List Int}{y:Value}(hl:l.length≤1000000)(hy:Rd w G (.sl (l.map vu)) y):
  Calls Try.prog 103 #[y] w fun e w'=> ∃v,e= .returned v∧Below w.heap.size w w'∧Rd w' (fun c=>w.heap.size≤c∧c<w'.heap.size) (.sl (l.map vu)) v:=by
 obtain⟨a,c,rfl⟩:=Rd.slfT hy
 cases a with
 |none=>
  have h0:l= []:=by
   generalize hL:l.map vu=L at hy
   cases hy with
   |nil=>simpa using hL
  subst h0
  have q:=zZ w 0 c
  go_enter Try.func103,Try.ntmps103
  simp only[List.map_nil,List.length_nil]
  go_wp2
  exact bodyPost_ret (v:= .slice none 0 0) (by simp[results,Try.results103,go_sem]) rfl ⟨_,rfl,Below.refl _ _,.nil _ _ (by unfold maxLen;omega)⟩
 |some ad=>
  have q:=LW w ad l.length c
  go_enter Try.func103,Try.ntmps103
  have hy2:Rd (w.alloc (.cells #[] 22)) G (.sl (l.map vu)) (.slice (some ad) (l.map vu).length c):=hy.keep (fun b hb=>Below.heap_alloc _ _ _ (hG b hb)) fun _ q=>q
  have hbb:Below w.heap.size w (w.alloc (.cells #[] 22)):=(Below.refl _ _).alloc (Nat.le_refl _) _
  have hzz:(w.alloc (.cells #[] 22)).heap.size=w.heap.size+1:=by simp
  have HB:=Lib.hid (And.intro hbb hzz)
  clear hbb hzz hy
  go_wp2_with (at_builtin;refine Jh rfl _ _ rfl rfl rfl hl hy2 ?_;intro v' w' hb hr;have HR:=Lib.hid (And.intro hb hr);clear hb hr hy2)
  refine bodyPost_ret (v:=v') (by simp[results,Try.results103,go_sem]) rfl ⟨v',rfl,HB.out.1.trans (HR.out.1.mono (by rw[HB.out.2];omega)),HR.out.2.mono fun b hb=>⟨by have:=HB.out.2;omega,hb.2⟩⟩
end Vm
end
section
namespace Vm
open Go Go.Proofs Go.RowKit
set_option maxHeartbeats 1000000
set_option maxRecDepth 100000
end Vm
end
section
namespace Vm
open Go Go.Proofs Go.RowKit
set_option maxHeartbeats 1000000
set_option maxRecDepth 100000
end Vm
end
section
namespace Vm
open Go
open Go.Proofs
set_option maxRecDepth 100000
def p22:Fn:=⟨8,[0,1,2,4,5,6,7,22],
(.seq
(.reg ⟨[],[],[(2,.m [(.fld (.sz (.s 0) 10) 0),(.fld (.sz (.s 0) 10) 1),(.fld (.sz (.s 0) 10) 2),(.fld (.sz (.s 0) 10) 3),(.fld (.sz (.s 0) 10) 4),(.fld (.sz (.s 0) 10) 5),(.fld (.sz (.s 0) 10) 6),(.fld (.sz (.s 0) 10) 7),(.fld (.sz (.s 0) 10) 8),(.fld (.sz (.s 0) 10) 9)]),(3,.v (.c (.sl []))),(4,.v (.c (.int .i64 (0))))]⟩)
(.seq
(.reg ⟨[.call 8 [] (.id 42) false false [(.mm 2 0 10)]],[],[(5,.v (.ext (.s 8) 0)),(6,.v (.ext (.s 8) 1))]⟩)
(.seq
(.seq
(.reg ⟨[.lt 9 [] (.un .not (.s 6)),.lt 10 [] (.ite (.s 9) (.c (.bool true)) (.bin .lss (.s 1) (.c (.int .i64 (1)))))],[([(9,false)],(.bin .lss (.s 1) (.c (.int .i64 (1))))),([(10,false)],(.bin .gtr (.s 1) (.c (.int .i64 (4)))))],[(7,.v (.ite (.s 10) (.c (.bool true)) (.bin .gtr (.s 1) (.c (.int .i64 (4))))))]⟩)
(.cond (.s 7)
 (.seq
 (.reg ⟨[],[],[(4,.v (.c (.int .i64 (1))))]⟩)
 .ret)
 .skip))
(.seq
(.reg ⟨[],[],[(3,.v (.fld (.ai (.flds (.star (.s 5)) 17 4) (.bin .sub (.s 1) (.c (.int .i64 (1)))) 4 1 true) 0)),(4,.v (.c (.int .i64 (0))))]⟩)
.ret)))),
[(3,.v),(4,.v)]⟩
theorem c22:Zf Try.prog fresh sig [.fz,.fz] [] Try.f22=some p22:=by kernel_rfl
def p26:Fn:=⟨6,[0,1,2,3,4,11],
(.seq
(.reg ⟨[],[],[(1,.m [(.fld (.sz (.s 0) 10) 0),(.fld (.sz (.s 0) 10) 1),(.fld (.sz (.s 0) 10) 2),(.fld (.sz (.s 0) 10) 3),(.fld (.sz (.s 0) 10) 4),(.fld (.sz (.s 0) 10) 5),(.fld (.sz (.s 0) 10) 6),(.fld (.sz (.s 0) 10) 7),(.fld (.sz (.s 0) 10) 8),(.fld (.sz (.s 0) 10) 9)]),(2,.v (.c (.int .i64 (0))))]⟩)
(.seq
(.reg ⟨[.call 6 [] (.id 42) false false [(.mm 1 0 10)]],[],[(3,.v (.ext (.s 6) 0)),(4,.v (.ext (.s 6) 1))]⟩)
(.seq
(.seq
(.reg ⟨[],[],[(5,.v (.un .not (.s 4)))]⟩)
(.cond (.s 5)
 (.seq
 (.reg ⟨[],[],[(2,.v (.c (.int .i64 (0))))]⟩)
 .ret)
 .skip))
(.seq
(.reg ⟨[.call 7 [] (.id 44) false false [(.s 3)]],[],[(2,.v (.s 7))]⟩)
.ret)))),
[(2,.v)]⟩
theorem c26:Zf Try.prog fresh sig [.fz] [] Try.f26=some p26:=by kernel_rfl
def p33:Fn:=⟨5,[0,1,2,3,4],
(.seq
(.reg ⟨[],[],[(1,.m [(.fld (.sz (.s 0) 10) 0),(.fld (.sz (.s 0) 10) 1),(.fld (.sz (.s 0) 10) 2),(.fld (.sz (.s 0) 10) 3),(.fld (.sz (.s 0) 10) 4),(.fld (.sz (.s 0) 10) 5),(.fld (.sz (.s 0) 10) 6),(.fld (.sz (.s 0) 10) 7),(.fld (.sz (.s 0) 10) 8),(.fld (.sz (.s 0) 10) 9)]),(2,.v (.c (.bool false)))]⟩)
(.seq
(.reg ⟨[.call 5 [] (.id 42) false false [(.mm 1 0 10)]],[],[(3,.v (.ext (.s 5) 0)),(4,.v (.ext (.s 5) 1))]⟩)
(.seq
(.reg ⟨[],[],[(2,.v (.s 4))]⟩)
.ret))),
[(2,.v)]⟩
theorem c33:Zf Try.prog fresh sig [.fz] [] Try.f33=some p33:=by kernel_rfl
def p42:Fn:=⟨12,[0,1,2,3,13,4,16,15,17,6,14,24],
(.seq
(.reg ⟨[],[],[(1,.m [(.fld (.sz (.s 0) 10) 0),(.fld (.sz (.s 0) 10) 1),(.fld (.sz (.s 0) 10) 2),(.fld (.sz (.s 0) 10) 3),(.fld (.sz (.s 0) 10) 4),(.fld (.sz (.s 0) 10) 5),(.fld (.sz (.s 0) 10) 6),(.fld (.sz (.s 0) 10) 7),(.fld (.sz (.s 0) 10) 8),(.fld (.sz (.s 0) 10) 9)]),(2,.v (.c (.nul 0))),(3,.v (.c (.bool false)))]⟩)
(.seq
(.reg ⟨[.call 12 [] (.id 51) false false [(.mm 1 0 10)]],[([],(.ag [(.fld (.mm 1 0 10) 0),(.fld (.mm 1 0 10) 1),(.fld (.mm 1 0 10) 2),(.fld (.mm 1 0 10) 3),(.fld (.mm 1 0 10) 4),(.fld (.mm 1 0 10) 5),(.fld (.mm 1 0 10) 6),(.fld (.mm 1 0 10) 7),(.fld (.mm 1 0 10) 8),(.fld (.mm 1 0 10) 9),(.fld (.sz (.s 12) 7) 0),(.fld (.sz (.s 12) 7) 1),(.fld (.sz (.s 12) 7) 2),(.fld (.sz (.s 12) 7) 3),(.fld (.sz (.s 12) 7) 4),(.fld (.sz (.s 12) 7) 5),(.fld (.sz (.s 12) 7) 6),(.c (.sl [])),(.c (.sl [])),(.c (.sl [])),(.c (.sl [])),(.c (.mp 0 [] [])),(.c (.mp 0 [] []))]))],[(5,.m [(.fld (.mm 1 0 10) 0),(.fld (.mm 1 0 10) 1),(.fld (.mm 1 0 10) 2),(.fld (.mm 1 0 10) 3),(.fld (.mm 1 0 10) 4),(.fld (.mm 1 0 10) 5),(.fld (.mm 1 0 10) 6),(.fld (.mm 1 0 10) 7),(.fld (.mm 1 0 10) 8),(.fld (.mm 1 0 10) 9),(.fld (.sz (.s 12) 7) 0),(.fld (.sz (.s 12) 7) 1),(.fld (.sz (.s 12) 7) 2),(.fld (.sz (.s 12) 7) 3),(.fld (.sz (.s 12) 7) 4),(.fld (.sz (.s 12) 7) 5),(.fld (.sz (.s 12) 7) 6),(.c (.sl [])),(.c (.sl [])),(.c (.sl [])),(.c (.sl [])),(.c (.mp 0 [] [])),(.c (.mp 0 [] []))])]⟩)
(.seq
(.seq
(.reg ⟨[.call 10 [] (.id 76) false false []],[],[(6,.v (.c (.int .i64 (0)))),(7,.v (.len (.s 10)))]⟩)
(.block 0
 (.loop [0,1,2,3,5,6,7,10]
  (.seq
  (.reg ⟨[],[],[(8,.v (.bin .lss (.s 6) (.s 7)))]⟩)
  (.seq
  (.cond (.s 8)
   .skip
   (.exit 0))
  (.seq
  (.block 1
   (.seq
   (.reg ⟨[],[],[(9,.m [(.fld (.flds (.idx (.s 10) (.s 6) 1) 0 1) 0)])]⟩)
   (.seq
   (.reg ⟨[.callm 13 [] (.e (.m 9 0)) [(.mem [.fz,.fz,.fz,.fz,.fz,.fz,.fz,.fz,.fz,.fz,.fz,.fz,.fz,.fz,.fz,.fz,.fz,.fz,.fz,.fz,.fz,(.own 80),(.own 81)])] [(.ag [(.m 5 0),(.m 5 1),(.m 5 2),(.m 5 3),(.m 5 4),(.m 5 5),(.m 5 6),(.m 5 7),(.m 5 8),(.m 5 9),(.m 5 10),(.m 5 11),(.m 5 12),(.m 5 13),(.m 5 14),(.m 5 15),(.m 5 16),(.m 5 17),(.m 5 18),(.m 5 19),(.m 5 20),(.m 5 21),(.m 5 22)])]],[],[(5,.m [(.fld (.ext (.s 13) 1) 0),(.fld (.ext (.s 13) 1) 1),(.fld (.ext (.s 13) 1) 2),(.fld (.ext (.s 13) 1) 3),(.fld (.ext (.s 13) 1) 4),(.fld (.ext (.s 13) 1) 5),(.fld (.ext (.s 13) 1) 6),(.fld (.ext (.s 13) 1) 7),(.fld (.ext (.s 13) 1) 8),(.fld (.ext (.s 13) 1) 9),(.fld (.ext (.s 13) 1) 10),(.fld (.ext (.s 13) 1) 11),(.fld (.ext (.s 13) 1) 12),(.fld (.ext (.s 13) 1) 13),(.fld (.ext (.s 13) 1) 14),(.fld (.ext (.s 13) 1) 15),(.fld (.ext (.s 13) 1) 16),(.fld (.ext (.s 13) 1) 17),(.fld (.ext (.s 13) 1) 18),(.fld (.ext (.s 13) 1) 19),(.fld (.ext (.s 13) 1) 20),(.fld (.ext (.s 13) 1) 21),(.fld (.ext (.s 13) 1) 22)]),(11,.v (.un .not (.ext (.s 13) 0)))]⟩)
   (.cond (.s 11)
    (.seq
    (.reg ⟨[],[],[(2,.v (.c (.nul 0))),(3,.v (.c (.bool false)))]⟩)
    .ret)
    .skip))))
  (.reg ⟨[],[],[(6,.v (.bin .add (.s 6) (.c (.int .i64 (1)))))]⟩)))))))
(.seq
(.reg ⟨[],[],[(2,.v (.pt none [(.m 5 0),(.m 5 1),(.m 5 2),(.m 5 3),(.m 5 4),(.m 5 5),(.m 5 6),(.m 5 7),(.m 5 8),(.m 5 9),(.m 5 10),(.m 5 11),(.m 5 12),(.m 5 13),(.m 5 14),(.m 5 15),(.m 5 16),(.m 5 17),(.m 5 18),(.m 5 19),(.m 5 20),(.m 5 21),(.m 5 22)])),(3,.v (.c (.bool true))),(5,.no)]⟩)
.ret)))),
[(2,.v),(3,.v)]⟩
theorem c42:Zf Try.prog fresh sig [.fz] [] Try.f42=some p42:=by kernel_rfl
def p44:Fn:=⟨11,[0,2,3,4,8,19,18,20,6,17,25],
(.seq
(.reg ⟨[],[],[(1,.v (.c (.int .i64 (0))))]⟩)
(.seq
(.reg ⟨[],[],[(2,.v (.c (.int .i64 (0))))]⟩)
(.seq
(.seq
(.reg ⟨[],[],[(3,.v (.c (.int .i64 (3))))]⟩)
(.block 0
 (.loop [0,1,2,3]
  (.seq
  (.seq
  (.reg ⟨[],[],[(4,.v (.bin .leq (.s 3) (.c (.int .i64 (4)))))]⟩)
  (.cond (.s 4)
   .skip
   (.exit 0)))
  (.seq
  (.block 1
   (.seq
   (.reg ⟨[],[],[(5,.v (.c (.int .i64 (0)))),(6,.v (.len (.fld (.ai (.flds (.star (.s 0)) 17 4) (.bin .sub (.s 3) (.c (.int .i64 (1)))) 4 1 true) 0))),(9,.v (.fld (.ai (.flds (.star (.s 0)) 17 4) (.bin .sub (.s 3) (.c (.int .i64 (1)))) 4 1 true) 0))]⟩)
   (.block 2
    (.loop [0,1,2,3,4,5,6,9]
     (.seq
     (.reg ⟨[],[],[(7,.v (.bin .lss (.s 5) (.s 6)))]⟩)
     (.seq
     (.cond (.s 7)
      .skip
      (.exit 2))
     (.seq
     (.block 3
      (.seq
      (.reg ⟨[],[],[(8,.m [(.fld (.flds (.idx (.s 9) (.s 5) 5) 0 5) 0),(.fld (.flds (.idx (.s 9) (.s 5) 5) 0 5) 1),(.fld (.flds (.idx (.s 9) (.s 5) 5) 0 5) 2),(.fld (.flds (.idx (.s 9) (.s 5) 5) 0 5) 3),(.fld (.flds (.idx (.s 9) (.s 5) 5) 0 5) 4)])]⟩)
      (.seq
      (.reg ⟨[],[],[(10,.v (.un .not (.m 8 3)))]⟩)
      (.cond (.s 10)
       (.reg ⟨[],[],[(2,.v (.bin .add (.s 2) (.bin .add (.c (.int .i64 (1))) (.m 8 1))))]⟩)
       .skip))))
     (.reg ⟨[],[],[(5,.v (.bin .add (.s 5) (.c (.int .i64 (1)))))]⟩))))))))
  (.reg ⟨[],[],[(3,.v (.bin .add (.s 3) (.c (.int .i64 (1)))))]⟩))))))
(.seq
(.reg ⟨[],[],[(1,.v (.s 2))]⟩)
.ret)))),
[(1,.v)]⟩
theorem c44:Zf Try.prog fresh sig [.fz] [] Try.f44=some p44:=by kernel_rfl
def p76:Fn:=⟨1,[0],
(.seq
(.reg ⟨[],[],[(0,.v (.c (.sl [])))]⟩)
(.seq
(.reg ⟨[],[],[(0,.v (.lit [(.ag [(.c (.fn 95))]),(.ag [(.c (.fn 96))]),(.ag [(.c (.fn 97))]),(.ag [(.c (.fn 98))]),(.ag [(.c (.fn 99))]),(.ag [(.c (.fn 100))]),(.ag [(.c (.fn 101))]),(.ag [(.c (.fn 102))])]))]⟩)
.ret)),
[(0,.v)]⟩
theorem c76:Zf Try.prog fresh sig [] [] Try.f76=some p76:=by kernel_rfl
def p95:Fn:=⟨2,[0,2],
(.seq
(.reg ⟨[],[],[(1,.v (.c (.bool false)))]⟩)
(.seq
(.reg ⟨[.call 2 [] (.id 43) false false [(.flds (.star (.s 0)) 10 7)],.lt 3 [] (.s 2),.lt 4 [] (.ite (.s 3) (.bin .leq (.len (.fld (.star (.s 0)) 9)) (.c (.int .i64 (16)))) (.c (.bool false))),.lt 5 [] (.ite (.s 4) (.bin .geq (.fld (.star (.s 0)) 4) (.c (.int .i64 (0)))) (.c (.bool false)))],[([(3,true)],(.bin .leq (.len (.fld (.star (.s 0)) 9)) (.c (.int .i64 (16))))),([(4,true)],(.bin .geq (.fld (.star (.s 0)) 4) (.c (.int .i64 (0))))),([(5,true)],(.bin .leq (.fld (.star (.s 0)) 4) (.len (.fld (.star (.s 0)) 5))))],[(1,.v (.ite (.s 5) (.bin .leq (.fld (.star (.s 0)) 4) (.len (.fld (.star (.s 0)) 5))) (.c (.bool false))))]⟩)
.ret)),
[(1,.v)]⟩
theorem c95:Zf Try.prog fresh sig [.fz] [] Try.f95=some p95:=by kernel_rfl
def p96:Fn:=⟨3,[0,2,7],
(.seq
(.reg ⟨[],[],[(1,.v (.c (.bool false)))]⟩)
(.seq
(.seq
(.reg ⟨[],[],[(2,.v (.fld (.star (.s 0)) 3))]⟩)
(.cond (.s 2)
 (.seq
 (.reg ⟨[],[],[(1,.v (.bin .lss (.fld (.star (.s 0)) 4) (.len (.fld (.star (.s 0)) 5))))]⟩)
 .ret)
 .skip))
(.seq
(.reg ⟨[.lt 3 [] (.bin .eql (.len (.fld (.star (.s 0)) 7)) (.c (.int .i64 (0)))),.lt 4 [] (.ite (.s 3) (.bin .eql (.len (.fld (.star (.s 0)) 8)) (.c (.int .i64 (0)))) (.c (.bool false)))],[([(3,true)],(.bin .eql (.len (.fld (.star (.s 0)) 8)) (.c (.int .i64 (0))))),([(4,true)],(.bin .eql (.fld (.star (.s 0)) 4) (.len (.fld (.star (.s 0)) 5))))],[(1,.v (.ite (.s 4) (.bin .eql (.fld (.star (.s 0)) 4) (.len (.fld (.star (.s 0)) 5))) (.c (.bool false))))]⟩)
.ret))),
[(1,.v)]⟩
theorem c96:Zf Try.prog fresh sig [.fz] [] Try.f96=some p96:=by kernel_rfl
def p97:Fn:=⟨11,[0,2,3,8,9,4,5,6,7,18,39],
(.seq
(.reg ⟨[],[],[(1,.v (.c (.bool false)))]⟩)
(.seq
(.reg ⟨[],[],[(2,.v (.c (.bool true)))]⟩)
(.seq
.skip
(.seq
(.seq
(.reg ⟨[],[],[(3,.v (.c (.int .i64 (0))))]⟩)
(.block 0
 (.loop [0,1,2,3]
  (.seq
  (.reg ⟨[],[],[(4,.v (.bin .lss (.s 3) (.c (.int .i64 (4)))))]⟩)
  (.seq
  (.cond (.s 4)
   .skip
   (.exit 0))
  (.seq
  (.block 1
   (.seq
   (.reg ⟨[],[],[(5,.v (.s 3))]⟩)
   (.seq
   (.reg ⟨[],[],[(6,.v (.bin .add (.s 5) (.c (.int .i64 (1)))))]⟩)
   (.seq
   (.reg ⟨[],[],[(7,.v (.c (.sl [])))]⟩)
   (.seq
   (.reg ⟨[],[],[(8,.v (.c (.int .i64 (0))))]⟩)
   (.seq
   (.seq
   (.reg ⟨[.lt 11 [] (.bin .eql (.s 6) (.c (.int .i64 (1))))],[([(11,false)],(.bin .eql (.s 6) (.c (.int .i64 (2)))))],[(9,.v (.ite (.s 11) (.c (.bool true)) (.bin .eql (.s 6) (.c (.int .i64 (2))))))]⟩)
   (.cond (.s 9)
    (.reg ⟨[.call 12 [] (.id 109) false false [(.pt none [(.m 0 0),(.m 0 1),(.m 0 2),(.m 0 3),(.m 0 4),(.m 0 5),(.m 0 6),(.m 0 7),(.m 0 8),(.m 0 9),(.m 0 10),(.m 0 11),(.m 0 12),(.m 0 13),(.m 0 14),(.m 0 15),(.m 0 16),(.m 0 17),(.m 0 18),(.m 0 19),(.m 0 20),(.m 0 21),(.m 0 22)]),(.s 6)],.call 13 [] (.id 108) true false [(.s 12)]],[],[(7,.v (.ext (.s 13) 0)),(8,.v (.ext (.s 13) 1))]⟩)
    (.reg ⟨[.call 14 [] (.id 109) false false [(.pt none [(.m 0 0),(.m 0 1),(.m 0 2),(.m 0 3),(.m 0 4),(.m 0 5),(.m 0 6),(.m 0 7),(.m 0 8),(.m 0 9),(.m 0 10),(.m 0 11),(.m 0 12),(.m 0 13),(.m 0 14),(.m 0 15),(.m 0 16),(.m 0 17),(.m 0 18),(.m 0 19),(.m 0 20),(.m 0 21),(.m 0 22)]),(.s 6)],.call 15 [] (.id 109) false false [(.pt none [(.m 0 0),(.m 0 1),(.m 0 2),(.m 0 3),(.m 0 4),(.m 0 5),(.m 0 6),(.m 0 7),(.m 0 8),(.m 0 9),(.m 0 10),(.m 0 11),(.m 0 12),(.m 0 13),(.m 0 14),(.m 0 15),(.m 0 16),(.m 0 17),(.m 0 18),(.m 0 19),(.m 0 20),(.m 0 21),(.m 0 22)]),(.s 6)],.call 16 [] (.id 111) false false [(.pt none [(.m 0 0),(.m 0 1),(.m 0 2),(.m 0 3),(.m 0 4),(.m 0 5),(.m 0 6),(.m 0 7),(.m 0 8),(.m 0 9),(.m 0 10),(.m 0 11),(.m 0 12),(.m 0 13),(.m 0 14),(.m 0 15),(.m 0 16),(.m 0 17),(.m 0 18),(.m 0 19),(.m 0 20),(.m 0 21),(.m 0 22)]),(.s 15)],.call 17 [] (.id 110) true false [(.s 14),(.s 16)]],[],[(7,.v (.ext (.s 17) 0)),(8,.v (.ext (.s 17) 1))]⟩)))
   (.seq
   (.seq
   (.reg ⟨[],[],[(10,.v (.bin .neq (.s 8) (.c (.int .i64 (0)))))]⟩)
   (.cond (.s 10)
    (.seq
    (.reg ⟨[],[],[(2,.v (.c (.bool false)))]⟩)
    (.exit 0))
    .skip))
   (.reg ⟨[.callm 18 [] (.id 112) [(.mem [.fz,.fz,.fz,.fz,.fz,.fz,.fz,.fz,.fz,.fz,.fz,.fz,.fz,.fz,.fz,.fz,.fz,.fz,.fz,.fz,.fz,(.own 80),(.own 81)]),.fz,.fz] [(.ag [(.m 0 0),(.m 0 1),(.m 0 2),(.m 0 3),(.m 0 4),(.m 0 5),(.m 0 6),(.m 0 7),(.m 0 8),(.m 0 9),(.m 0 10),(.m 0 11),(.m 0 12),(.m 0 13),(.m 0 14),(.m 0 15),(.m 0 16),(.m 0 17),(.m 0 18),(.m 0 19),(.m 0 20),(.m 0 21),(.m 0 22)]),(.s 6),(.s 7)]],[],[(0,.m [(.fld (.ext (.s 18) 1) 0),(.fld (.ext (.s 18) 1) 1),(.fld (.ext (.s 18) 1) 2),(.fld (.ext (.s 18) 1) 3),(.fld (.ext (.s 18) 1) 4),(.fld (.ext (.s 18) 1) 5),(.fld (.ext (.s 18) 1) 6),(.fld (.ext (.s 18) 1) 7),(.fld (.ext (.s 18) 1) 8),(.fld (.ext (.s 18) 1) 9),(.fld (.ext (.s 18) 1) 10),(.fld (.ext (.s 18) 1) 11),(.fld (.ext (.s 18) 1) 12),(.fld (.ext (.s 18) 1) 13),(.fld (.ext (.s 18) 1) 14),(.fld (.ext (.s 18) 1) 15),(.fld (.ext (.s 18) 1) 16),(.fld (.ext (.s 18) 1) 17),(.fld (.ext (.s 18) 1) 18),(.fld (.ext (.s 18) 1) 19),(.fld (.ext (.s 18) 1) 20),(.fld (.ext (.s 18) 1) 21),(.fld (.ext (.s 18) 1) 22)])]⟩))))))))
  (.reg ⟨[],[],[(3,.v (.bin .add (.s 3) (.c (.int .i64 (1)))))]⟩)))))))
(.seq
(.reg ⟨[],[],[(1,.v (.s 2))]⟩)
.ret))))),
[(1,.v)]⟩
theorem c97:Zf Try.prog fresh sig [(.mem [.fz,.fz,.fz,.fz,.fz,.fz,.fz,.fz,.fz,.fz,.fz,.fz,.fz,.fz,.fz,.fz,.fz,.fz,.fz,.fz,.fz,(.own 80),(.own 81)])] [(0,(.mem [.fz,.fz,.fz,.fz,.fz,.fz,.fz,.fz,.fz,.fz,.fz,.fz,.fz,.fz,.fz,.fz,.fz,.fz,.fz,.fz,.fz,(.own 80),(.own 81)]))] Try.f97=some p97:=by kernel_rfl
def p98:Fn:=⟨13,[0,2,12,3,4,15,26,25,27,6,24,32,46],
(.seq
(.reg ⟨[],[],[(1,.v (.c (.bool false)))]⟩)
(.seq
(.seq
(.reg ⟨[],[],[(2,.v (.un .not (.fld (.star (.s 0)) 3)))]⟩)
(.cond (.s 2)
 (.seq
 (.reg ⟨[],[],[(1,.v (.c (.bool true)))]⟩)
 .ret)
 .skip))
(.seq
(.reg ⟨[],[],[(3,.v (.c (.mp 0 [] [])))]⟩)
(.seq
(.seq
(.reg ⟨[],[],[(4,.v (.c (.int .i64 (3))))]⟩)
(.block 0
 (.loop [0,1,2,3,4]
  (.seq
  (.seq
  (.reg ⟨[],[],[(5,.v (.bin .leq (.s 4) (.c (.int .i64 (4)))))]⟩)
  (.cond (.s 5)
   .skip
   (.exit 0)))
  (.seq
  (.block 1
   (.seq
   (.reg ⟨[],[],[(6,.v (.c (.int .i64 (0)))),(7,.v (.len (.fld (.ai (.flds (.star (.s 0)) 17 4) (.bin .sub (.s 4) (.c (.int .i64 (1)))) 4 1 true) 0))),(10,.v (.fld (.ai (.flds (.star (.s 0)) 17 4) (.bin .sub (.s 4) (.c (.int .i64 (1)))) 4 1 true) 0))]⟩)
   (.block 2
    (.loop [0,1,2,3,4,5,6,7,10]
     (.seq
     (.reg ⟨[],[],[(8,.v (.bin .lss (.s 6) (.s 7)))]⟩)
     (.seq
     (.cond (.s 8)
      .skip
      (.exit 2))
     (.seq
     (.block 3
      (.seq
      (.reg ⟨[],[],[(9,.m [(.fld (.flds (.idx (.s 10) (.s 6) 5) 0 5) 0),(.fld (.flds (.idx (.s 10) (.s 6) 5) 0 5) 1),(.fld (.flds (.idx (.s 10) (.s 6) 5) 0 5) 2),(.fld (.flds (.idx (.s 10) (.s 6) 5) 0 5) 3),(.fld (.flds (.idx (.s 10) (.s 6) 5) 0 5) 4)])]⟩)
      (.seq
      (.seq
      (.reg ⟨[],[],[(11,.v (.un .not (.m 9 3)))]⟩)
      (.cond (.s 11)
       (.exit 3)
       .skip))
      (.seq
      (.seq
      (.reg ⟨[.lt 13 [] (.bin .neq (.lk (.i .u64) (.fld (.star (.s 0)) 21) (.m 9 4) (.int .i64 (0)) false) (.c (.int .i64 (1))))],[([(13,false)],(.fl (.lk (.i .u64) (.s 3) (.m 9 4) (.bool false) false)))],[(12,.v (.ite (.s 13) (.c (.bool true)) (.fl (.lk (.i .u64) (.s 3) (.m 9 4) (.bool false) false))))]⟩)
      (.cond (.s 12)
       (.seq
       (.reg ⟨[],[],[(1,.v (.c (.bool false)))]⟩)
       .ret)
       .skip))
      (.reg ⟨[],[],[(3,.v (.mput (.i .u64) (.s 3) (.m 9 4) (.c (.bool true))))]⟩)))))
     (.reg ⟨[],[],[(6,.v (.bin .add (.s 6) (.c (.int .i64 (1)))))]⟩))))))))
  (.reg ⟨[],[],[(4,.v (.bin .add (.s 4) (.c (.int .i64 (1)))))]⟩))))))
(.seq
(.reg ⟨[],[],[(1,.v (.bin .eql (.mlen (.s 3)) (.len (.fld (.ai (.flds (.star (.s 0)) 17 4) (.c (.int .i64 (0))) 4 1 true) 0))))]⟩)
.ret))))),
[(1,.v)]⟩
theorem c98:Zf Try.prog fresh sig [.fz] [] Try.f98=some p98:=by kernel_rfl
def p99:Fn:=⟨9,[0,1,2,11,10,12,4,9,18],
(.seq
(.reg ⟨[],[],[(1,.m [(.one (.s 0))]),(2,.v (.c (.bool false)))]⟩)
(.seq
(.seq
(.reg ⟨[],[],[(3,.v (.c (.int .i64 (0)))),(4,.v (.len (.fld (.star (.m 1 0)) 9))),(7,.v (.fld (.star (.m 1 0)) 9))]⟩)
(.block 0
 (.loop [0,1,2,3,4,7]
  (.seq
  (.reg ⟨[],[],[(5,.v (.bin .lss (.s 3) (.s 4)))]⟩)
  (.seq
  (.cond (.s 5)
   .skip
   (.exit 0))
  (.seq
  (.block 1
   (.seq
   (.reg ⟨[],[],[(6,.v (.fld (.idx (.s 7) (.s 3) 1) 0))]⟩)
   (.seq
   (.reg ⟨[.call 9 [] (.id 113) false false [(.m 1 0),(.s 6),(.c (.int .i64 (1))),(.c (.int .i64 (2)))]],[],[(8,.v (.un .not (.s 9)))]⟩)
   (.cond (.s 8)
    (.seq
    (.reg ⟨[],[],[(2,.v (.c (.bool false)))]⟩)
    .ret)
    .skip))))
  (.reg ⟨[],[],[(3,.v (.bin .add (.s 3) (.c (.int .i64 (1)))))]⟩)))))))
(.seq
(.reg ⟨[.call 10 [] (.id 114) false true [(.m 1 0),(.c (.int .i64 (2))),(.pt (some 115) [(.pt none [(.m 1 0)])])],.lt 11 [] (.s 10),.call 12 [(11,true)] (.id 114) false true [(.m 1 0),(.c (.int .i64 (1))),(.pt (some 116) [(.pt none [(.m 1 0)])])]],[],[(2,.v (.ite (.s 11) (.s 12) (.c (.bool false))))]⟩)
.ret))),
[(2,.v)]⟩
theorem c99:Zf Try.prog fresh sig [.fz] [] Try.f99=some p99:=by kernel_rfl
def p100:Fn:=⟨3,[0,1,2],
(.seq
(.reg ⟨[],[],[(1,.m [(.one (.s 0))]),(2,.v (.c (.bool false)))]⟩)
(.seq
(.reg ⟨[.call 3 [] (.id 114) false true [(.m 1 0),(.c (.int .i64 (1))),(.pt (some 117) [(.pt none [(.m 1 0)])])]],[],[(2,.v (.s 3))]⟩)
.ret)),
[(2,.v)]⟩
theorem c100:Zf Try.prog fresh sig [.fz] [] Try.f100=some p100:=by kernel_rfl
def p101:Fn:=⟨4,[0,1,2,3],
(.seq
(.reg ⟨[],[],[(1,.m [(.one (.s 0))]),(2,.v (.c (.bool false)))]⟩)
(.seq
(.reg ⟨[],[],[(3,.no)]⟩)
(.seq
(.reg ⟨[.call 4 [] (.id 114) false true [(.m 1 0),(.c (.int .i64 (3))),(.pt (some 118) [(.pt none [(.m 1 0)])])],.lt 5 [] (.s 4),.call 6 [(5,true)] (.id 114) false true [(.m 1 0),(.c (.int .i64 (4))),(.pt (some 118) [(.pt none [(.m 1 0)])])]],[],[(2,.v (.ite (.s 5) (.s 6) (.c (.bool false)))),(3,.no)]⟩)
.ret))),
[(2,.v)]⟩
theorem c101:Zf Try.prog fresh sig [.fz] [] Try.f101=some p101:=by kernel_rfl
def p102:Fn:=⟨2,[0,2],
(.seq
(.reg ⟨[],[],[(1,.v (.c (.bool false)))]⟩)
(.seq
(.reg ⟨[.call 2 [] (.id 44) false false [(.s 0)]],[],[(1,.v (.bin .leq (.bin .add (.bin .add (.len (.fld (.star (.s 0)) 5)) (.len (.fld (.star (.s 0)) 6))) (.s 2)) (.fld (.star (.s 0)) 1)))]⟩)
.ret)),
[(1,.v)]⟩
theorem c102:Zf Try.prog fresh sig [.fz] [] Try.f102=some p102:=by kernel_rfl
def p109:Fn:=⟨3,[0,1,4],
(.seq
(.reg ⟨[],[],[(2,.v (.c (.sl [])))]⟩)
(.seq
(.reg ⟨[],[],[(2,.v (.ai (.ag [(.fld (.star (.s 0)) 5),(.fld (.star (.s 0)) 6),(.fld (.star (.s 0)) 7),(.fld (.star (.s 0)) 8)]) (.bin .sub (.s 1) (.c (.int .i64 (1)))) 4 1 false))]⟩)
.ret)),
[(2,.v)]⟩
theorem c109:Zf Try.prog fresh sig [.fz,.fz] [] Try.f109=some p109:=by kernel_rfl
def p111:Fn:=⟨14,[0,1,4,5,6,15,7,8,9,25,10,11,36,52],
(.seq
(.reg ⟨[],[],[(2,.v (.c (.sl [])))]⟩)
(.seq
(.reg ⟨[],[],[(3,.v (.c (.sl [])))]⟩)
(.seq
(.seq
(.reg ⟨[],[],[(4,.v (.c (.int .i64 (0))))]⟩)
(.block 0
 (.loop [0,1,2,3,4]
  (.seq
  (.seq
  (.reg ⟨[],[],[(5,.v (.bin .lss (.s 4) (.len (.s 1))))]⟩)
  (.cond (.s 5)
   .skip
   (.exit 0)))
  (.block 1
   (.seq
   (.reg ⟨[],[],[(6,.m [(.c (.int .i64 (0))),(.c (.int .i64 (0)))])]⟩)
   (.seq
   (.seq
   (.reg ⟨[.call 14 [] (.id 59) false false [(.fld (.idx (.s 1) (.s 4) 1) 0)]],[],[(7,.v (.ext (.s 14) 0)),(8,.v (.ext (.s 14) 1))]⟩)
   (.seq
   (.reg ⟨[],[],[(9,.v (.bin .eql (.s 8) (.c (.int .i64 (0)))))]⟩)
   (.cond (.s 9)
    (.seq
    (.reg ⟨[],[],[(10,.m [(.fld (.sz (.ext (.lk (.i .u64) (.fld (.star (.s 0)) 22) (.s 7) (.agg [(.int .i64 (0)),(.int .i64 (0))]) true) 0) 2) 0),(.fld (.sz (.ext (.lk (.i .u64) (.fld (.star (.s 0)) 22) (.s 7) (.agg [(.int .i64 (0)),(.int .i64 (0))]) true) 0) 2) 1)]),(11,.v (.ext (.lk (.i .u64) (.fld (.star (.s 0)) 22) (.s 7) (.agg [(.int .i64 (0)),(.int .i64 (0))]) true) 1))]⟩)
    (.seq
    (.seq
    (.reg ⟨[],[],[(12,.v (.un .not (.s 11)))]⟩)
    (.cond (.s 12)
     (.seq
     (.reg ⟨[],[],[(2,.v (.s 3)),(3,.no)]⟩)
     .ret)
     .skip))
    (.seq
    (.reg ⟨[],[],[(6,.m [(.fld (.mm 10 0 2) 0),(.fld (.mm 10 0 2) 1)])]⟩)
    (.reg ⟨[],[],[(3,.v (.app (.s 3) (.lit [(.mm 6 0 2)]) 2))]⟩))))
    (.seq
    (.reg ⟨[.call 15 [] (.id 62) false false [(.fld (.idx (.s 1) (.s 4) 1) 0)]],[],[(6,.m [(.fld (.sz (.ext (.s 15) 0) 2) 0),(.fld (.sz (.ext (.s 15) 0) 2) 1)]),(8,.v (.ext (.s 15) 1))]⟩)
    (.seq
    (.reg ⟨[],[],[(13,.v (.bin .neq (.s 8) (.c (.int .i64 (0)))))]⟩)
    (.cond (.s 13)
     (.seq
     (.reg ⟨[],[],[(2,.v (.s 3)),(3,.no)]⟩)
     .ret)
     .skip))))))
   (.reg ⟨[],[],[(4,.v (.bin .add (.s 4) (.bin .add (.c (.int .i64 (1))) (.m 6 0))))]⟩))))))))
(.seq
(.reg ⟨[],[],[(2,.v (.s 3)),(3,.no)]⟩)
.ret)))),
[(2,.v)]⟩
theorem c111:Zf Try.prog fresh sig [.fz,.fz] [] Try.f111=some p111:=by kernel_rfl
def p112:Fn:=⟨11,[0,1,2,19,18,20,7,17,8,9,42],
(.seq
(.reg ⟨[],[([],(.ai (.c (.agg [(.bool true),(.bool true),(.bool true),(.bool true)])) (.bin .sub (.s 1) (.c (.int .i64 (1)))) 4 1 false))],[(0,.m [(.m 0 0),(.m 0 1),(.m 0 2),(.m 0 3),(.m 0 4),(.m 0 5),(.m 0 6),(.m 0 7),(.m 0 8),(.m 0 9),(.m 0 10),(.m 0 11),(.m 0 12),(.m 0 13),(.m 0 14),(.m 0 15),(.m 0 16),(.fld (.aput (.mm 0 17 4) (.bin .sub (.s 1) (.c (.int .i64 (1)))) 4 1 (.one (.s 2))) 0),(.fld (.aput (.mm 0 17 4) (.bin .sub (.s 1) (.c (.int .i64 (1)))) 4 1 (.one (.s 2))) 1),(.fld (.aput (.mm 0 17 4) (.bin .sub (.s 1) (.c (.int .i64 (1)))) 4 1 (.one (.s 2))) 2),(.fld (.aput (.mm 0 17 4) (.bin .sub (.s 1) (.c (.int .i64 (1)))) 4 1 (.one (.s 2))) 3),(.m 0 21),(.m 0 22)])]⟩)
(.seq
(.reg ⟨[],[],[(3,.v (.c (.int .i64 (0)))),(4,.v (.len (.s 2))),(7,.v (.s 2))]⟩)
(.block 0
 (.loop [0,1,2,3,4,7]
  (.seq
  (.reg ⟨[],[],[(5,.v (.bin .lss (.s 3) (.s 4)))]⟩)
  (.seq
  (.cond (.s 5)
   .skip
   (.exit 0))
  (.seq
  (.block 1
   (.seq
   (.reg ⟨[],[],[(6,.m [(.fld (.flds (.idx (.s 7) (.s 3) 5) 0 5) 0),(.fld (.flds (.idx (.s 7) (.s 3) 5) 0 5) 1),(.fld (.flds (.idx (.s 7) (.s 3) 5) 0 5) 2),(.fld (.flds (.idx (.s 7) (.s 3) 5) 0 5) 3),(.fld (.flds (.idx (.s 7) (.s 3) 5) 0 5) 4)])]⟩)
   (.seq
   (.reg ⟨[.call 11 [] (.id 50) false false [(.mm 0 10 7),(.ag [(.one (.s 1)),(.m 6 0)])]],[],[(8,.v (.ext (.s 11) 0)),(9,.v (.ext (.s 11) 1))]⟩)
   (.seq
   (.reg ⟨[],[],[(0,.m [(.m 0 0),(.m 0 1),(.m 0 2),(.m 0 3),(.m 0 4),(.m 0 5),(.m 0 6),(.m 0 7),(.m 0 8),(.m 0 9),(.m 0 10),(.m 0 11),(.m 0 12),(.m 0 13),(.m 0 14),(.m 0 15),(.m 0 16),(.m 0 17),(.m 0 18),(.m 0 19),(.m 0 20),(.mput (.i .u64) (.m 0 21) (.s 8) (.s 1)),(.m 0 22)])]⟩)
   (.seq
   (.reg ⟨[],[],[(10,.v (.bin .eql (.s 1) (.c (.int .i64 (1)))))]⟩)
   (.cond (.s 10)
    (.reg ⟨[],[],[(0,.m [(.m 0 0),(.m 0 1),(.m 0 2),(.m 0 3),(.m 0 4),(.m 0 5),(.m 0 6),(.m 0 7),(.m 0 8),(.m 0 9),(.m 0 10),(.m 0 11),(.m 0 12),(.m 0 13),(.m 0 14),(.m 0 15),(.m 0 16),(.m 0 17),(.m 0 18),(.m 0 19),(.m 0 20),(.m 0 21),(.mput (.i .u64) (.m 0 22) (.s 8) (.mm 6 1 2))])]⟩)
    .skip))))))
  (.reg ⟨[],[],[(3,.v (.bin .add (.s 3) (.c (.int .i64 (1)))))]⟩)))))))),
[]⟩
theorem c112:Zf Try.prog fresh sig [(.mem [.fz,.fz,.fz,.fz,.fz,.fz,.fz,.fz,.fz,.fz,.fz,.fz,.fz,.fz,.fz,.fz,.fz,.fz,.fz,.fz,.fz,(.own 80),(.own 81)]),.fz,.fz] [(0,(.mem [.fz,.fz,.fz,.fz,.fz,.fz,.fz,.fz,.fz,.fz,.fz,.fz,.fz,.fz,.fz,.fz,.fz,.fz,.fz,.fz,.fz,(.own 80),(.own 81)]))] Try.f112=some p112:=by kernel_rfl
def p113:Fn:=⟨11,[0,1,2,3,8,14,9,10,21,11,12],
(.seq
(.reg ⟨[],[],[(4,.v (.c (.bool false)))]⟩)
(.seq
(.seq
(.reg ⟨[],[],[(5,.v (.bin .eql (.s 1) (.c (.int .u64 (0)))))]⟩)
(.cond (.s 5)
 (.seq
 (.reg ⟨[],[],[(4,.v (.c (.bool true)))]⟩)
 .ret)
 .skip))
(.seq
(.reg ⟨[.call 11 [] (.id 59) false false [(.s 1)]],[],[(6,.v (.ext (.s 11) 0)),(7,.v (.ext (.s 11) 1))]⟩)
(.seq
(.seq
(.reg ⟨[],[],[(8,.v (.bin .neq (.s 7) (.c (.int .i64 (0)))))]⟩)
(.cond (.s 8)
 (.seq
 (.reg ⟨[],[],[(4,.v (.c (.bool false)))]⟩)
 .ret)
 .skip))
(.seq
(.reg ⟨[],[],[(9,.v (.ext (.lk (.i .u64) (.fld (.star (.s 0)) 21) (.s 6) (.int .i64 (0)) true) 0)),(10,.v (.ext (.lk (.i .u64) (.fld (.star (.s 0)) 21) (.s 6) (.int .i64 (0)) true) 1))]⟩)
(.seq
(.reg ⟨[.lt 12 [] (.s 10),.lt 13 [] (.ite (.s 12) (.bin .geq (.s 9) (.s 2)) (.c (.bool false)))],[([(12,true)],(.bin .geq (.s 9) (.s 2))),([(13,true)],(.bin .leq (.s 9) (.s 3)))],[(4,.v (.ite (.s 13) (.bin .leq (.s 9) (.s 3)) (.c (.bool false))))]⟩)
.ret)))))),
[(4,.v)]⟩
theorem c113:Zf Try.prog fresh sig [.fz,.fz,.fz,.fz] [] Try.f113=some p113:=by kernel_rfl
def p114:Fn:=⟨17,[0,1,2,6,7,23,22,24,9,21,28,32,31,33,10,11,47],
(.seq
(.reg ⟨[],[],[(3,.v (.c (.bool false)))]⟩)
(.seq
(.reg ⟨[.call 17 [] (.id 109) false false [(.s 0),(.s 1)]],[],[(4,.v (.s 17))]⟩)
(.seq
(.seq
(.reg ⟨[],[],[(5,.v (.c (.int .i64 (0)))),(6,.v (.len (.fld (.ai (.flds (.star (.s 0)) 17 4) (.bin .sub (.s 1) (.c (.int .i64 (1)))) 4 1 true) 0))),(9,.v (.fld (.ai (.flds (.star (.s 0)) 17 4) (.bin .sub (.s 1) (.c (.int .i64 (1)))) 4 1 true) 0))]⟩)
(.block 0
 (.loop [0,1,2,3,4,5,6,9]
  (.seq
  (.reg ⟨[],[],[(7,.v (.bin .lss (.s 5) (.s 6)))]⟩)
  (.seq
  (.cond (.s 7)
   .skip
   (.exit 0))
  (.seq
  (.block 1
   (.seq
   (.reg ⟨[],[],[(8,.m [(.fld (.flds (.idx (.s 9) (.s 5) 5) 0 5) 0),(.fld (.flds (.idx (.s 9) (.s 5) 5) 0 5) 1),(.fld (.flds (.idx (.s 9) (.s 5) 5) 0 5) 2),(.fld (.flds (.idx (.s 9) (.s 5) 5) 0 5) 3),(.fld (.flds (.idx (.s 9) (.s 5) 5) 0 5) 4)])]⟩)
   (.seq
   (.seq
   (.reg ⟨[],[],[(10,.v (.m 8 3))]⟩)
   (.cond (.s 10)
    (.exit 1)
    .skip))
   (.seq
   (.reg ⟨[],[],[(11,.v (.c (.int .i64 (0)))),(12,.v (.m 8 2))]⟩)
   (.block 2
    (.loop [0,1,2,3,4,5,6,7,8,9,10,11,12]
     (.seq
     (.reg ⟨[],[],[(13,.v (.bin .lss (.s 11) (.s 12)))]⟩)
     (.seq
     (.cond (.s 13)
      .skip
      (.exit 2))
     (.seq
     (.block 3
      (.seq
      (.reg ⟨[],[],[(14,.v (.s 11))]⟩)
      (.seq
      (.reg ⟨[],[],[(15,.v (.bin .add (.bin .add (.m 8 0) (.c (.int .i64 (1)))) (.s 14)))]⟩)
      (.seq
      (.reg ⟨[.call 18 [] (.e (.s 2)) false false [(.s 15),(.fld (.idx (.s 4) (.s 15) 1) 0)]],[],[(16,.v (.un .not (.s 18)))]⟩)
      (.cond (.s 16)
       (.seq
       (.reg ⟨[],[],[(3,.v (.c (.bool false)))]⟩)
       .ret)
       .skip)))))
     (.reg ⟨[],[],[(11,.v (.bin .add (.s 11) (.c (.int .i64 (1)))))]⟩))))))))))
  (.reg ⟨[],[],[(5,.v (.bin .add (.s 5) (.c (.int .i64 (1)))))]⟩)))))))
(.seq
(.reg ⟨[],[],[(3,.v (.c (.bool true)))]⟩)
.ret)))),
[(3,.v)]⟩
theorem c114:Zf Try.prog fresh sig [.fz,.fz,.fz] [] Try.f114=some p114:=by kernel_rfl
def p115:Fn:=⟨4,[0,1,2,5],
(.seq
(.reg ⟨[],[],[(3,.v (.c (.bool false)))]⟩)
(.seq
(.reg ⟨[.call 4 [] (.id 113) false false [(.fld (.star (.s 2)) 0),(.s 1),(.c (.int .i64 (1))),(.c (.int .i64 (2)))]],[],[(3,.v (.s 4))]⟩)
.ret)),
[(3,.v)]⟩
theorem c115:Zf Try.prog fresh sig [.fz,.fz,.fz] [] Try.f115=some p115:=by kernel_rfl
def p116:Fn:=⟨4,[0,1,2,5],
(.seq
(.reg ⟨[],[],[(3,.v (.c (.bool false)))]⟩)
(.seq
(.reg ⟨[.lt 4 [] (.bin .geq (.s 0) (.fld (.star (.fld (.star (.s 2)) 0)) 4)),.call 5 [(4,false)] (.id 113) false false [(.fld (.star (.s 2)) 0),(.s 1),(.c (.int .i64 (1))),(.c (.int .i64 (2)))]],[],[(3,.v (.ite (.s 4) (.c (.bool true)) (.s 5)))]⟩)
.ret)),
[(3,.v)]⟩
theorem c116:Zf Try.prog fresh sig [.fz,.fz,.fz] [] Try.f116=some p116:=by kernel_rfl
def p117:Fn:=⟨4,[0,1,2,5],
(.seq
(.reg ⟨[],[],[(3,.v (.c (.bool false)))]⟩)
(.seq
(.reg ⟨[.lt 4 [] (.bin .lss (.s 0) (.fld (.star (.fld (.star (.s 2)) 0)) 4)),.call 5 [(4,false)] (.id 113) false false [(.fld (.star (.s 2)) 0),(.s 1),(.c (.int .i64 (1))),(.c (.int .i64 (4)))]],[],[(3,.v (.ite (.s 4) (.c (.bool true)) (.s 5)))]⟩)
.ret)),
[(3,.v)]⟩
theorem c117:Zf Try.prog fresh sig [.fz,.fz,.fz] [] Try.f117=some p117:=by kernel_rfl
def p118:Fn:=⟨4,[0,1,2,5],
(.seq
(.reg ⟨[],[],[(3,.v (.c (.bool false)))]⟩)
(.seq
(.reg ⟨[.call 4 [] (.id 113) false false [(.fld (.star (.s 2)) 0),(.s 1),(.c (.int .i64 (3))),(.c (.int .i64 (4)))]],[],[(3,.v (.s 4))]⟩)
.ret)),
[(3,.v)]⟩
theorem c118:Zf Try.prog fresh sig [.fz,.fz,.fz] [] Try.f118=some p118:=by kernel_rfl
end Vm
end
