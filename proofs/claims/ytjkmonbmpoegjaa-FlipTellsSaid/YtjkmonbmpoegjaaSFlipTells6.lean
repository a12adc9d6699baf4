import Derived.Deep.RegionHeld3
import Derived.Test.YtjkmonbmpoegjaaSFlipTells5
set_option linter.unusedSimpArgs false
set_option linter.unusedVariables false
section
namespace Vm
open Go Go.Proofs Go.RowKit
set_option maxHeartbeats 4000000
set_option maxRecDepth 100000
structure Now (B:Nat) (w:World) (b:Nat) (h:Hp) (x:Nat→Value):Prop where
 blk:w.heap[b]? =some (.cells #[.int .u64 h.base,.int .i64 h.cap,.int .i64 h.to,.bool h.cycle,.int .i64 h.scan,x 0,x 1,x 2,x 3,x 4] 113 (0,0))
 own:HOwn B w h x
 far: ∀j,j<5→ ∀c,(x j).ownBlock=some c→c≠b
 new:B≤b
def toOf(h:Hp)(part:Int)(a n:Nat):Int:=(X9 (ZG (layH (ZE h part a n)) 1 h.low.length).1).1
def zu(B:Nat)(w:World)(b:Nat)(h:Hp)(p a n:Nat)(e:Ending)(w':World):Prop:=
 ∃x',e= .returned (.int .u64 (toOf h (p+1) a n))∧Below B w w'∧Now B w' b (Ya (ZE h (p+1) a n) (p+1) ((zr (lsH h p) a n).set a (toOf h (p+1) a n))) x'
theorem Qf{P:Program}(w:World){o:Oper}{a:Act}{K:Act→World→Prop}{Q:Exit→Act→World→Prop}(s:Operand)(t:TypeId)
  (ho:o.op= .call {callee:= .builtin .clear,args:= #[s],argTypes:= #[t]}) (vs:Value) (hs:a.eval s=vs)
  (w':World) (hr:(Builtin.clear_ #[t] o.type #[vs]).run P w= .ok (.tuple #[]) w') (h:K (a.put o.dst (.tuple #[])) w'):o.wp P a w K Q:=by
 unfold Oper.wp execOp
 simp only[ho,resolve,invoke,builtin,Sem.run_bind,Sem.run_pure,Result.andThen_ok,List.map_toArray,List.map_cons,List.map_nil,hs,hr]
 exact h
theorem UK{P:Program}(w:World){ops:Array Oper}{rest:List Oper}{o:Oper}{a:Act}{Q:Exit→Act→World→Prop}(hgd:o.guard=none)(s:Operand)(t:TypeId)
  (ho:o.op= .call {callee:= .builtin .clear,args:= #[s],argTypes:= #[t]}) (vs:Value) (hs:a.eval s=vs)
  (w':World) (hr:(Builtin.clear_ #[t] o.type #[vs]).run P w= .ok (.tuple #[]) w') (h:wpList P ops Q rest (a.put o.dst (.tuple #[])) w'):wpList P ops Q (o::rest) a w:=
 wpList_plain hgd fun _ hK=>Qf w s t ho vs hs w' hr (hK _ _ h)
theorem VR{b c:Nat}(hc:c≠b): ∀(vs:List Value) (o:Nat) (w:World),(w.setCells b o vs).heap[c]? =w.heap[c]?
 | [],_,_=>rfl
 |v::r,o,w=>by
  show((w.setCell ⟨b,o,none⟩ v).setCells b (o+1) r).heap[c]? =_
  rw[VR hc r]
  exact Below.heap_setCell _ _ _ _ hc
theorem VS(b:Nat): ∀(vs:List Value) (o:Nat) (w:World),(w.setCells b o vs).heap.size=w.heap.size
 | [],_,_=>rfl
 |v::r,o,w=>by
  show((w.setCell ⟨b,o,none⟩ v).setCells b (o+1) r).heap.size=_
  rw[VS b r]
  simp[World.setCell]
theorem V7{B b:Nat}(hb:B≤b): ∀(vs:List Value) (o:Nat) (w0 w:World),Below B w0 w→Below B w0 (w.setCells b o vs)
 | [],_,_,_,h=>h
 |v::r,o,w0,w,h=>V7 hb r (o+1) w0 _ (h.setCell hb _)
theorem Qi{B g len cap:Nat}{L:List Int}(a:Nat): ∀(n k:Nat) (w:World),a+k+n≤len→w.ownsRow B 22 1 (.slice (some ⟨g,0,none⟩) len cap) len (nums .u64 (zr L a k))→
  (w.setCells g (a+k) (List.replicate n (.int .u64 0))).ownsRow B 22 1 (.slice (some ⟨g,0,none⟩) len cap) len (nums .u64 (zr L a (k+n)))
 |0,k,w,_,h=>h
 |n+1,k,w,hl,h=>by
  have h1:=(h.stored (a+k) (.int .u64 0)).1
  have h2:(nums .u64 (zr L a k)).set (a+k) (.int .u64 0)=nums .u64 (zr L a (k+1)):=by rw[zr,Rq]
  rw[h2]at h1
  have:=Qi a n (k+1) _ (by omega) h1
  rw[show k+1+n=k+(n+1)by omega]at this
  exact this
theorem SU(w:World)(B b:Nat)(h:Hp)(x:Nat→Value)(hN:Now B w b h x)(hB:B≤w.heap.size)(hh:h.ok)(p a n:Nat)(hp:p=2∨p=3)(hn0:0<n)(hn:n≤1000)(hroom:(n:Int)≤Y1 (layH h))
  (g cap:Nat) (hx:x p= .slice (some ⟨g,0,none⟩) (lsH h p).length cap) (han:a+n≤(lsH h p).length) (c':Nat):
  Calls Try.prog 63 #[.pointer (some ⟨b,0,none⟩),.slice (some ⟨g,a,none⟩) n c'] w (zu B w b h p a n):=by
 obtain⟨iU,hiU,hzU,hsU,hbU⟩:=info_parts Z44
 have hl0:(lsH h 0).length≤1000000:=YB hh 0
 obtain⟨v1,w1,hr1,ho1,hg1,hn1⟩:=Kg (P:=Try.prog) (w:=w) (T:=23) (tI:=3) (ty:=23) Try.underlying23 Try.underlying3 hiU hzU rfl rfl hsU hbU (hN.own.own 0 (by omega)) hB hn0 (by omega) .i64
 obtain⟨a0,q0,e0⟩:=Z2 (hN.own.own 0 (by omega))
 have b0:w.cell? ⟨b,5,none⟩=some (x 0):=by rw[cell_of_row _ _ _ _ _ _ hN.blk];rfl
 have f0:w.frozen? ⟨b,5,none⟩=false:=Za hN.blk
 have hbw:=Zz hN.blk
 have hne:some b≠(x 0).ownBlock:=fun e=>hN.far 0 (by omega) b e.symm rfl
 have c1:=(hg1.cell_far ⟨b,5,none⟩ hbw hne).trans b0
 have f1:=(hg1.frozen_far ⟨b,5,none⟩ hbw hne).trans f0
 rw[e0]at hr1 b0 c1
 have hlx:(nums .u64 (lsH h 0)).length=(lsH h 0).length:=by simp[nums]
 rcases ho1.2 with ⟨_,hbad⟩ | ⟨g0,q1,cur,hv1,hg0B,hcur,hq1,hqm,hcsz,htake⟩
 ·omega
 subst hv1
 have hq1': ¬q1=(lsH h 0).length:=by omega
 have hg0b:g0≠b:=by
  intro e
  rcases hn1 with e1| ⟨_,e1⟩
  ·exact hne (by rw[←e1,e];rfl)
  ·have:=(e1.lt g0 rfl).1;omega
 have hgb:g≠b:=hN.far p (by omega) g (by rw[hx];rfl)
 have hgw:g<w.heap.size:=((hN.own.own p (by omega)).lt g (by rw[hx];rfl)).2
 have hgx:some g≠(x 0).ownBlock:=fun e=>hN.own.apart 0 p (by omega) (by omega) g e.symm (by rw[hx];rfl)
 have hgg0:g≠g0:=by
  intro e
  rcases hn1 with e1| ⟨_,e1⟩
  ·exact hgx (by rw[←e1,e];rfl)
  ·have:=(e1.lt g0 rfl).1;omega
 obtain⟨w2,hw2⟩: ∃w2,w2=w1.setCell ⟨b,5,none⟩ (.slice (some ⟨g0,0,none⟩) ((lsH h 0).length+n) q1):=⟨_,rfl⟩
 have hcur2:w2.heap[g0]? =some (.cells cur 22 (0,0)):=by rw[hw2,Below.heap_setCell _ _ _ _ hg0b];exact hcur
 have hgk: ∀c,c≠b→c<w.heap.size→some c≠(x 0).ownBlock→w2.heap[c]? =w.heap[c]? :=fun c h1 h2 h3=>by
  rw[hw2,Below.heap_setCell _ _ _ _ h1,hg1.block c h2 h3]
 have hblk2:w2.heap[b]? =some (.cells #[.int .u64 h.base,.int .i64 h.cap,.int .i64 h.to,.bool h.cycle,.int .i64 h.scan,.slice (some ⟨g0,0,none⟩) ((lsH h 0).length+n) q1,x 1,x 2,x 3,x 4] 113 (0,0)):=by
  have:=(hg1.block b hbw hne).trans hN.blk
  rw[hw2]
  simp[World.setCell,Array.getElem?_modify,this]
 have hcell2:w2.cell? ⟨b,5,none⟩=some (.slice (some ⟨g0,0,none⟩) ((lsH h 0).length+n) q1):=by rw[cell_of_row _ _ _ _ _ _ hblk2];rfl
 have hown2:w2.ownsRow B 22 1 (x p) (lsH h p).length (nums .u64 (lsH h p)):=Zp (hN.own.own p (by omega)) fun c hc=>by
  rw[hx]at hc
  cases hc
  exact hgk g hgb hgw hgx
 obtain⟨cs,hcs⟩: ∃cs,cs=nums .u64 (((lsH h p).take (a+n)).drop a):=⟨_,rfl⟩
 have hcl:cs.length=n:=by rw[hcs];simp[nums];omega
 have hsrc: ∀j v,cs[j]? =some v→w2.cell? ((⟨g,a,none⟩:Addr).add j)=some v:=by
  intro j v hv
  have hj:j<n:=by rw[←hcl];exact(List.getElem?_eq_some_iff.1 hv).1
  rw[hx]at hown2
  have:=hown2.cellAt (a+j) (by omega)
  rw[Addr.add_lit,this]
  rw[hcs]at hv
  simp only[nums]at hv⊢
  rw[←hv]
  simp[List.getElem?_take,show a+j<a+n by omega]
 obtain⟨w3,hw3⟩: ∃w3,w3=w2.setRow g0 (cur.toList.take (lsH h 0).length++(cs++cur.toList.drop ((lsH h 0).length+cs.length))).toArray:=⟨_,rfl⟩
 have hfit:(lsH h 0).length+cs.length≤cur.size:=by rw[hcl];simp at hcsz;omega
 have hone: ∀v∈cs,v.oneCell'=true:=by
  intro v hv
  rw[hcs]at hv
  obtain⟨_,_,rfl⟩:=List.mem_map.1 hv
  rfl
 have hmin:cs.length=Nat.min n n:=by rw[hcl];simp
 have hsz1:(Try.prog.info? 22).map (·.size)=some 1:=by rw[hiU];simp[hsU]
 have hblk3:w3.heap[b]? =some (.cells #[.int .u64 h.base,.int .i64 h.cap,.int .i64 h.to,.bool h.cycle,.int .i64 h.scan,.slice (some ⟨g0,0,none⟩) ((lsH h 0).length+n) q1,x 1,x 2,x 3,x 4] 113 (0,0)):=by
  rw[hw3,setRow_other _ _ _ _ hg0b.symm];exact hblk2
 have hk3: ∀c,c≠b→c≠g0→c<w.heap.size→some c≠(x 0).ownBlock→w3.heap[c]? =w.heap[c]? :=fun c h1 h2 h3 h4=>by
  rw[hw3,setRow_other _ _ _ _ h2];exact hgk c h1 h3 h4
 have hs12:w.heap.size≤w3.heap.size:=by
  have:=hg1.size
  have e2:w2.heap.size=w1.heap.size:=by rw[hw2];simp[World.setCell]
  have e3:w3.heap.size=w2.heap.size:=by rw[hw3];simp[World.setRow]
  omega
 have hl3:lsH (ZE h (p+1) a n) 0=lsH h 0++((lsH h p).take (a+n)).drop a:=by
  rcases hp with rfl|rfl<;>rfl
 have hl3': ∀j,j≠0→lsH (ZE h (p+1) a n) j=lsH h j:=fun j hj=>by
  unfold lsH ZE
  simp[hj]
 have hown3: ∀j,j<5→w3.ownsRow B 22 1 (if j=0 then .slice (some ⟨g0,0,none⟩) ((lsH h 0).length+n) q1 else x j) (lsH (ZE h (p+1) a n) j).length (nums .u64 (lsH (ZE h (p+1) a n) j)):=by
  intro j hj
  by_cases hj0:j=0
  ·subst hj0
   rw[if_pos rfl,hl3]
   have hd:(((lsH h p).take (a+n)).drop a).length=n:=by simp;omega
   refine⟨by simp[nums],.inr ⟨g0,q1,(cur.toList.take (lsH h 0).length++(cs++cur.toList.drop ((lsH h 0).length+cs.length))).toArray,?_,hg0B,?_,?_,hqm,?_,?_⟩⟩
   ·rw[List.length_append,hd]
   ·rw[hw3];exact setRow_heap _ _ _ _ _ _ hcur2
   ·rw[List.length_append,hd];exact hq1
   ·simp[hcl]at hcsz hfit⊢;omega
   ·have ht:cur.toList.take ((lsH h 0).length)=nums .u64 (lsH h 0):=by
     have:=congrArg (List.take (lsH h 0).length) htake
     rw[List.take_take,Nat.min_eq_left (by omega)]at this
     rw[this,List.take_left' hlx]
    rw[List.length_append,hd,ht]
    simp only[Nat.mul_one]
    rw[←List.append_assoc,List.take_left' (by simp[hlx,hcl]),hcs]
    simp[nums]
  ·rw[if_neg hj0,hl3' j hj0]
   have ho:=hN.own.own j hj
   exact Zp ho fun c hc=>hk3 c (hN.far j hj c hc) (fun e=>by
    rcases hn1 with e1| ⟨_,e1⟩
    ·exact hN.own.apart 0 j (by omega) hj c (by rw[←e1,e];rfl) hc
    ·have h1:=(e1.lt g0 rfl).1
     have h2:=(ho.lt c hc).2
     omega) (ho.lt c hc).2 (fun e=>hN.own.apart 0 j (by omega) hj c e.symm hc)
 have hg0x: ∀j,0<j→j<5→(x j).ownBlock≠some g0:=fun j h0 hj hc=>by
  rcases hn1 with e1| ⟨_,e1⟩
  ·exact hN.own.apart 0 j h0 hj g0 (by rw[←e1];rfl) hc
  ·have h1:=(e1.lt g0 rfl).1
   have h2:=((hN.own.own j hj).lt g0 hc).2
   omega
 have hgj: ∀j,j<5→j≠p→(x j).ownBlock≠some g:=fun j hj hne hc=>by
  have hgp:(x p).ownBlock=some g:=by rw[hx];rfl
  rcases Nat.lt_or_gt_of_ne hne with h1|h1
  ·exact hN.own.apart j p h1 (by omega) g hc hgp
  ·exact hN.own.apart p j h1 hj g hgp hc
 have hgB:B≤g:=((hN.own.own p (by omega)).lt g (by rw[hx];rfl)).1
 have hopw:=hN.own.own p (by omega)
 rw[hx]at hopw
 have hrow: ∀W:World,W.heap[g]? =w.heap[g]? →W.ownsRow B 22 1 (.slice (some ⟨g,0,none⟩) (lsH h p).length cap) (lsH h p).length (nums .u64 (lsH h p)):=fun W hW=>Zp hopw fun c hc=>by
  cases hc
  exact hW
 have hlp:(nums .u64 (lsH h p)).length=(lsH h p).length:=by simp[nums]
 have hcells: ∀W:World,W.heap[g]? =w.heap[g]? →(∀j,j<n→(W.cell? ⟨g,a+j,none⟩).isSome=true)∧(∀j,j<n→W.frozen? ⟨g,a+j,none⟩=false):=fun W hW=>⟨fun j hj=>by
  rw[(hrow W hW).cellAt (a+j) (by omega)]
  simp[hlp];omega,fun j hj=>(hrow W hW).frozenAt _⟩
 have hg3:w3.heap[g]? =w.heap[g]? :=hk3 g hgb hgg0 hgw hgx
 have HN:=Lib.hid hN
 have HO:=Lib.hid ho1
 have HG:=Lib.hid hg1
 have HW2:=Lib.hid hw2
 have HW3:=Lib.hid hw3
 have HO3:=Lib.hid hown3
 have d0:w3.cell? ⟨b,0,none⟩=some (Value.int .u64 h.base):=by rw[cell_of_row _ _ _ _ _ _ hblk3];rfl
 have d1:w3.cell? ⟨b,1,none⟩=some (Value.int .i64 h.cap):=by rw[cell_of_row _ _ _ _ _ _ hblk3];rfl
 have d2:w3.cell? ⟨b,2,none⟩=some (Value.int .i64 h.to):=by rw[cell_of_row _ _ _ _ _ _ hblk3];rfl
 have d3:w3.cell? ⟨b,3,none⟩=some (Value.bool h.cycle):=by rw[cell_of_row _ _ _ _ _ _ hblk3];rfl
 have d4:w3.cell? ⟨b,4,none⟩=some (Value.int .i64 h.scan):=by rw[cell_of_row _ _ _ _ _ _ hblk3];rfl
 have d5:w3.cell? ⟨b,5,none⟩=some (Value.slice (some ⟨g0,0,none⟩) ((lsH h 0).length+n) q1):=by rw[cell_of_row _ _ _ _ _ _ hblk3];rfl
 have d6:w3.cell? ⟨b,6,none⟩=some (x 1):=by rw[cell_of_row _ _ _ _ _ _ hblk3];rfl
 have d7:w3.cell? ⟨b,7,none⟩=some (x 2):=by rw[cell_of_row _ _ _ _ _ _ hblk3];rfl
 have d8:w3.cell? ⟨b,8,none⟩=some (x 3):=by rw[cell_of_row _ _ _ _ _ _ hblk3];rfl
 have d9:w3.cell? ⟨b,9,none⟩=some (x 4):=by rw[cell_of_row _ _ _ _ _ _ hblk3];rfl
 have hm3:(ZE h (p+1) a n).ok:=KK hh (by rcases hp with rfl|rfl<;>exact han) hroom hn0
 clear hN ho1 hg1 hw2 hw3 hown3
 go_enter Try.func63,Try.ntmps63
 go_wp2_with (first
  | (at_builtin;refine Lib.wpList_append_run _ rfl _ _ 23 3 rfl _ _ rfl rfl _ _ hr1 ?_)
  | (rw[←HW2.out];refine wpList_copy_own rfl _ _ 23 23 rfl 22 Try.underlying23 hsz1 g0 (lsH h 0).length n (q1- (lsH h 0).length) ⟨g,a,none⟩ n c' rfl rfl cur 22 hcur2 cs hmin hsrc hfit hone ?_;rw[←HW3.out])
  | (go_at_call 51;refine(Zo (h:=ZE h (p+1) a n) (x:=fun j=>if j=0 then .slice (some ⟨g0,0,none⟩) ((lsH h 0).length+n) q1 else x j) (G:=fun c=>B≤c∧c<w3.heap.size) (fun c hc=>hc.2) (fun j hj=>KP (HO3.out j hj) (fun c h1 h2=>⟨h1,h2⟩))).mono ?_;rintro e w4 ⟨rfl,hb4⟩;have HB4:=Lib.hid hb4;clear hb4)
  | (go_at_call 50;refine(Ju hm3.lay _ _ _).mono ?_;rintro e w5 ⟨rfl,hb5⟩;have hg5:w5.heap[g]? =w.heap[g]? :=(hb5.block g (by have:=HB4.out.size;omega)).trans ((HB4.out.block g (by omega)).trans hg3);have hs5:w3.heap.size≤w5.heap.size:=Nat.le_trans HB4.out.size hb5.size;have HB5:=Lib.hid hb5;clear hb5;obtain⟨w6,hw6⟩: ∃w6,w6=w5.setCells g a (List.replicate n (.int .u64 0)):=⟨_,rfl⟩;have hs6:w6.heap.size=w5.heap.size:=by {rw[hw6];exact VS _ _ _ _};have c6:w6.cell? ⟨g,a,none⟩=some (.int .u64 0):=by {rw[hw6];have:=World.cell?_setCells_in g (List.replicate n (Value.int .u64 0)) a w5 (by simpa using(hcells w5 hg5).1) 0 (by simpa using hn0);simpa using this};have f6:w6.frozen? ⟨g,a,none⟩=false:=by {rw[hw6,World.frozen?_setCells];exact(hcells w5 hg5).2 0 hn0};have HW6:=Lib.hid hw6;clear hw6)
  | (refine UK _ rfl _ 23 rfl _ rfl _ (Lib.run_clear_slice _ _ 22 _ (.int .u64 0) Try.underlying23 (X3 hiU hzU) rfl rfl g a n c' hn0 (hcells w5 hg5).1 (hcells w5 hg5).2) ?_;rw[←HW6.out])
  | (go_at_call 52;refine(JC Z00 _).mono ?_;rintro e w7 ⟨rfl,hb7⟩;have c7:=(hb7.cell (p:=⟨g,a,none⟩) (by show g<w6.heap.size;omega)).trans c6;have f7:=(hb7.frozen (p:=⟨g,a,none⟩) (by show g<w6.heap.size;omega)).trans f6;have HB7:=Lib.hid hb7;clear hb7))
 go_ret
 have hbel3:Below B w w3:=by
  rw[HW3.out,HW2.out]
  exact Go.below_setRow (Below.setCell (p:=⟨b,5,none⟩) ((Below.refl B w).grown HG.out hB (fun k hk=>((HN.out.own.own 0 (by omega)).lt k hk).1)) HN.out.new _) hg0B _
 have hB3:B≤w3.heap.size:=by omega
 have hbel5:Below B w w5:=(hbel3.trans (HB4.out.mono hB3)).trans (HB5.out.mono (by have:=HB4.out.size;omega))
 have hbel6:Below B w w6:=by rw[HW6.out];exact V7 hgB _ _ _ _ hbel5
 have hbel7:Below B w w7:=hbel6.trans (HB7.out.mono (by omega))
 have hs4:=HB4.out.size
 have hs45:=HB5.out.size
 have h37: ∀(c:Nat) (u:Value),c≠g→c<w3.heap.size→(w7.setCell ⟨g,a,none⟩ u).heap[c]? =w3.heap[c]? :=fun c u h1 h2=>by
  rw[Below.heap_setCell _ _ _ _ h1,HB7.out.block c (by omega),HW6.out,VR h1,HB5.out.block c (by omega),HB4.out.block c h2]
 have hg5:w5.heap[g]? =w.heap[g]? :=(HB5.out.block g (by omega)).trans ((HB4.out.block g (by omega)).trans hg3)
 have hrow6:=Qi (L:=lsH h p) a n 0 w5 (by omega) (hrow w5 hg5)
 have e6:w5.setCells g (a+0) (List.replicate n (.int .u64 0))=w6:=HW6.out.symm
 rw[e6,Nat.zero_add]at hrow6
 have hrow7:=Zp (w':=w7) hrow6 fun c hc=>by
  cases hc
  exact HB7.out.block g (by omega)
 have hrow8:=(hrow7.stored a (.int .u64 (toOf h (p+1) a n))).1
 rw[←Rq]at hrow8
 refine⟨fun j=>if j=0 then .slice (some ⟨g0,0,none⟩) ((lsH h 0).length+n) q1 else x j,rfl,hbel7.setCell hgB _,?_,⟨?_,?_⟩,?_,HN.out.new⟩
 ·rw[h37 b _ (fun e=>hgb e.symm) (by omega),hblk3]
  rcases hp with rfl|rfl<;>rfl
 ·intro j hj
  by_cases hjp:j=p
  ·subst hjp
   have e1:lsH (Ya (ZE h (j+1) a n) (j+1) ((zr (lsH h j) a n).set a (toOf h (j+1) a n))) j=(zr (lsH h j) a n).set a (toOf h (j+1) a n):=by
    rcases hp with rfl|rfl<;>rfl
   rw[e1,if_neg (by omega),hx,List.length_set,Kz]
   exact hrow8
  ·have e1:lsH (Ya (ZE h (p+1) a n) (p+1) ((zr (lsH h p) a n).set a (toOf h (p+1) a n))) j=lsH (ZE h (p+1) a n) j:=by
    have:j=0∨j=1∨j=2∨j=3∨j=4:=by omega
    rcases hp with rfl|rfl<;>rcases this with rfl|rfl|rfl|rfl|rfl<;>first|rfl|exact(hjp rfl).elim
   rw[e1]
   have ho:=HO3.out j hj
   refine Zp ho fun c hc=>h37 c _ (fun e=> ?_) (ho.lt c hc).2
   subst e
   by_cases h0:j=0
   ·rw[if_pos h0]at hc
    cases hc
    exact hgg0 rfl
   ·rw[if_neg h0]at hc
    exact hgj j hj hjp hc
 ·intro i j hij hj c hc
  rw[if_neg (show ¬j=0 by omega)]
  by_cases h0:i=0
  ·rw[if_pos h0]at hc
   cases hc
   exact hg0x j (by omega) hj
  ·rw[if_neg h0]at hc
   exact HN.out.own.apart i j hij hj c hc
 ·intro j hj c hc
  by_cases h0:j=0
  ·rw[if_pos h0]at hc
   cases hc
   exact hg0b
  ·rw[if_neg h0]at hc
   exact HN.out.far j hj c hc
end Vm
namespace Vm
open Go Go.Proofs Go.RowKit
set_option maxHeartbeats 4000000
set_option maxRecDepth 100000
theorem Yp(w:World)(B b:Nat)(h:Hp)(x:Nat→Value)(hN:Now B w b h x)(hh:h.ok)(p a:Nat)(hp:p=2∨p=3)(g cap:Nat)
  (hx:x p= .slice (some ⟨g,0,none⟩) (lsH h p).length cap) (ha:a< (lsH h p).length):
  Calls Try.prog 61 #[.pointer (some ⟨b,0,none⟩),.agg #[.int .i64 ((p:Int)+1),.int .i64 a]] w fun e w'=>e= .returned (.slice (some ⟨g,a,none⟩) ((lsH h p).length-a) (cap-a))∧Below w.heap.size w w':=by
 have hbw:=Zz hN.blk
 have hl:=YB hh p
 have hcap:(lsH h p).length≤cap:=by
  have:=(hN.own.own p (by omega)).2
  rw[hx]at this
  rcases this with ⟨hc,_⟩ | ⟨_,_,_,hc,_,_,h1,_⟩
  ·cases hc
  ·cases hc;exact h1
 rcases hp with rfl|rfl
 ·have c7:(w.alloc (.cells #[.int .i64 3,.int .i64 a] 91)).cell? ⟨b,7,none⟩=some (.slice (some ⟨g,0,none⟩) (lsH h 2).length cap):=by
   rw[World.cell?_alloc_lt _ _ _ hbw,cell_of_row _ _ _ _ _ _ hN.blk,←hx];rfl
  have hcap':((lsH h 2).length:Int)≤9223372036854775807:=by omega
  go_enter Try.func61,Try.ntmps61
  go_wp2
  go_region
  go_wp2
  go_ret
  exact⟨rfl,((Below.refl _ _).alloc (Nat.le_refl _) _).drew⟩
 ·have c8:(w.alloc (.cells #[.int .i64 4,.int .i64 a] 91)).cell? ⟨b,8,none⟩=some (.slice (some ⟨g,0,none⟩) (lsH h 3).length cap):=by
   rw[World.cell?_alloc_lt _ _ _ hbw,cell_of_row _ _ _ _ _ _ hN.blk,←hx];rfl
  have hcap':((lsH h 3).length:Int)≤9223372036854775807:=by omega
  go_enter Try.func61,Try.ntmps61
  go_wp2
  go_region
  go_wp2
  go_ret
  exact⟨rfl,((Below.refl _ _).alloc (Nat.le_refl _) _).drew⟩
end Vm
namespace Vm
open Go Go.Proofs Go.RowKit
set_option maxHeartbeats 4000000
set_option maxRecDepth 100000
def Yr(w:World)(r:Int×Hp×Int)(e:Ending)(w':World):Prop:=
 ∃x,e= .returned (.tuple #[.int .u64 r.1,hpA r.2.1 x,.int .i64 r.2.2])∧Below w.heap.size w w'∧HOwn w.heap.size w' r.2.1 x
theorem Uv{B' B:Nat}{w:World}{e:TypeId}{n:Nat}{v:Value}{l:List Value}(h:w.ownsRow B' e 1 v n l)(hG: ∀c,B'≤c→c<w.heap.size→B≤c∧c<w.heap.size):w.ownsRow B e 1 v n l:=by
 refine⟨h.1,?_⟩
 rcases h.2 with h0| ⟨g,cap,cur,hv,hb,hg,r⟩
 ·exact .inl h0
 ·exact .inr ⟨g,cap,cur,hv,(hG g hb (Zz hg)).1,hg,r⟩
theorem yI(w':World)(G:Nat→Prop): ∀j,j<5→Rd w' G (.sl ((lsH Hp.zero j).map vu)) (.slice none 0 0):=fun j hj=>by
 have:lsH Hp.zero j= []:=by
  unfold lsH Hp.zero
  split
  ·rfl
  split
  ·rfl
  split
  ·rfl
  split<;>rfl
 rw[this]
 exact .nil _ _ (by unfold maxLen;omega)
theorem X5(B:Nat)(w':World):HOwn B w' Hp.zero (fun _=> .slice none 0 0):=⟨fun j hj=>by
 have:lsH Hp.zero j= []:=by
  unfold lsH Hp.zero
  split
  ·rfl
  split
  ·rfl
  split
  ·rfl
  split<;>rfl
 rw[this]
 exact World.ownsRow_nil _ _ _ _,fun i j _ _ c hc=>by cases hc⟩
def Z4:Array Value:= #[.int .u64 0,.int .i64 0,.int .i64 0,.bool false,.int .i64 0,.slice none 0 0,.slice none 0 0,.slice none 0 0,.slice none 0 0,.slice none 0 0]
theorem ZP(w:World)(o:Obj):((w.alloc o).alloc (.cells #[.int .u64 0,.int .i64 0,.int .i64 0,.bool false,.int .i64 0,.slice none 0 0,.slice none 0 0,.slice none 0 0,.slice none 0 0,.slice none 0 0] 25)).heap[w.heap.size+1]? =some (.cells Z4 25 (0,0)):=by
 have e:(w.alloc o).heap.size=w.heap.size+1:=by simp
 have:=heap_alloc_new (w.alloc o) (.cells Z4 25)
 rw[e]at this
 exact this
theorem S1{w2:World}{b:Nat}{T:TypeId}(hb:w2.heap[b]? =some (.cells Z4 T (0,0)))(v0 v1 v2 v3 v4 v5 v6 v7 v8 v9:Value):((((((((((w2.setCell ⟨b,0,none⟩ v0).setCell ⟨b,1,none⟩ v1).setCell ⟨b,2,none⟩ v2).setCell ⟨b,3,none⟩ v3).setCell ⟨b,4,none⟩ v4).setCell ⟨b,5,none⟩ v5).setCell ⟨b,6,none⟩ v6).setCell ⟨b,7,none⟩ v7).setCell ⟨b,8,none⟩ v8).setCell ⟨b,9,none⟩ v9).heap[b]? =some (.cells #[v0,v1,v2,v3,v4,v5,v6,v7,v8,v9] T (0,0)):=by
 unfold Z4 at hb
 simp[World.setCell,Array.getElem?_modify,hb]
theorem Zn{w2:World}{b:Nat}{T:TypeId}(hb:w2.heap[b]? =some (.cells Z4 T (0,0)))(v0 v1 v2 v3 v4 v5 v6 v7 v8 v9:Value)(j:Nat):((((((((((w2.setCell ⟨b,0,none⟩ v0).setCell ⟨b,1,none⟩ v1).setCell ⟨b,2,none⟩ v2).setCell ⟨b,3,none⟩ v3).setCell ⟨b,4,none⟩ v4).setCell ⟨b,5,none⟩ v5).setCell ⟨b,6,none⟩ v6).setCell ⟨b,7,none⟩ v7).setCell ⟨b,8,none⟩ v8).setCell ⟨b,9,none⟩ v9).cell? ⟨b,j,none⟩=(#[v0,v1,v2,v3,v4,v5,v6,v7,v8,v9]:Array Value)[j]? :=
 cell_of_row _ _ _ _ _ _ (S1 hb v0 v1 v2 v3 v4 v5 v6 v7 v8 v9)
theorem Zi{B:Nat}{w0 w2:World}{b:Nat}(h:Below B w0 w2)(hb:B≤b)(v0 v1 v2 v3 v4 v5 v6 v7 v8 v9:Value):Below B w0 ((((((((((w2.setCell ⟨b,0,none⟩ v0).setCell ⟨b,1,none⟩ v1).setCell ⟨b,2,none⟩ v2).setCell ⟨b,3,none⟩ v3).setCell ⟨b,4,none⟩ v4).setCell ⟨b,5,none⟩ v5).setCell ⟨b,6,none⟩ v6).setCell ⟨b,7,none⟩ v7).setCell ⟨b,8,none⟩ v8).setCell ⟨b,9,none⟩ v9):=
 (((((((((h.setCell hb _).setCell hb _).setCell hb _).setCell hb _).setCell hb _).setCell hb _).setCell hb _).setCell hb _).setCell hb _).setCell hb _
theorem Yu{w2:World}{b c:Nat}(hc:c≠b)(v0 v1 v2 v3 v4 v5 v6 v7 v8 v9:Value):((((((((((w2.setCell ⟨b,0,none⟩ v0).setCell ⟨b,1,none⟩ v1).setCell ⟨b,2,none⟩ v2).setCell ⟨b,3,none⟩ v3).setCell ⟨b,4,none⟩ v4).setCell ⟨b,5,none⟩ v5).setCell ⟨b,6,none⟩ v6).setCell ⟨b,7,none⟩ v7).setCell ⟨b,8,none⟩ v8).setCell ⟨b,9,none⟩ v9).heap[c]? =w2.heap[c]? :=by
 have: ¬b=c:=fun e=>hc e.symm
 simp[World.setCell,Array.getElem?_modify,this]
end Vm
namespace Vm
open Go Go.Proofs Go.RowKit
set_option maxHeartbeats 600000
set_option maxRecDepth 100000
def U4(h:Hp)(x:Nat→Value):Obj:= .cells #[.int .u64 h.base,.int .i64 h.cap,.int .i64 h.to,.bool h.cycle,.int .i64 h.scan,x 0,x 1,x 2,x 3,x 4] 113
theorem ZX{B:Nat}{w5:World}{h:Hp}{x:Nat→Value}(ho:HOwn B w5 h x)(hB:B≤w5.heap.size):Now B (w5.alloc (U4 h x)) w5.heap.size h x:=by
 refine⟨heap_alloc_new w5 _,⟨fun j hj=> ?_,ho.apart⟩,fun j hj c hc=> ?_,hB⟩
 ·exact Zp (ho.own j hj) fun c hc=>Below.heap_alloc _ _ _ ((ho.own j hj).lt c hc).2
 ·have:=((ho.own j hj).lt c hc).2
  omega
theorem Ll(W:World):W.drew.heap=W.heap:=rfl
theorem Yw{w2:World}{b c:Nat}(hc:c≠b)(v0 v1 v2 v3 v4 v5 v6 v7 v8 v9:Value):((((((((((w2.setCell ⟨b,0,none⟩ v0).setCell ⟨b,1,none⟩ v1).setCell ⟨b,2,none⟩ v2).setCell ⟨b,3,none⟩ v3).setCell ⟨b,4,none⟩ v4).setCell ⟨b,5,none⟩ v5).setCell ⟨b,6,none⟩ v6).setCell ⟨b,7,none⟩ v7).setCell ⟨b,8,none⟩ v8).setCell ⟨b,9,none⟩ v9).drew.heap[c]? =w2.heap[c]? :=by
 rw[Ll]
 exact Yu hc v0 v1 v2 v3 v4 v5 v6 v7 v8 v9
theorem YE{w:World}{B n q:Nat}{e:TypeId}{z:Nat}{a:Option Addr}{v:Value}{xs:List Value}(h:w.ownsRow B e z v n xs)(hv:v= .slice a n q)(hn:0<n): ∃g,a=some ⟨g,0,none⟩:=by
 subst hv
 rcases h.2 with ⟨_,h0⟩ | ⟨g,cap,cur,hc,_⟩
 ·omega
 ·cases hc;exact⟨g,rfl⟩
theorem zT{w:World}{B n q:Nat}{e:TypeId}{z:Nat}{a:Option Addr}{xs:List Value}(h:w.ownsRow B e z (.slice a n q) n xs)(hn:0<n):n≤q∧q≤maxLen:=by
 rcases h.2 with ⟨_,h0⟩ | ⟨g,cap,cur,hc,_,_,h1,h2,_⟩
 ·omega
 ·cases hc;exact⟨h1,h2⟩
theorem Zm{w:World}{B g cap:Nat}{l:List Int}(h:w.ownsRow B 22 1 (.slice (some ⟨g,0,none⟩) l.length cap) l.length (nums .u64 l)){i:Nat}{v:Int}(hi:l[i]? =some v):w.cell? ⟨g,i,none⟩=some (.int .u64 v):=by
 obtain⟨hl,hv⟩:=List.getElem?_eq_some_iff.1 hi
 rw[h.cellAt i (by omega)]
 simp[nums,hi]
structure FwSt (w W:World) (rb lb kb b B:Nat) (part at_:Int) (h:Hp) (x:Nat→Value):Prop where
 res:W.heap[rb]? =some (.cells Z4 25 (0,0))
 lay:W.heap[lb]? =some (.cells #[.int .u64 (layH h).base,.int .i64 (layH h).cap,.int .i64 (layH h).to,.int .i64 (layH h).low,.int .i64 (layH h).high,.int .i64 (layH h).old,.int .i64 (layH h).far] 53 (0,0))
 plc:W.heap[kb]? =some (.cells #[.int .i64 part,.int .i64 at_] 91 (0,0))
 now:Now B W b h x
 bel:Below w.heap.size w W
 old:w.heap.size≤rb
 rbB:rb<B
 lbB:lb<B
 kbB:kb<B
 sz:B≤W.heap.size
theorem FwSt.below{w W W':World}{rb lb kb b B:Nat}{part at_:Int}{h:Hp}{x:Nat→Value}(s:FwSt w W rb lb kb b B part at_ h x)(hb:Below W.heap.size W W'):FwSt w W' rb lb kb b B part at_ h x:=by
 have hz:=s.sz
 have h1:=s.rbB
 have h2:=s.lbB
 have h3:=s.kbB
 have hs:=hb.size
 have hs0:=s.bel.size
 refine⟨(hb.block _ (by omega)).trans s.res,(hb.block _ (by omega)).trans s.lay,(hb.block _ (by omega)).trans s.plc,⟨(hb.block _ (Zz s.now.blk)).trans s.now.blk,⟨fun j hj=> ?_,s.now.own.apart⟩,s.now.far,s.now.new⟩,s.bel.trans (hb.mono hs0),s.old,h1,h2,h3,by omega⟩
 exact Zp (s.now.own.own j hj) fun c hc=>hb.block _ ((s.now.own.own j hj).lt c hc).2
theorem FwSt.drew{w W:World}{rb lb kb b B:Nat}{part at_:Int}{h:Hp}{x:Nat→Value}(s:FwSt w W rb lb kb b B part at_ h x):FwSt w W.drew rb lb kb b B part at_ h x:=
 ⟨s.res,s.lay,s.plc,⟨s.now.blk,⟨fun j hj=>Zp (s.now.own.own j hj) fun c hc=>rfl,s.now.own.apart⟩,s.now.far,s.now.new⟩,s.bel.drew,s.old,s.rbB,s.lbB,s.kbB,s.sz⟩
theorem Ro(w:World)(G:Nat→Prop)(hG: ∀b,G b→b<w.heap.size)(h:Hp)(hh:h.ok)(src:Nat→Value)(hs: ∀j,j<5→Rd w G (.sl ((lsH h j).map vu)) (src j))(v:Int)(hv:U64 v)
  (hr:Z8 (layH h)=true) (hv0: ¬v=0) (h1:(adr v).2=0) (part:Int) (at_:Nat) (hf:Zx (layH h) (adr v).1=(part,(at_:Int),0)) (hp:part=1):
  Calls Try.prog 39 #[hpA h src,.int .u64 v] w (Yr w (fwd h v)):=by
 have HS:=Lib.hid hs
 have HH:=Lib.hid hh
 clear hs hh
 unfold hpA
 go_enter Try.func39,Try.ntmps39
 subst hp
 go_wp2_with (first
  | (go_at_call 51;go_loud (refine(Zo (h:=h) (x:=src) (G:=G) (fun c hc=>by have:=hG c hc;simp;omega) (fun j hj=>(HS.out j hj).keep (fun b hb=>by have:=hG b hb;rw[Below.heap_alloc _ _ _ (by simp;omega),Below.heap_alloc _ _ _ (by omega)]) (fun _ h=>h))).mono ?_;rintro e w1 ⟨rfl,hb1⟩;unfold lyA;have z1:=(hb1.block (w.heap.size+1) (by simp)).trans (ZP w _);have p1:=(hb1.block w.heap.size (by simp;omega)).trans ((Below.heap_alloc (w.alloc (.cells #[.int .u64 h.base,.int .i64 h.cap,.int .i64 h.to,.bool h.cycle,.int .i64 h.scan,src 0,src 1,src 2,src 3,src 4] 25)) _ w.heap.size (by simp)).trans (heap_alloc_new w _));have hs1:=hb1.size;simp at hs1;have HB1:=Lib.hid hb1;clear hb1))
  | (go_at_call 43;go_loud (refine(Zt HH.out.lay _).mono ?_;rintro e w2 ⟨rfl,hb2⟩;rw[hr];have z2:=(hb2.block (w.heap.size+1) (by simp;omega)).trans ((Below.heap_alloc w1 _ (w.heap.size+1) (by omega)).trans z1);have p2:=(hb2.block w.heap.size (by simp;omega)).trans ((Below.heap_alloc w1 _ w.heap.size (by omega)).trans p1);have x2: ∀j,w2.cell? ⟨w.heap.size,j,none⟩=(#[.int .u64 h.base,.int .i64 h.cap,.int .i64 h.to,.bool h.cycle,.int .i64 h.scan,src 0,src 1,src 2,src 3,src 4]:Array Value)[j]? :=fun j=>cell_of_row _ _ _ _ _ _ p2;have hb02:Below w.heap.size w w2:=((((((Below.refl _ _).alloc (Nat.le_refl _) _).alloc (by simp) _).trans (HB1.out.mono (by simp;omega))).alloc (by omega) _).trans (hb2.mono (by simp;omega)));have hs2:=hb2.size;simp at hs2;have m2:=(hb2.block w1.heap.size (by simp)).trans (heap_alloc_new w1 _);have HB02:=Lib.hid hb02;clear hb2 hb02))
  | (go_at_call 59;go_loud (refine(Zk hv _).mono ?_;rintro e w3 ⟨rfl,hb3⟩;have z3:=(hb3.block (w.heap.size+1) (by omega)).trans z2;have p3:=(hb3.block w.heap.size (by omega)).trans p2;have m3:=(hb3.block w1.heap.size (by omega)).trans m2;have l3: ∀j,w3.cell? ⟨w1.heap.size,j,none⟩=(#[.int .u64 (layH h).base,.int .i64 (layH h).cap,.int .i64 (layH h).to,.int .i64 (layH h).low,.int .i64 (layH h).high,.int .i64 (layH h).old,.int .i64 (layH h).far]:Array Value)[j]? :=fun j=>cell_of_row _ _ _ _ _ _ m3;have hs3:=hb3.size;have HB3:=Lib.hid hb3;clear hb3))
  | (go_at_call 60;go_loud (refine(ZI HH.out.lay (VK hv) _).mono ?_;rintro e w4 ⟨rfl,hb4⟩;rw[hf];dsimp only;have hs4:=hb4.size;have z4: ∀o,(w4.alloc o).heap[w.heap.size+1]? =some (.cells Z4 25 (0,0)):=fun o=>(Below.heap_alloc w4 o (w.heap.size+1) (by omega)).trans ((hb4.block (w.heap.size+1) (by omega)).trans z3);have p4: ∀o,(w4.alloc o).heap[w.heap.size]? =some (.cells #[.int .u64 h.base,.int .i64 h.cap,.int .i64 h.to,.bool h.cycle,.int .i64 h.scan,src 0,src 1,src 2,src 3,src 4] 25 (0,0)):=fun o=>(Below.heap_alloc w4 o w.heap.size (by omega)).trans ((hb4.block w.heap.size (by omega)).trans p3);have x4: ∀o j,(w4.alloc o).cell? ⟨w.heap.size,j,none⟩=(#[.int .u64 h.base,.int .i64 h.cap,.int .i64 h.to,.bool h.cycle,.int .i64 h.scan,src 0,src 1,src 2,src 3,src 4]:Array Value)[j]? :=fun o j=>cell_of_row _ _ _ _ _ _ (p4 o);have hb04: ∀o,Below w.heap.size w (w4.alloc o):=fun o=>((HB02.out.trans (HB3.out.mono (by omega))).trans (hb4.mono (by omega))).alloc (by omega) o;have m4: ∀o,(w4.alloc o).heap[w1.heap.size]? =some (.cells #[.int .u64 (layH h).base,.int .i64 (layH h).cap,.int .i64 (layH h).to,.int .i64 (layH h).low,.int .i64 (layH h).high,.int .i64 (layH h).old,.int .i64 (layH h).far] 53 (0,0)):=fun o=>(Below.heap_alloc w4 o w1.heap.size (by omega)).trans ((hb4.block w1.heap.size (by omega)).trans m3);have k4:=heap_alloc_new w4 (.cells #[.int .i64 1,.int .i64 (at_:Nat)] 91);have HB04:=Lib.hid hb04;clear hb4 hb04 z3 p3 m3 l3 z2 p2 x2 m2))
  | (go_at_call 48;go_loud (refine(Yk _ G (fun b hb=>by have:=hG b hb;simp;omega) h HH.out src (fun j hj=>(HS.out j hj).keep (fun b hb=>(HB04.out _).block b (hG b hb)) (fun _ h=>h))).mono ?_;rintro e w5 ⟨x,rfl,hb5,ho5⟩;obtain⟨a0,q0,e0⟩:=Z2 (ho5.own 0 (by omega));obtain⟨a1,q1,e1⟩:=Z2 (ho5.own 1 (by omega));obtain⟨a2,q2,e2⟩:=Z2 (ho5.own 2 (by omega));obtain⟨a3,q3,e3⟩:=Z2 (ho5.own 3 (by omega));obtain⟨a4,q4,e4⟩:=Z2 (ho5.own 4 (by omega));unfold hpA;rw[e0,e1,e2,e3,e4];have hs5:=hb5.size;simp at hs5;have hsz4: ∀o,(w4.alloc o).heap.size=w4.heap.size+1:=fun o=>(by simp);rw[hsz4]at ho5;have hN:=ZX ho5 (by omega);unfold U4 at hN;rw[e0,e1,e2,e3,e4]at hN;have hb05: ∀o,Below w.heap.size w (w5.alloc o):=fun o=>((HB04.out _).trans (hb5.mono (by simp;omega))).alloc (by omega) o;have z6: ∀o,(w5.alloc o).heap[w.heap.size+1]? =some (.cells Z4 25 (0,0)):=fun o=>(Below.heap_alloc w5 o (w.heap.size+1) (by omega)).trans ((hb5.block (w.heap.size+1) (by simp;omega)).trans (z4 _));have k6: ∀o,(w5.alloc o).heap[w4.heap.size]? =some (.cells #[.int .i64 1,.int .i64 (at_:Nat)] 91 (0,0)):=fun o=>(Below.heap_alloc w5 o w4.heap.size (by omega)).trans ((hb5.block w4.heap.size (by simp)).trans k4);have m6: ∀o,(w5.alloc o).heap[w1.heap.size]? =some (.cells #[.int .u64 (layH h).base,.int .i64 (layH h).cap,.int .i64 (layH h).to,.int .i64 (layH h).low,.int .i64 (layH h).high,.int .i64 (layH h).old,.int .i64 (layH h).far] 53 (0,0)):=fun o=>(Below.heap_alloc w5 o w1.heap.size (by omega)).trans ((hb5.block w1.heap.size (by simp;omega)).trans (m4 _));have k6c: ∀o j,(w5.alloc o).cell? ⟨w4.heap.size,j,none⟩=(#[.int .i64 1,.int .i64 (at_:Nat)]:Array Value)[j]? :=fun o j=>cell_of_row _ _ _ _ _ _ (k6 o);have m6c: ∀o j,(w5.alloc o).cell? ⟨w1.heap.size,j,none⟩=(#[.int .u64 (layH h).base,.int .i64 (layH h).cap,.int .i64 (layH h).to,.int .i64 (layH h).low,.int .i64 (layH h).high,.int .i64 (layH h).old,.int .i64 (layH h).far]:Array Value)[j]? :=fun o j=>cell_of_row _ _ _ _ _ _ (m6 o);have nb:=hN.blk;rw[e0,e1,e2,e3,e4]at nb;have n6c: ∀j,(w5.alloc (.cells #[.int .u64 h.base,.int .i64 h.cap,.int .i64 h.to,.bool h.cycle,.int .i64 h.scan,.slice a0 (lsH h 0).length q0,.slice a1 (lsH h 1).length q1,.slice a2 (lsH h 2).length q2,.slice a3 (lsH h 3).length q3,.slice a4 (lsH h 4).length q4] 113)).cell? ⟨w5.heap.size,j,none⟩=(#[.int .u64 h.base,.int .i64 h.cap,.int .i64 h.to,.bool h.cycle,.int .i64 h.scan,.slice a0 (lsH h 0).length q0,.slice a1 (lsH h 1).length q1,.slice a2 (lsH h 2).length q2,.slice a3 (lsH h 3).length q3,.slice a4 (lsH h 4).length q4]:Array Value)[j]? :=fun j=>cell_of_row _ _ _ _ _ _ nb;have y6: ∀o j,(w5.alloc o).cell? ⟨w.heap.size+1,j,none⟩=Z4[j]? :=fun o j=>cell_of_row _ _ _ _ _ _ (z6 o);have f6: ∀o j,(w5.alloc o).frozen? ⟨w.heap.size+1,j,none⟩=false:=fun o j=>Za (z6 o);unfold Z4 at y6;have st6:FwSt w (w5.alloc (.cells #[.int .u64 h.base,.int .i64 h.cap,.int .i64 h.to,.bool h.cycle,.int .i64 h.scan,.slice a0 (lsH h 0).length q0,.slice a1 (lsH h 1).length q1,.slice a2 (lsH h 2).length q2,.slice a3 (lsH h 3).length q3,.slice a4 (lsH h 4).length q4] 113)) (w.heap.size+1) w1.heap.size w4.heap.size w5.heap.size (w4.heap.size+1) 1 (at_:Nat) h x:=⟨z6 _,m6 _,k6 _,hN,hb05 _,by omega,by omega,by omega,by omega,by simp;omega⟩;have ST6:=Lib.hid st6;clear st6;have HB05:=Lib.hid hb05;have HN:=Lib.hid hN;have E0:=Lib.hid e0;have E1:=Lib.hid e1;have E2:=Lib.hid e2;have E3:=Lib.hid e3;have E4:=Lib.hid e4;clear hb05 hN nb e0 e1 e2 e3 e4 ho5 hb5 z4 p4 x4 m4 k4)))
 go_region
 all_goals
  go_wp2
  try simp only[Exit.inBlock,Exit.then]
  have y:=Zn (z6 (.cells #[.int .u64 h.base,.int .i64 h.cap,.int .i64 h.to,.bool h.cycle,.int .i64 h.scan,.slice a0 (lsH h 0).length q0,.slice a1 (lsH h 1).length q1,.slice a2 (lsH h 2).length q2,.slice a3 (lsH h 3).length q3,.slice a4 (lsH h 4).length q4] 113)) (.int .u64 h.base) (.int .i64 h.cap) (.int .i64 h.to) (.bool h.cycle) (.int .i64 h.scan) (.slice a0 (lsH h 0).length q0) (.slice a1 (lsH h 1).length q1) (.slice a2 (lsH h 2).length q2) (.slice a3 (lsH h 3).length q3) (.slice a4 (lsH h 4).length q4)
  have hfw:fwd h v=(v,h,0):=by simp[fwd,hr,hv0,h1,hf]
  rw[hfw]
  refine bodyPost_ret (v:= .tuple #[.int .u64 v,hpA h x,.int .i64 0]) ?_ rfl ?_
  ·unfold hpA;rw[E0.out,E1.out,E2.out,E3.out,E4.out];simp[results,Try.results39,go_sem,y]
  ·refine⟨x,rfl,?_,?_⟩
   ·exact(Zi (HB05.out _) (by omega) _ _ _ _ _ _ _ _ _ _).drew
   ·refine⟨fun j hj=> ?_,HN.out.own.apart⟩
    have ho:=HN.out.own.own j hj
    refine Uv (Zp ho ?_) ?_
    ·intro c hc
     have hc1:=(ho.lt c hc).1
     exact Yw (by omega) _ _ _ _ _ _ _ _ _ _
    ·intro c h1 h2
     exact⟨by omega,h2⟩
theorem R9(w:World)(G:Nat→Prop)(hG: ∀b,G b→b<w.heap.size)(h:Hp)(hh:h.ok)(src:Nat→Value)(hs: ∀j,j<5→Rd w G (.sl ((lsH h j).map vu)) (src j))(v:Int)(hv:U64 v)
  (hr:Z8 (layH h)=true) (hv0: ¬v=0) (h1:(adr v).2=0) (part:Int) (at_:Nat) (hf:Zx (layH h) (adr v).1=(part,(at_:Int),0)) (hp:part=2):
  Calls Try.prog 39 #[hpA h src,.int .u64 v] w (Yr w (fwd h v)):=by
 have HS:=Lib.hid hs
 have HH:=Lib.hid hh
 clear hs hh
 unfold hpA
 go_enter Try.func39,Try.ntmps39
 subst hp
 go_wp2_with (first
  | (go_at_call 51;go_loud (refine(Zo (h:=h) (x:=src) (G:=G) (fun c hc=>by have:=hG c hc;simp;omega) (fun j hj=>(HS.out j hj).keep (fun b hb=>by have:=hG b hb;rw[Below.heap_alloc _ _ _ (by simp;omega),Below.heap_alloc _ _ _ (by omega)]) (fun _ h=>h))).mono ?_;rintro e w1 ⟨rfl,hb1⟩;unfold lyA;have z1:=(hb1.block (w.heap.size+1) (by simp)).trans (ZP w _);have p1:=(hb1.block w.heap.size (by simp;omega)).trans ((Below.heap_alloc (w.alloc (.cells #[.int .u64 h.base,.int .i64 h.cap,.int .i64 h.to,.bool h.cycle,.int .i64 h.scan,src 0,src 1,src 2,src 3,src 4] 25)) _ w.heap.size (by simp)).trans (heap_alloc_new w _));have hs1:=hb1.size;simp at hs1;have HB1:=Lib.hid hb1;clear hb1))
  | (go_at_call 43;go_loud (refine(Zt HH.out.lay _).mono ?_;rintro e w2 ⟨rfl,hb2⟩;rw[hr];have z2:=(hb2.block (w.heap.size+1) (by simp;omega)).trans ((Below.heap_alloc w1 _ (w.heap.size+1) (by omega)).trans z1);have p2:=(hb2.block w.heap.size (by simp;omega)).trans ((Below.heap_alloc w1 _ w.heap.size (by omega)).trans p1);have x2: ∀j,w2.cell? ⟨w.heap.size,j,none⟩=(#[.int .u64 h.base,.int .i64 h.cap,.int .i64 h.to,.bool h.cycle,.int .i64 h.scan,src 0,src 1,src 2,src 3,src 4]:Array Value)[j]? :=fun j=>cell_of_row _ _ _ _ _ _ p2;have hb02:Below w.heap.size w w2:=((((((Below.refl _ _).alloc (Nat.le_refl _) _).alloc (by simp) _).trans (HB1.out.mono (by simp;omega))).alloc (by omega) _).trans (hb2.mono (by simp;omega)));have hs2:=hb2.size;simp at hs2;have m2:=(hb2.block w1.heap.size (by simp)).trans (heap_alloc_new w1 _);have HB02:=Lib.hid hb02;clear hb2 hb02))
  | (go_at_call 59;go_loud (refine(Zk hv _).mono ?_;rintro e w3 ⟨rfl,hb3⟩;have z3:=(hb3.block (w.heap.size+1) (by omega)).trans z2;have p3:=(hb3.block w.heap.size (by omega)).trans p2;have m3:=(hb3.block w1.heap.size (by omega)).trans m2;have l3: ∀j,w3.cell? ⟨w1.heap.size,j,none⟩=(#[.int .u64 (layH h).base,.int .i64 (layH h).cap,.int .i64 (layH h).to,.int .i64 (layH h).low,.int .i64 (layH h).high,.int .i64 (layH h).old,.int .i64 (layH h).far]:Array Value)[j]? :=fun j=>cell_of_row _ _ _ _ _ _ m3;have hs3:=hb3.size;have HB3:=Lib.hid hb3;clear hb3))
  | (go_at_call 60;go_loud (refine(ZI HH.out.lay (VK hv) _).mono ?_;rintro e w4 ⟨rfl,hb4⟩;rw[hf];dsimp only;have hs4:=hb4.size;have z4: ∀o,(w4.alloc o).heap[w.heap.size+1]? =some (.cells Z4 25 (0,0)):=fun o=>(Below.heap_alloc w4 o (w.heap.size+1) (by omega)).trans ((hb4.block (w.heap.size+1) (by omega)).trans z3);have p4: ∀o,(w4.alloc o).heap[w.heap.size]? =some (.cells #[.int .u64 h.base,.int .i64 h.cap,.int .i64 h.to,.bool h.cycle,.int .i64 h.scan,src 0,src 1,src 2,src 3,src 4] 25 (0,0)):=fun o=>(Below.heap_alloc w4 o w.heap.size (by omega)).trans ((hb4.block w.heap.size (by omega)).trans p3);have x4: ∀o j,(w4.alloc o).cell? ⟨w.heap.size,j,none⟩=(#[.int .u64 h.base,.int .i64 h.cap,.int .i64 h.to,.bool h.cycle,.int .i64 h.scan,src 0,src 1,src 2,src 3,src 4]:Array Value)[j]? :=fun o j=>cell_of_row _ _ _ _ _ _ (p4 o);have hb04: ∀o,Below w.heap.size w (w4.alloc o):=fun o=>((HB02.out.trans (HB3.out.mono (by omega))).trans (hb4.mono (by omega))).alloc (by omega) o;have m4: ∀o,(w4.alloc o).heap[w1.heap.size]? =some (.cells #[.int .u64 (layH h).base,.int .i64 (layH h).cap,.int .i64 (layH h).to,.int .i64 (layH h).low,.int .i64 (layH h).high,.int .i64 (layH h).old,.int .i64 (layH h).far] 53 (0,0)):=fun o=>(Below.heap_alloc w4 o w1.heap.size (by omega)).trans ((hb4.block w1.heap.size (by omega)).trans m3);have k4:=heap_alloc_new w4 (.cells #[.int .i64 2,.int .i64 (at_:Nat)] 91);have HB04:=Lib.hid hb04;clear hb4 hb04 z3 p3 m3 l3 z2 p2 x2 m2))
  | (go_at_call 48;go_loud (refine(Yk _ G (fun b hb=>by have:=hG b hb;simp;omega) h HH.out src (fun j hj=>(HS.out j hj).keep (fun b hb=>(HB04.out _).block b (hG b hb)) (fun _ h=>h))).mono ?_;rintro e w5 ⟨x,rfl,hb5,ho5⟩;obtain⟨a0,q0,e0⟩:=Z2 (ho5.own 0 (by omega));obtain⟨a1,q1,e1⟩:=Z2 (ho5.own 1 (by omega));obtain⟨a2,q2,e2⟩:=Z2 (ho5.own 2 (by omega));obtain⟨a3,q3,e3⟩:=Z2 (ho5.own 3 (by omega));obtain⟨a4,q4,e4⟩:=Z2 (ho5.own 4 (by omega));unfold hpA;rw[e0,e1,e2,e3,e4];have hs5:=hb5.size;simp at hs5;have hsz4: ∀o,(w4.alloc o).heap.size=w4.heap.size+1:=fun o=>(by simp);rw[hsz4]at ho5;have hN:=ZX ho5 (by omega);unfold U4 at hN;rw[e0,e1,e2,e3,e4]at hN;have hb05: ∀o,Below w.heap.size w (w5.alloc o):=fun o=>((HB04.out _).trans (hb5.mono (by simp;omega))).alloc (by omega) o;have z6: ∀o,(w5.alloc o).heap[w.heap.size+1]? =some (.cells Z4 25 (0,0)):=fun o=>(Below.heap_alloc w5 o (w.heap.size+1) (by omega)).trans ((hb5.block (w.heap.size+1) (by simp;omega)).trans (z4 _));have k6: ∀o,(w5.alloc o).heap[w4.heap.size]? =some (.cells #[.int .i64 2,.int .i64 (at_:Nat)] 91 (0,0)):=fun o=>(Below.heap_alloc w5 o w4.heap.size (by omega)).trans ((hb5.block w4.heap.size (by simp)).trans k4);have m6: ∀o,(w5.alloc o).heap[w1.heap.size]? =some (.cells #[.int .u64 (layH h).base,.int .i64 (layH h).cap,.int .i64 (layH h).to,.int .i64 (layH h).low,.int .i64 (layH h).high,.int .i64 (layH h).old,.int .i64 (layH h).far] 53 (0,0)):=fun o=>(Below.heap_alloc w5 o w1.heap.size (by omega)).trans ((hb5.block w1.heap.size (by simp;omega)).trans (m4 _));have k6c: ∀o j,(w5.alloc o).cell? ⟨w4.heap.size,j,none⟩=(#[.int .i64 2,.int .i64 (at_:Nat)]:Array Value)[j]? :=fun o j=>cell_of_row _ _ _ _ _ _ (k6 o);have m6c: ∀o j,(w5.alloc o).cell? ⟨w1.heap.size,j,none⟩=(#[.int .u64 (layH h).base,.int .i64 (layH h).cap,.int .i64 (layH h).to,.int .i64 (layH h).low,.int .i64 (layH h).high,.int .i64 (layH h).old,.int .i64 (layH h).far]:Array Value)[j]? :=fun o j=>cell_of_row _ _ _ _ _ _ (m6 o);have nb:=hN.blk;rw[e0,e1,e2,e3,e4]at nb;have n6c: ∀j,(w5.alloc (.cells #[.int .u64 h.base,.int .i64 h.cap,.int .i64 h.to,.bool h.cycle,.int .i64 h.scan,.slice a0 (lsH h 0).length q0,.slice a1 (lsH h 1).length q1,.slice a2 (lsH h 2).length q2,.slice a3 (lsH h 3).length q3,.slice a4 (lsH h 4).length q4] 113)).cell? ⟨w5.heap.size,j,none⟩=(#[.int .u64 h.base,.int .i64 h.cap,.int .i64 h.to,.bool h.cycle,.int .i64 h.scan,.slice a0 (lsH h 0).length q0,.slice a1 (lsH h 1).length q1,.slice a2 (lsH h 2).length q2,.slice a3 (lsH h 3).length q3,.slice a4 (lsH h 4).length q4]:Array Value)[j]? :=fun j=>cell_of_row _ _ _ _ _ _ nb;have y6: ∀o j,(w5.alloc o).cell? ⟨w.heap.size+1,j,none⟩=Z4[j]? :=fun o j=>cell_of_row _ _ _ _ _ _ (z6 o);have f6: ∀o j,(w5.alloc o).frozen? ⟨w.heap.size+1,j,none⟩=false:=fun o j=>Za (z6 o);unfold Z4 at y6;have st6:FwSt w (w5.alloc (.cells #[.int .u64 h.base,.int .i64 h.cap,.int .i64 h.to,.bool h.cycle,.int .i64 h.scan,.slice a0 (lsH h 0).length q0,.slice a1 (lsH h 1).length q1,.slice a2 (lsH h 2).length q2,.slice a3 (lsH h 3).length q3,.slice a4 (lsH h 4).length q4] 113)) (w.heap.size+1) w1.heap.size w4.heap.size w5.heap.size (w4.heap.size+1) 2 (at_:Nat) h x:=⟨z6 _,m6 _,k6 _,hN,hb05 _,by omega,by omega,by omega,by omega,by simp;omega⟩;have ST6:=Lib.hid st6;clear st6;have HB05:=Lib.hid hb05;have HN:=Lib.hid hN;have E0:=Lib.hid e0;have E1:=Lib.hid e1;have E2:=Lib.hid e2;have E3:=Lib.hid e3;have E4:=Lib.hid e4;clear hb05 hN nb e0 e1 e2 e3 e4 ho5 hb5 z4 p4 x4 m4 k4)))
 go_region
 all_goals
  go_wp2
  try simp only[Exit.inBlock,Exit.then]
  have y:=Zn (z6 (.cells #[.int .u64 h.base,.int .i64 h.cap,.int .i64 h.to,.bool h.cycle,.int .i64 h.scan,.slice a0 (lsH h 0).length q0,.slice a1 (lsH h 1).length q1,.slice a2 (lsH h 2).length q2,.slice a3 (lsH h 3).length q3,.slice a4 (lsH h 4).length q4] 113)) (.int .u64 h.base) (.int .i64 h.cap) (.int .i64 h.to) (.bool h.cycle) (.int .i64 h.scan) (.slice a0 (lsH h 0).length q0) (.slice a1 (lsH h 1).length q1) (.slice a2 (lsH h 2).length q2) (.slice a3 (lsH h 3).length q3) (.slice a4 (lsH h 4).length q4)
  have hfw:fwd h v=(v,h,0):=by simp[fwd,hr,hv0,h1,hf]
  rw[hfw]
  refine bodyPost_ret (v:= .tuple #[.int .u64 v,hpA h x,.int .i64 0]) ?_ rfl ?_
  ·unfold hpA;rw[E0.out,E1.out,E2.out,E3.out,E4.out];simp[results,Try.results39,go_sem,y]
  ·refine⟨x,rfl,?_,?_⟩
   ·exact(Zi (HB05.out _) (by omega) _ _ _ _ _ _ _ _ _ _).drew
   ·refine⟨fun j hj=> ?_,HN.out.own.apart⟩
    have ho:=HN.out.own.own j hj
    refine Uv (Zp ho ?_) ?_
    ·intro c hc
     have hc1:=(ho.lt c hc).1
     exact Yw (by omega) _ _ _ _ _ _ _ _ _ _
    ·intro c h1 h2
     exact⟨by omega,h2⟩
theorem SY(w:World)(G:Nat→Prop)(hG: ∀b,G b→b<w.heap.size)(h:Hp)(hh:h.ok)(src:Nat→Value)(hs: ∀j,j<5→Rd w G (.sl ((lsH h j).map vu)) (src j))(v:Int)(hv:U64 v)
  (hr:Z8 (layH h)=true) (hv0: ¬v=0) (h1:(adr v).2=0) (part:Int) (at_:Nat) (hf:Zx (layH h) (adr v).1=(part,(at_:Int),0)) (hp:part=3)
  (wd:Int) (hwd:(lsH h 2)[at_]? =some wd) (hat:at_< (lsH h 2).length) (hwu:U64 wd) (hgo:(adr wd).2=0):
  Calls Try.prog 39 #[hpA h src,.int .u64 v] w (Yr w (fwd h v)):=by
 have HS:=Lib.hid hs
 have HH:=Lib.hid hh
 clear hs hh
 unfold hpA
 go_enter Try.func39,Try.ntmps39
 subst hp
 go_wp2_with (first
  | (go_at_call 61;go_loud (refine(Yp _ (w4.heap.size+1) w5.heap.size h x ST6.out.now HH.out 2 at_ (by omega) g q2 EP.out (by omega)).mono ?_;rintro e w7 ⟨rfl,hb7⟩;obtain⟨m,hm⟩: ∃m,(lsH h 2).length-at_=m:=⟨_,rfl⟩;obtain⟨qm,hqm⟩: ∃qm,q2-at_=qm:=⟨_,rfl⟩;rw[hm,hqm];have hm0:0<m:=(by omega);have hm0i:(0:Int) < (m:Int):=(by omega);have hat2:at_+0=at_:=rfl;have st7:=ST6.out.below hb7;have hs7:=hb7.size;simp at hs7;have res7:=st7.res;have y7: ∀j,(w7).cell? ⟨w.heap.size+1,j,none⟩=Z4[j]? :=fun j=>cell_of_row _ _ _ _ _ _ res7;unfold Z4 at y7;have f7: ∀j,(w7).frozen? ⟨w.heap.size+1,j,none⟩=false:=fun j=>Za res7;have nb7:=st7.now.blk;rw[E0.out,E1.out,E2.out,E3.out,E4.out]at nb7;have n7c: ∀j,(w7).cell? ⟨w5.heap.size,j,none⟩=(#[.int .u64 h.base,.int .i64 h.cap,.int .i64 h.to,.bool h.cycle,.int .i64 h.scan,.slice a0 (lsH h 0).length q0,.slice a1 (lsH h 1).length q1,.slice (some ⟨g,0,none⟩) (lsH h 2).length q2,.slice a3 (lsH h 3).length q3,.slice a4 (lsH h 4).length q4]:Array Value)[j]? :=fun j=>cell_of_row _ _ _ _ _ _ nb7;have k7c: ∀j,(w7).cell? ⟨w4.heap.size,j,none⟩=(#[.int .i64 3,.int .i64 (at_:Nat)]:Array Value)[j]? :=fun j=>cell_of_row _ _ _ _ _ _ st7.plc;have m7c: ∀j,(w7).cell? ⟨w1.heap.size,j,none⟩=(#[.int .u64 (layH h).base,.int .i64 (layH h).cap,.int .i64 (layH h).to,.int .i64 (layH h).low,.int .i64 (layH h).high,.int .i64 (layH h).old,.int .i64 (layH h).far]:Array Value)[j]? :=fun j=>cell_of_row _ _ _ _ _ _ st7.lay;have hop7:=st7.now.own.own 2 (by omega);rw[EP.out]at hop7;have c7:=Zm hop7 hwd;clear nb7 hop7;have ST7:=Lib.hid st7;clear hb7 st7))
  | (go_at_call 59;go_loud (have st7:=ST7.out;refine(Zk hwu _).mono ?_;rintro e w8 ⟨rfl,hb8⟩;have st8:=st7.below hb8;have hs8:=hb8.size;have res8:=st8.res;have y8: ∀j,(w8).cell? ⟨w.heap.size+1,j,none⟩=Z4[j]? :=fun j=>cell_of_row _ _ _ _ _ _ res8;unfold Z4 at y8;have f8: ∀j,(w8).frozen? ⟨w.heap.size+1,j,none⟩=false:=fun j=>Za res8;have nb8:=st8.now.blk;rw[E0.out,E1.out,E2.out,E3.out,E4.out]at nb8;have n8c: ∀j,(w8).cell? ⟨w5.heap.size,j,none⟩=(#[.int .u64 h.base,.int .i64 h.cap,.int .i64 h.to,.bool h.cycle,.int .i64 h.scan,.slice a0 (lsH h 0).length q0,.slice a1 (lsH h 1).length q1,.slice (some ⟨g,0,none⟩) (lsH h 2).length q2,.slice a3 (lsH h 3).length q3,.slice a4 (lsH h 4).length q4]:Array Value)[j]? :=fun j=>cell_of_row _ _ _ _ _ _ nb8;have k8c: ∀j,(w8).cell? ⟨w4.heap.size,j,none⟩=(#[.int .i64 3,.int .i64 (at_:Nat)]:Array Value)[j]? :=fun j=>cell_of_row _ _ _ _ _ _ st8.plc;have m8c: ∀j,(w8).cell? ⟨w1.heap.size,j,none⟩=(#[.int .u64 (layH h).base,.int .i64 (layH h).cap,.int .i64 (layH h).to,.int .i64 (layH h).low,.int .i64 (layH h).high,.int .i64 (layH h).old,.int .i64 (layH h).far]:Array Value)[j]? :=fun j=>cell_of_row _ _ _ _ _ _ st8.lay;have hop8:=st8.now.own.own 2 (by omega);rw[EP.out]at hop8;have c8:=Zm hop8 hwd;clear nb8 hop8;have ST8:=Lib.hid st8;clear hb8 st8 st7))
  | (go_at_call 62;go_loud (refine(ZM hwu _).mono ?_;rintro e w9 ⟨rfl,hb9⟩;rw[hun];dsimp only;have hs9:=hb9.size;have st10:FwSt w (w9.alloc (.cells #[.int .i64 (sz:Nat),.int .i64 pt] 47)) _ _ _ _ _ _ _ h x:=(ST8.out.below hb9).below ((Below.refl _ _).alloc (Nat.le_refl _) _);have res10:=st10.res;have y10: ∀j,((w9.alloc (.cells #[.int .i64 (sz:Nat),.int .i64 pt] 47))).cell? ⟨w.heap.size+1,j,none⟩=Z4[j]? :=fun j=>cell_of_row _ _ _ _ _ _ res10;unfold Z4 at y10;have f10: ∀j,((w9.alloc (.cells #[.int .i64 (sz:Nat),.int .i64 pt] 47))).frozen? ⟨w.heap.size+1,j,none⟩=false:=fun j=>Za res10;have nb10:=st10.now.blk;rw[E0.out,E1.out,E2.out,E3.out,E4.out]at nb10;have n10c: ∀j,((w9.alloc (.cells #[.int .i64 (sz:Nat),.int .i64 pt] 47))).cell? ⟨w5.heap.size,j,none⟩=(#[.int .u64 h.base,.int .i64 h.cap,.int .i64 h.to,.bool h.cycle,.int .i64 h.scan,.slice a0 (lsH h 0).length q0,.slice a1 (lsH h 1).length q1,.slice (some ⟨g,0,none⟩) (lsH h 2).length q2,.slice a3 (lsH h 3).length q3,.slice a4 (lsH h 4).length q4]:Array Value)[j]? :=fun j=>cell_of_row _ _ _ _ _ _ nb10;have k10c: ∀j,((w9.alloc (.cells #[.int .i64 (sz:Nat),.int .i64 pt] 47))).cell? ⟨w4.heap.size,j,none⟩=(#[.int .i64 3,.int .i64 (at_:Nat)]:Array Value)[j]? :=fun j=>cell_of_row _ _ _ _ _ _ st10.plc;have m10c: ∀j,((w9.alloc (.cells #[.int .i64 (sz:Nat),.int .i64 pt] 47))).cell? ⟨w1.heap.size,j,none⟩=(#[.int .u64 (layH h).base,.int .i64 (layH h).cap,.int .i64 (layH h).to,.int .i64 (layH h).low,.int .i64 (layH h).high,.int .i64 (layH h).old,.int .i64 (layH h).far]:Array Value)[j]? :=fun j=>cell_of_row _ _ _ _ _ _ st10.lay;have hop10:=st10.now.own.own 2 (by omega);rw[EP.out]at hop10;have c10:=Zm hop10 hwd;clear nb10 hop10;have s10c: ∀j,(w9.alloc (.cells #[.int .i64 (sz:Nat),.int .i64 pt] 47)).cell? ⟨w9.heap.size,j,none⟩=(#[.int .i64 (sz:Nat),.int .i64 pt]:Array Value)[j]? :=fun j=>cell_of_row _ _ _ _ _ _ (heap_alloc_new w9 _);have ST10:=Lib.hid st10;have hml:m≤1000000:=(by have:=YB HH.out 2;omega);have hl10:at_+m=(lsH h 2).length:=(by omega);clear hb9 st10))
  | (go_at_call 51;go_loud (refine(Zo (h:=h) (x:=src) (G:=G) (fun c hc=>by have:=hG c hc;simp;omega) (fun j hj=>(HS.out j hj).keep (fun b hb=>by have:=hG b hb;rw[Below.heap_alloc _ _ _ (by simp;omega),Below.heap_alloc _ _ _ (by omega)]) (fun _ h=>h))).mono ?_;rintro e w1 ⟨rfl,hb1⟩;unfold lyA;have z1:=(hb1.block (w.heap.size+1) (by simp)).trans (ZP w _);have p1:=(hb1.block w.heap.size (by simp;omega)).trans ((Below.heap_alloc (w.alloc (.cells #[.int .u64 h.base,.int .i64 h.cap,.int .i64 h.to,.bool h.cycle,.int .i64 h.scan,src 0,src 1,src 2,src 3,src 4] 25)) _ w.heap.size (by simp)).trans (heap_alloc_new w _));have hs1:=hb1.size;simp at hs1;have HB1:=Lib.hid hb1;clear hb1))
  | (go_at_call 43;go_loud (refine(Zt HH.out.lay _).mono ?_;rintro e w2 ⟨rfl,hb2⟩;rw[hr];have z2:=(hb2.block (w.heap.size+1) (by simp;omega)).trans ((Below.heap_alloc w1 _ (w.heap.size+1) (by omega)).trans z1);have p2:=(hb2.block w.heap.size (by simp;omega)).trans ((Below.heap_alloc w1 _ w.heap.size (by omega)).trans p1);have x2: ∀j,w2.cell? ⟨w.heap.size,j,none⟩=(#[.int .u64 h.base,.int .i64 h.cap,.int .i64 h.to,.bool h.cycle,.int .i64 h.scan,src 0,src 1,src 2,src 3,src 4]:Array Value)[j]? :=fun j=>cell_of_row _ _ _ _ _ _ p2;have hb02:Below w.heap.size w w2:=((((((Below.refl _ _).alloc (Nat.le_refl _) _).alloc (by simp) _).trans (HB1.out.mono (by simp;omega))).alloc (by omega) _).trans (hb2.mono (by simp;omega)));have hs2:=hb2.size;simp at hs2;have m2:=(hb2.block w1.heap.size (by simp)).trans (heap_alloc_new w1 _);have HB02:=Lib.hid hb02;clear hb2 hb02))
  | (go_at_call 59;go_loud (refine(Zk hv _).mono ?_;rintro e w3 ⟨rfl,hb3⟩;have z3:=(hb3.block (w.heap.size+1) (by omega)).trans z2;have p3:=(hb3.block w.heap.size (by omega)).trans p2;have m3:=(hb3.block w1.heap.size (by omega)).trans m2;have l3: ∀j,w3.cell? ⟨w1.heap.size,j,none⟩=(#[.int .u64 (layH h).base,.int .i64 (layH h).cap,.int .i64 (layH h).to,.int .i64 (layH h).low,.int .i64 (layH h).high,.int .i64 (layH h).old,.int .i64 (layH h).far]:Array Value)[j]? :=fun j=>cell_of_row _ _ _ _ _ _ m3;have hs3:=hb3.size;have HB3:=Lib.hid hb3;clear hb3))
  | (go_at_call 60;go_loud (refine(ZI HH.out.lay (VK hv) _).mono ?_;rintro e w4 ⟨rfl,hb4⟩;rw[hf];dsimp only;have hs4:=hb4.size;have z4: ∀o,(w4.alloc o).heap[w.heap.size+1]? =some (.cells Z4 25 (0,0)):=fun o=>(Below.heap_alloc w4 o (w.heap.size+1) (by omega)).trans ((hb4.block (w.heap.size+1) (by omega)).trans z3);have p4: ∀o,(w4.alloc o).heap[w.heap.size]? =some (.cells #[.int .u64 h.base,.int .i64 h.cap,.int .i64 h.to,.bool h.cycle,.int .i64 h.scan,src 0,src 1,src 2,src 3,src 4] 25 (0,0)):=fun o=>(Below.heap_alloc w4 o w.heap.size (by omega)).trans ((hb4.block w.heap.size (by omega)).trans p3);have x4: ∀o j,(w4.alloc o).cell? ⟨w.heap.size,j,none⟩=(#[.int .u64 h.base,.int .i64 h.cap,.int .i64 h.to,.bool h.cycle,.int .i64 h.scan,src 0,src 1,src 2,src 3,src 4]:Array Value)[j]? :=fun o j=>cell_of_row _ _ _ _ _ _ (p4 o);have hb04: ∀o,Below w.heap.size w (w4.alloc o):=fun o=>((HB02.out.trans (HB3.out.mono (by omega))).trans (hb4.mono (by omega))).alloc (by omega) o;have m4: ∀o,(w4.alloc o).heap[w1.heap.size]? =some (.cells #[.int .u64 (layH h).base,.int .i64 (layH h).cap,.int .i64 (layH h).to,.int .i64 (layH h).low,.int .i64 (layH h).high,.int .i64 (layH h).old,.int .i64 (layH h).far] 53 (0,0)):=fun o=>(Below.heap_alloc w4 o w1.heap.size (by omega)).trans ((hb4.block w1.heap.size (by omega)).trans m3);have k4:=heap_alloc_new w4 (.cells #[.int .i64 3,.int .i64 (at_:Nat)] 91);have HB04:=Lib.hid hb04;clear hb4 hb04 z3 p3 m3 l3 z2 p2 x2 m2))
  | (go_at_call 48;go_loud (refine(Yk _ G (fun b hb=>by have:=hG b hb;simp;omega) h HH.out src (fun j hj=>(HS.out j hj).keep (fun b hb=>(HB04.out _).block b (hG b hb)) (fun _ h=>h))).mono ?_;rintro e w5 ⟨x,rfl,hb5,ho5⟩;obtain⟨a0,q0,e0⟩:=Z2 (ho5.own 0 (by omega));obtain⟨a1,q1,e1⟩:=Z2 (ho5.own 1 (by omega));obtain⟨a2,q2,e2⟩:=Z2 (ho5.own 2 (by omega));obtain⟨a3,q3,e3⟩:=Z2 (ho5.own 3 (by omega));obtain⟨a4,q4,e4⟩:=Z2 (ho5.own 4 (by omega));obtain⟨g,hg⟩:=YE (ho5.own 2 (by omega)) e2 (by omega);subst hg;unfold hpA;rw[e0,e1,e2,e3,e4];have hs5:=hb5.size;simp at hs5;have hsz4: ∀o,(w4.alloc o).heap.size=w4.heap.size+1:=fun o=>(by simp);rw[hsz4]at ho5;have hN:=ZX ho5 (by omega);unfold U4 at hN;rw[e0,e1,e2,e3,e4]at hN;have hb05: ∀o,Below w.heap.size w (w5.alloc o):=fun o=>((HB04.out _).trans (hb5.mono (by simp;omega))).alloc (by omega) o;have z6: ∀o,(w5.alloc o).heap[w.heap.size+1]? =some (.cells Z4 25 (0,0)):=fun o=>(Below.heap_alloc w5 o (w.heap.size+1) (by omega)).trans ((hb5.block (w.heap.size+1) (by simp;omega)).trans (z4 _));have k6: ∀o,(w5.alloc o).heap[w4.heap.size]? =some (.cells #[.int .i64 3,.int .i64 (at_:Nat)] 91 (0,0)):=fun o=>(Below.heap_alloc w5 o w4.heap.size (by omega)).trans ((hb5.block w4.heap.size (by simp)).trans k4);have m6: ∀o,(w5.alloc o).heap[w1.heap.size]? =some (.cells #[.int .u64 (layH h).base,.int .i64 (layH h).cap,.int .i64 (layH h).to,.int .i64 (layH h).low,.int .i64 (layH h).high,.int .i64 (layH h).old,.int .i64 (layH h).far] 53 (0,0)):=fun o=>(Below.heap_alloc w5 o w1.heap.size (by omega)).trans ((hb5.block w1.heap.size (by simp;omega)).trans (m4 _));have k6c: ∀o j,(w5.alloc o).cell? ⟨w4.heap.size,j,none⟩=(#[.int .i64 3,.int .i64 (at_:Nat)]:Array Value)[j]? :=fun o j=>cell_of_row _ _ _ _ _ _ (k6 o);have m6c: ∀o j,(w5.alloc o).cell? ⟨w1.heap.size,j,none⟩=(#[.int .u64 (layH h).base,.int .i64 (layH h).cap,.int .i64 (layH h).to,.int .i64 (layH h).low,.int .i64 (layH h).high,.int .i64 (layH h).old,.int .i64 (layH h).far]:Array Value)[j]? :=fun o j=>cell_of_row _ _ _ _ _ _ (m6 o);have nb:=hN.blk;rw[e0,e1,e2,e3,e4]at nb;have n6c: ∀j,(w5.alloc (.cells #[.int .u64 h.base,.int .i64 h.cap,.int .i64 h.to,.bool h.cycle,.int .i64 h.scan,.slice a0 (lsH h 0).length q0,.slice a1 (lsH h 1).length q1,.slice (some ⟨g,0,none⟩) (lsH h 2).length q2,.slice a3 (lsH h 3).length q3,.slice a4 (lsH h 4).length q4] 113)).cell? ⟨w5.heap.size,j,none⟩=(#[.int .u64 h.base,.int .i64 h.cap,.int .i64 h.to,.bool h.cycle,.int .i64 h.scan,.slice a0 (lsH h 0).length q0,.slice a1 (lsH h 1).length q1,.slice (some ⟨g,0,none⟩) (lsH h 2).length q2,.slice a3 (lsH h 3).length q3,.slice a4 (lsH h 4).length q4]:Array Value)[j]? :=fun j=>cell_of_row _ _ _ _ _ _ nb;have y6: ∀o j,(w5.alloc o).cell? ⟨w.heap.size+1,j,none⟩=Z4[j]? :=fun o j=>cell_of_row _ _ _ _ _ _ (z6 o);have f6: ∀o j,(w5.alloc o).frozen? ⟨w.heap.size+1,j,none⟩=false:=fun o j=>Za (z6 o);unfold Z4 at y6;have st6:FwSt w (w5.alloc (.cells #[.int .u64 h.base,.int .i64 h.cap,.int .i64 h.to,.bool h.cycle,.int .i64 h.scan,.slice a0 (lsH h 0).length q0,.slice a1 (lsH h 1).length q1,.slice (some ⟨g,0,none⟩) (lsH h 2).length q2,.slice a3 (lsH h 3).length q3,.slice a4 (lsH h 4).length q4] 113)) (w.heap.size+1) w1.heap.size w4.heap.size w5.heap.size (w4.heap.size+1) 3 (at_:Nat) h x:=⟨z6 _,m6 _,k6 _,hN,hb05 _,by omega,by omega,by omega,by omega,by simp;omega⟩;have ST6:=Lib.hid st6;have EP:=Lib.hid e2;clear st6;have HB05:=Lib.hid hb05;have HN:=Lib.hid hN;have E0:=Lib.hid e0;have E1:=Lib.hid e1;have E2:=Lib.hid e2;have E3:=Lib.hid e3;have E4:=Lib.hid e4;clear hb05 hN nb e0 e1 e2 e3 e4 ho5 hb5 z4 p4 x4 m4 k4)))
 have hpH:h.old.getD at_ 0=wd:=by show(lsH h 2).getD at_ 0=wd;simp[List.getD,hwd]
 have hfw:fwd h v=(wd,h,0):=by simp[fwd,hr,hv0,h1,hf,-List.getD_eq_getElem?_getD,hpH,hgo]
 go_region
 all_goals
  go_wp2
  try simp only[Exit.inBlock,Exit.then]
  have y:=Zn ST8.out.res (.int .u64 h.base) (.int .i64 h.cap) (.int .i64 h.to) (.bool h.cycle) (.int .i64 h.scan) (.slice a0 (lsH h 0).length q0) (.slice a1 (lsH h 1).length q1) (.slice (some ⟨g,0,none⟩) (lsH h 2).length q2) (.slice a3 (lsH h 3).length q3) (.slice a4 (lsH h 4).length q4)
  rw[hfw]
  refine bodyPost_ret (v:= .tuple #[.int .u64 wd,hpA h x,.int .i64 0]) ?_ rfl ?_
  ·unfold hpA;rw[E0.out,E1.out,E2.out,E3.out,E4.out];simp[results,Try.results39,go_sem,y]
  ·refine⟨x,rfl,?_,?_⟩
   ·exact(Zi ST8.out.bel (by omega) _ _ _ _ _ _ _ _ _ _).drew
   ·refine⟨fun j hj=> ?_,ST8.out.now.own.apart⟩
    have ho:=ST8.out.now.own.own j hj
    refine Uv (Zp ho ?_) ?_
    ·intro c hc
     have hc1:=(ho.lt c hc).1
     exact Yw (by omega) _ _ _ _ _ _ _ _ _ _
    ·intro c h1 h2
     exact⟨by omega,h2⟩
theorem R1(w:World)(G:Nat→Prop)(hG: ∀b,G b→b<w.heap.size)(h:Hp)(hh:h.ok)(src:Nat→Value)(hs: ∀j,j<5→Rd w G (.sl ((lsH h j).map vu)) (src j))(v:Int)(hv:U64 v)
  (hr:Z8 (layH h)=true) (hv0: ¬v=0) (h1:(adr v).2=0) (part:Int) (at_:Nat) (hf:Zx (layH h) (adr v).1=(part,(at_:Int),0)) (hp:part=4)
  (wd:Int) (hwd:(lsH h 3)[at_]? =some wd) (hat:at_< (lsH h 3).length) (hwu:U64 wd) (hgo:(adr wd).2=0):
  Calls Try.prog 39 #[hpA h src,.int .u64 v] w (Yr w (fwd h v)):=by
 have HS:=Lib.hid hs
 have HH:=Lib.hid hh
 clear hs hh
 unfold hpA
 go_enter Try.func39,Try.ntmps39
 subst hp
 go_wp2_with (first
  | (go_at_call 61;go_loud (refine(Yp _ (w4.heap.size+1) w5.heap.size h x ST6.out.now HH.out 3 at_ (by omega) g q3 EP.out (by omega)).mono ?_;rintro e w7 ⟨rfl,hb7⟩;obtain⟨m,hm⟩: ∃m,(lsH h 3).length-at_=m:=⟨_,rfl⟩;obtain⟨qm,hqm⟩: ∃qm,q3-at_=qm:=⟨_,rfl⟩;rw[hm,hqm];have hm0:0<m:=(by omega);have hm0i:(0:Int) < (m:Int):=(by omega);have hat2:at_+0=at_:=rfl;have st7:=ST6.out.below hb7;have hs7:=hb7.size;simp at hs7;have res7:=st7.res;have y7: ∀j,(w7).cell? ⟨w.heap.size+1,j,none⟩=Z4[j]? :=fun j=>cell_of_row _ _ _ _ _ _ res7;unfold Z4 at y7;have f7: ∀j,(w7).frozen? ⟨w.heap.size+1,j,none⟩=false:=fun j=>Za res7;have nb7:=st7.now.blk;rw[E0.out,E1.out,E2.out,E3.out,E4.out]at nb7;have n7c: ∀j,(w7).cell? ⟨w5.heap.size,j,none⟩=(#[.int .u64 h.base,.int .i64 h.cap,.int .i64 h.to,.bool h.cycle,.int .i64 h.scan,.slice a0 (lsH h 0).length q0,.slice a1 (lsH h 1).length q1,.slice a2 (lsH h 2).length q2,.slice (some ⟨g,0,none⟩) (lsH h 3).length q3,.slice a4 (lsH h 4).length q4]:Array Value)[j]? :=fun j=>cell_of_row _ _ _ _ _ _ nb7;have k7c: ∀j,(w7).cell? ⟨w4.heap.size,j,none⟩=(#[.int .i64 4,.int .i64 (at_:Nat)]:Array Value)[j]? :=fun j=>cell_of_row _ _ _ _ _ _ st7.plc;have m7c: ∀j,(w7).cell? ⟨w1.heap.size,j,none⟩=(#[.int .u64 (layH h).base,.int .i64 (layH h).cap,.int .i64 (layH h).to,.int .i64 (layH h).low,.int .i64 (layH h).high,.int .i64 (layH h).old,.int .i64 (layH h).far]:Array Value)[j]? :=fun j=>cell_of_row _ _ _ _ _ _ st7.lay;have hop7:=st7.now.own.own 3 (by omega);rw[EP.out]at hop7;have c7:=Zm hop7 hwd;clear nb7 hop7;have ST7:=Lib.hid st7;clear hb7 st7))
  | (go_at_call 59;go_loud (have st7:=ST7.out;refine(Zk hwu _).mono ?_;rintro e w8 ⟨rfl,hb8⟩;have st8:=st7.below hb8;have hs8:=hb8.size;have res8:=st8.res;have y8: ∀j,(w8).cell? ⟨w.heap.size+1,j,none⟩=Z4[j]? :=fun j=>cell_of_row _ _ _ _ _ _ res8;unfold Z4 at y8;have f8: ∀j,(w8).frozen? ⟨w.heap.size+1,j,none⟩=false:=fun j=>Za res8;have nb8:=st8.now.blk;rw[E0.out,E1.out,E2.out,E3.out,E4.out]at nb8;have n8c: ∀j,(w8).cell? ⟨w5.heap.size,j,none⟩=(#[.int .u64 h.base,.int .i64 h.cap,.int .i64 h.to,.bool h.cycle,.int .i64 h.scan,.slice a0 (lsH h 0).length q0,.slice a1 (lsH h 1).length q1,.slice a2 (lsH h 2).length q2,.slice (some ⟨g,0,none⟩) (lsH h 3).length q3,.slice a4 (lsH h 4).length q4]:Array Value)[j]? :=fun j=>cell_of_row _ _ _ _ _ _ nb8;have k8c: ∀j,(w8).cell? ⟨w4.heap.size,j,none⟩=(#[.int .i64 4,.int .i64 (at_:Nat)]:Array Value)[j]? :=fun j=>cell_of_row _ _ _ _ _ _ st8.plc;have m8c: ∀j,(w8).cell? ⟨w1.heap.size,j,none⟩=(#[.int .u64 (layH h).base,.int .i64 (layH h).cap,.int .i64 (layH h).to,.int .i64 (layH h).low,.int .i64 (layH h).high,.int .i64 (layH h).old,.int .i64 (layH h).far]:Array Value)[j]? :=fun j=>cell_of_row _ _ _ _ _ _ st8.lay;have hop8:=st8.now.own.own 3 (by omega);rw[EP.out]at hop8;have c8:=Zm hop8 hwd;clear nb8 hop8;have ST8:=Lib.hid st8;clear hb8 st8 st7))
  | (go_at_call 62;go_loud (refine(ZM hwu _).mono ?_;rintro e w9 ⟨rfl,hb9⟩;rw[hun];dsimp only;have hs9:=hb9.size;have st10:FwSt w (w9.alloc (.cells #[.int .i64 (sz:Nat),.int .i64 pt] 47)) _ _ _ _ _ _ _ h x:=(ST8.out.below hb9).below ((Below.refl _ _).alloc (Nat.le_refl _) _);have res10:=st10.res;have y10: ∀j,((w9.alloc (.cells #[.int .i64 (sz:Nat),.int .i64 pt] 47))).cell? ⟨w.heap.size+1,j,none⟩=Z4[j]? :=fun j=>cell_of_row _ _ _ _ _ _ res10;unfold Z4 at y10;have f10: ∀j,((w9.alloc (.cells #[.int .i64 (sz:Nat),.int .i64 pt] 47))).frozen? ⟨w.heap.size+1,j,none⟩=false:=fun j=>Za res10;have nb10:=st10.now.blk;rw[E0.out,E1.out,E2.out,E3.out,E4.out]at nb10;have n10c: ∀j,((w9.alloc (.cells #[.int .i64 (sz:Nat),.int .i64 pt] 47))).cell? ⟨w5.heap.size,j,none⟩=(#[.int .u64 h.base,.int .i64 h.cap,.int .i64 h.to,.bool h.cycle,.int .i64 h.scan,.slice a0 (lsH h 0).length q0,.slice a1 (lsH h 1).length q1,.slice a2 (lsH h 2).length q2,.slice (some ⟨g,0,none⟩) (lsH h 3).length q3,.slice a4 (lsH h 4).length q4]:Array Value)[j]? :=fun j=>cell_of_row _ _ _ _ _ _ nb10;have k10c: ∀j,((w9.alloc (.cells #[.int .i64 (sz:Nat),.int .i64 pt] 47))).cell? ⟨w4.heap.size,j,none⟩=(#[.int .i64 4,.int .i64 (at_:Nat)]:Array Value)[j]? :=fun j=>cell_of_row _ _ _ _ _ _ st10.plc;have m10c: ∀j,((w9.alloc (.cells #[.int .i64 (sz:Nat),.int .i64 pt] 47))).cell? ⟨w1.heap.size,j,none⟩=(#[.int .u64 (layH h).base,.int .i64 (layH h).cap,.int .i64 (layH h).to,.int .i64 (layH h).low,.int .i64 (layH h).high,.int .i64 (layH h).old,.int .i64 (layH h).far]:Array Value)[j]? :=fun j=>cell_of_row _ _ _ _ _ _ st10.lay;have hop10:=st10.now.own.own 3 (by omega);rw[EP.out]at hop10;have c10:=Zm hop10 hwd;clear nb10 hop10;have s10c: ∀j,(w9.alloc (.cells #[.int .i64 (sz:Nat),.int .i64 pt] 47)).cell? ⟨w9.heap.size,j,none⟩=(#[.int .i64 (sz:Nat),.int .i64 pt]:Array Value)[j]? :=fun j=>cell_of_row _ _ _ _ _ _ (heap_alloc_new w9 _);have ST10:=Lib.hid st10;have hml:m≤1000000:=(by have:=YB HH.out 3;omega);have hl10:at_+m=(lsH h 3).length:=(by omega);clear hb9 st10))
  | (go_at_call 51;go_loud (refine(Zo (h:=h) (x:=src) (G:=G) (fun c hc=>by have:=hG c hc;simp;omega) (fun j hj=>(HS.out j hj).keep (fun b hb=>by have:=hG b hb;rw[Below.heap_alloc _ _ _ (by simp;omega),Below.heap_alloc _ _ _ (by omega)]) (fun _ h=>h))).mono ?_;rintro e w1 ⟨rfl,hb1⟩;unfold lyA;have z1:=(hb1.block (w.heap.size+1) (by simp)).trans (ZP w _);have p1:=(hb1.block w.heap.size (by simp;omega)).trans ((Below.heap_alloc (w.alloc (.cells #[.int .u64 h.base,.int .i64 h.cap,.int .i64 h.to,.bool h.cycle,.int .i64 h.scan,src 0,src 1,src 2,src 3,src 4] 25)) _ w.heap.size (by simp)).trans (heap_alloc_new w _));have hs1:=hb1.size;simp at hs1;have HB1:=Lib.hid hb1;clear hb1))
  | (go_at_call 43;go_loud (refine(Zt HH.out.lay _).mono ?_;rintro e w2 ⟨rfl,hb2⟩;rw[hr];have z2:=(hb2.block (w.heap.size+1) (by simp;omega)).trans ((Below.heap_alloc w1 _ (w.heap.size+1) (by omega)).trans z1);have p2:=(hb2.block w.heap.size (by simp;omega)).trans ((Below.heap_alloc w1 _ w.heap.size (by omega)).trans p1);have x2: ∀j,w2.cell? ⟨w.heap.size,j,none⟩=(#[.int .u64 h.base,.int .i64 h.cap,.int .i64 h.to,.bool h.cycle,.int .i64 h.scan,src 0,src 1,src 2,src 3,src 4]:Array Value)[j]? :=fun j=>cell_of_row _ _ _ _ _ _ p2;have hb02:Below w.heap.size w w2:=((((((Below.refl _ _).alloc (Nat.le_refl _) _).alloc (by simp) _).trans (HB1.out.mono (by simp;omega))).alloc (by omega) _).trans (hb2.mono (by simp;omega)));have hs2:=hb2.size;simp at hs2;have m2:=(hb2.block w1.heap.size (by simp)).trans (heap_alloc_new w1 _);have HB02:=Lib.hid hb02;clear hb2 hb02))
  | (go_at_call 59;go_loud (refine(Zk hv _).mono ?_;rintro e w3 ⟨rfl,hb3⟩;have z3:=(hb3.block (w.heap.size+1) (by omega)).trans z2;have p3:=(hb3.block w.heap.size (by omega)).trans p2;have m3:=(hb3.block w1.heap.size (by omega)).trans m2;have l3: ∀j,w3.cell? ⟨w1.heap.size,j,none⟩=(#[.int .u64 (layH h).base,.int .i64 (layH h).cap,.int .i64 (layH h).to,.int .i64 (layH h).low,.int .i64 (layH h).high,.int .i64 (layH h).old,.int .i64 (layH h).far]:Array Value)[j]? :=fun j=>cell_of_row _ _ _ _ _ _ m3;have hs3:=hb3.size;have HB3:=Lib.hid hb3;clear hb3))
  | (go_at_call 60;go_loud (refine(ZI HH.out.lay (VK hv) _).mono ?_;rintro e w4 ⟨rfl,hb4⟩;rw[hf];dsimp only;have hs4:=hb4.size;have z4: ∀o,(w4.alloc o).heap[w.heap.size+1]? =some (.cells Z4 25 (0,0)):=fun o=>(Below.heap_alloc w4 o (w.heap.size+1) (by omega)).trans ((hb4.block (w.heap.size+1) (by omega)).trans z3);have p4: ∀o,(w4.alloc o).heap[w.heap.size]? =some (.cells #[.int .u64 h.base,.int .i64 h.cap,.int .i64 h.to,.bool h.cycle,.int .i64 h.scan,src 0,src 1,src 2,src 3,src 4] 25 (0,0)):=fun o=>(Below.heap_alloc w4 o w.heap.size (by omega)).trans ((hb4.block w.heap.size (by omega)).trans p3);have x4: ∀o j,(w4.alloc o).cell? ⟨w.heap.size,j,none⟩=(#[.int .u64 h.base,.int .i64 h.cap,.int .i64 h.to,.bool h.cycle,.int .i64 h.scan,src 0,src 1,src 2,src 3,src 4]:Array Value)[j]? :=fun o j=>cell_of_row _ _ _ _ _ _ (p4 o);have hb04: ∀o,Below w.heap.size w (w4.alloc o):=fun o=>((HB02.out.trans (HB3.out.mono (by omega))).trans (hb4.mono (by omega))).alloc (by omega) o;have m4: ∀o,(w4.alloc o).heap[w1.heap.size]? =some (.cells #[.int .u64 (layH h).base,.int .i64 (layH h).cap,.int .i64 (layH h).to,.int .i64 (layH h).low,.int .i64 (layH h).high,.int .i64 (layH h).old,.int .i64 (layH h).far] 53 (0,0)):=fun o=>(Below.heap_alloc w4 o w1.heap.size (by omega)).trans ((hb4.block w1.heap.size (by omega)).trans m3);have k4:=heap_alloc_new w4 (.cells #[.int .i64 4,.int .i64 (at_:Nat)] 91);have HB04:=Lib.hid hb04;clear hb4 hb04 z3 p3 m3 l3 z2 p2 x2 m2))
  | (go_at_call 48;go_loud (refine(Yk _ G (fun b hb=>by have:=hG b hb;simp;omega) h HH.out src (fun j hj=>(HS.out j hj).keep (fun b hb=>(HB04.out _).block b (hG b hb)) (fun _ h=>h))).mono ?_;rintro e w5 ⟨x,rfl,hb5,ho5⟩;obtain⟨a0,q0,e0⟩:=Z2 (ho5.own 0 (by omega));obtain⟨a1,q1,e1⟩:=Z2 (ho5.own 1 (by omega));obtain⟨a2,q2,e2⟩:=Z2 (ho5.own 2 (by omega));obtain⟨a3,q3,e3⟩:=Z2 (ho5.own 3 (by omega));obtain⟨a4,q4,e4⟩:=Z2 (ho5.own 4 (by omega));obtain⟨g,hg⟩:=YE (ho5.own 3 (by omega)) e3 (by omega);subst hg;unfold hpA;rw[e0,e1,e2,e3,e4];have hs5:=hb5.size;simp at hs5;have hsz4: ∀o,(w4.alloc o).heap.size=w4.heap.size+1:=fun o=>(by simp);rw[hsz4]at ho5;have hN:=ZX ho5 (by omega);unfold U4 at hN;rw[e0,e1,e2,e3,e4]at hN;have hb05: ∀o,Below w.heap.size w (w5.alloc o):=fun o=>((HB04.out _).trans (hb5.mono (by simp;omega))).alloc (by omega) o;have z6: ∀o,(w5.alloc o).heap[w.heap.size+1]? =some (.cells Z4 25 (0,0)):=fun o=>(Below.heap_alloc w5 o (w.heap.size+1) (by omega)).trans ((hb5.block (w.heap.size+1) (by simp;omega)).trans (z4 _));have k6: ∀o,(w5.alloc o).heap[w4.heap.size]? =some (.cells #[.int .i64 4,.int .i64 (at_:Nat)] 91 (0,0)):=fun o=>(Below.heap_alloc w5 o w4.heap.size (by omega)).trans ((hb5.block w4.heap.size (by simp)).trans k4);have m6: ∀o,(w5.alloc o).heap[w1.heap.size]? =some (.cells #[.int .u64 (layH h).base,.int .i64 (layH h).cap,.int .i64 (layH h).to,.int .i64 (layH h).low,.int .i64 (layH h).high,.int .i64 (layH h).old,.int .i64 (layH h).far] 53 (0,0)):=fun o=>(Below.heap_alloc w5 o w1.heap.size (by omega)).trans ((hb5.block w1.heap.size (by simp;omega)).trans (m4 _));have k6c: ∀o j,(w5.alloc o).cell? ⟨w4.heap.size,j,none⟩=(#[.int .i64 4,.int .i64 (at_:Nat)]:Array Value)[j]? :=fun o j=>cell_of_row _ _ _ _ _ _ (k6 o);have m6c: ∀o j,(w5.alloc o).cell? ⟨w1.heap.size,j,none⟩=(#[.int .u64 (layH h).base,.int .i64 (layH h).cap,.int .i64 (layH h).to,.int .i64 (layH h).low,.int .i64 (layH h).high,.int .i64 (layH h).old,.int .i64 (layH h).far]:Array Value)[j]? :=fun o j=>cell_of_row _ _ _ _ _ _ (m6 o);have nb:=hN.blk;rw[e0,e1,e2,e3,e4]at nb;have n6c: ∀j,(w5.alloc (.cells #[.int .u64 h.base,.int .i64 h.cap,.int .i64 h.to,.bool h.cycle,.int .i64 h.scan,.slice a0 (lsH h 0).length q0,.slice a1 (lsH h 1).length q1,.slice a2 (lsH h 2).length q2,.slice (some ⟨g,0,none⟩) (lsH h 3).length q3,.slice a4 (lsH h 4).length q4] 113)).cell? ⟨w5.heap.size,j,none⟩=(#[.int .u64 h.base,.int .i64 h.cap,.int .i64 h.to,.bool h.cycle,.int .i64 h.scan,.slice a0 (lsH h 0).length q0,.slice a1 (lsH h 1).length q1,.slice a2 (lsH h 2).length q2,.slice (some ⟨g,0,none⟩) (lsH h 3).length q3,.slice a4 (lsH h 4).length q4]:Array Value)[j]? :=fun j=>cell_of_row _ _ _ _ _ _ nb;have y6: ∀o j,(w5.alloc o).cell? ⟨w.heap.size+1,j,none⟩=Z4[j]? :=fun o j=>cell_of_row _ _ _ _ _ _ (z6 o);have f6: ∀o j,(w5.alloc o).frozen? ⟨w.heap.size+1,j,none⟩=false:=fun o j=>Za (z6 o);unfold Z4 at y6;have st6:FwSt w (w5.alloc (.cells #[.int .u64 h.base,.int .i64 h.cap,.int .i64 h.to,.bool h.cycle,.int .i64 h.scan,.slice a0 (lsH h 0).length q0,.slice a1 (lsH h 1).length q1,.slice a2 (lsH h 2).length q2,.slice (some ⟨g,0,none⟩) (lsH h 3).length q3,.slice a4 (lsH h 4).length q4] 113)) (w.heap.size+1) w1.heap.size w4.heap.size w5.heap.size (w4.heap.size+1) 4 (at_:Nat) h x:=⟨z6 _,m6 _,k6 _,hN,hb05 _,by omega,by omega,by omega,by omega,by simp;omega⟩;have ST6:=Lib.hid st6;have EP:=Lib.hid e3;clear st6;have HB05:=Lib.hid hb05;have HN:=Lib.hid hN;have E0:=Lib.hid e0;have E1:=Lib.hid e1;have E2:=Lib.hid e2;have E3:=Lib.hid e3;have E4:=Lib.hid e4;clear hb05 hN nb e0 e1 e2 e3 e4 ho5 hb5 z4 p4 x4 m4 k4)))
 have hpH:h.far.getD at_ 0=wd:=by show(lsH h 3).getD at_ 0=wd;simp[List.getD,hwd]
 have hfw:fwd h v=(wd,h,0):=by simp[fwd,hr,hv0,h1,hf,-List.getD_eq_getElem?_getD,hpH,hgo]
 go_region
 all_goals
  go_wp2
  try simp only[Exit.inBlock,Exit.then]
  have y:=Zn ST8.out.res (.int .u64 h.base) (.int .i64 h.cap) (.int .i64 h.to) (.bool h.cycle) (.int .i64 h.scan) (.slice a0 (lsH h 0).length q0) (.slice a1 (lsH h 1).length q1) (.slice a2 (lsH h 2).length q2) (.slice (some ⟨g,0,none⟩) (lsH h 3).length q3) (.slice a4 (lsH h 4).length q4)
  rw[hfw]
  refine bodyPost_ret (v:= .tuple #[.int .u64 wd,hpA h x,.int .i64 0]) ?_ rfl ?_
  ·unfold hpA;rw[E0.out,E1.out,E2.out,E3.out,E4.out];simp[results,Try.results39,go_sem,y]
  ·refine⟨x,rfl,?_,?_⟩
   ·exact(Zi ST8.out.bel (by omega) _ _ _ _ _ _ _ _ _ _).drew
   ·refine⟨fun j hj=> ?_,ST8.out.now.own.apart⟩
    have ho:=ST8.out.now.own.own j hj
    refine Uv (Zp ho ?_) ?_
    ·intro c hc
     have hc1:=(ho.lt c hc).1
     exact Yw (by omega) _ _ _ _ _ _ _ _ _ _
    ·intro c h1 h2
     exact⟨by omega,h2⟩
theorem RP(w:World)(G:Nat→Prop)(hG: ∀b,G b→b<w.heap.size)(h:Hp)(hh:h.ok)(src:Nat→Value)(hs: ∀j,j<5→Rd w G (.sl ((lsH h j).map vu)) (src j))(v:Int)(hv:U64 v)
  (hr:Z8 (layH h)=true) (hv0: ¬v=0) (h1:(adr v).2=0) (part:Int) (at_:Nat) (hf:Zx (layH h) (adr v).1=(part,(at_:Int),0)) (hp:part=3)
  (wd:Int) (hwd:(lsH h 2)[at_]? =some wd) (hat:at_< (lsH h 2).length) (hwu:U64 wd) (hgo: ¬(adr wd).2=0) (sz pt er:Int) (hun:unpk wd=(sz,pt,er)) (her: ¬er=0):
  Calls Try.prog 39 #[hpA h src,.int .u64 v] w (Yr w (fwd h v)):=by
 have HS:=Lib.hid hs
 have HH:=Lib.hid hh
 clear hs hh
 unfold hpA
 go_enter Try.func39,Try.ntmps39
 subst hp
 go_wp2_with (first
  | (go_at_call 61;go_loud (refine(Yp _ (w4.heap.size+1) w5.heap.size h x ST6.out.now HH.out 2 at_ (by omega) g q2 EP.out (by omega)).mono ?_;rintro e w7 ⟨rfl,hb7⟩;obtain⟨m,hm⟩: ∃m,(lsH h 2).length-at_=m:=⟨_,rfl⟩;obtain⟨qm,hqm⟩: ∃qm,q2-at_=qm:=⟨_,rfl⟩;rw[hm,hqm];have hm0:0<m:=(by omega);have hm0i:(0:Int) < (m:Int):=(by omega);have hat2:at_+0=at_:=rfl;have st7:=ST6.out.below hb7;have hs7:=hb7.size;simp at hs7;have res7:=st7.res;have y7: ∀j,(w7).cell? ⟨w.heap.size+1,j,none⟩=Z4[j]? :=fun j=>cell_of_row _ _ _ _ _ _ res7;unfold Z4 at y7;have f7: ∀j,(w7).frozen? ⟨w.heap.size+1,j,none⟩=false:=fun j=>Za res7;have nb7:=st7.now.blk;rw[E0.out,E1.out,E2.out,E3.out,E4.out]at nb7;have n7c: ∀j,(w7).cell? ⟨w5.heap.size,j,none⟩=(#[.int .u64 h.base,.int .i64 h.cap,.int .i64 h.to,.bool h.cycle,.int .i64 h.scan,.slice a0 (lsH h 0).length q0,.slice a1 (lsH h 1).length q1,.slice (some ⟨g,0,none⟩) (lsH h 2).length q2,.slice a3 (lsH h 3).length q3,.slice a4 (lsH h 4).length q4]:Array Value)[j]? :=fun j=>cell_of_row _ _ _ _ _ _ nb7;have k7c: ∀j,(w7).cell? ⟨w4.heap.size,j,none⟩=(#[.int .i64 3,.int .i64 (at_:Nat)]:Array Value)[j]? :=fun j=>cell_of_row _ _ _ _ _ _ st7.plc;have m7c: ∀j,(w7).cell? ⟨w1.heap.size,j,none⟩=(#[.int .u64 (layH h).base,.int .i64 (layH h).cap,.int .i64 (layH h).to,.int .i64 (layH h).low,.int .i64 (layH h).high,.int .i64 (layH h).old,.int .i64 (layH h).far]:Array Value)[j]? :=fun j=>cell_of_row _ _ _ _ _ _ st7.lay;have hop7:=st7.now.own.own 2 (by omega);rw[EP.out]at hop7;have c7:=Zm hop7 hwd;clear nb7 hop7;have ST7:=Lib.hid st7;clear hb7 st7))
  | (go_at_call 59;go_loud (have st7:=ST7.out;refine(Zk hwu _).mono ?_;rintro e w8 ⟨rfl,hb8⟩;have st8:=st7.below hb8;have hs8:=hb8.size;have res8:=st8.res;have y8: ∀j,(w8).cell? ⟨w.heap.size+1,j,none⟩=Z4[j]? :=fun j=>cell_of_row _ _ _ _ _ _ res8;unfold Z4 at y8;have f8: ∀j,(w8).frozen? ⟨w.heap.size+1,j,none⟩=false:=fun j=>Za res8;have nb8:=st8.now.blk;rw[E0.out,E1.out,E2.out,E3.out,E4.out]at nb8;have n8c: ∀j,(w8).cell? ⟨w5.heap.size,j,none⟩=(#[.int .u64 h.base,.int .i64 h.cap,.int .i64 h.to,.bool h.cycle,.int .i64 h.scan,.slice a0 (lsH h 0).length q0,.slice a1 (lsH h 1).length q1,.slice (some ⟨g,0,none⟩) (lsH h 2).length q2,.slice a3 (lsH h 3).length q3,.slice a4 (lsH h 4).length q4]:Array Value)[j]? :=fun j=>cell_of_row _ _ _ _ _ _ nb8;have k8c: ∀j,(w8).cell? ⟨w4.heap.size,j,none⟩=(#[.int .i64 3,.int .i64 (at_:Nat)]:Array Value)[j]? :=fun j=>cell_of_row _ _ _ _ _ _ st8.plc;have m8c: ∀j,(w8).cell? ⟨w1.heap.size,j,none⟩=(#[.int .u64 (layH h).base,.int .i64 (layH h).cap,.int .i64 (layH h).to,.int .i64 (layH h).low,.int .i64 (layH h).high,.int .i64 (layH h).old,.int .i64 (layH h).far]:Array Value)[j]? :=fun j=>cell_of_row _ _ _ _ _ _ st8.lay;have hop8:=st8.now.own.own 2 (by omega);rw[EP.out]at hop8;have c8:=Zm hop8 hwd;clear nb8 hop8;have ST8:=Lib.hid st8;clear hb8 st8 st7))
  | (go_at_call 62;go_loud (refine(ZM hwu _).mono ?_;rintro e w9 ⟨rfl,hb9⟩;rw[hun];dsimp only;have hs9:=hb9.size;have st10:FwSt w (w9.alloc (.cells #[.int .i64 sz,.int .i64 pt] 47)) _ _ _ _ _ _ _ h x:=(ST8.out.below hb9).below ((Below.refl _ _).alloc (Nat.le_refl _) _);have res10:=st10.res;have y10: ∀j,((w9.alloc (.cells #[.int .i64 sz,.int .i64 pt] 47))).cell? ⟨w.heap.size+1,j,none⟩=Z4[j]? :=fun j=>cell_of_row _ _ _ _ _ _ res10;unfold Z4 at y10;have f10: ∀j,((w9.alloc (.cells #[.int .i64 sz,.int .i64 pt] 47))).frozen? ⟨w.heap.size+1,j,none⟩=false:=fun j=>Za res10;have nb10:=st10.now.blk;rw[E0.out,E1.out,E2.out,E3.out,E4.out]at nb10;have n10c: ∀j,((w9.alloc (.cells #[.int .i64 sz,.int .i64 pt] 47))).cell? ⟨w5.heap.size,j,none⟩=(#[.int .u64 h.base,.int .i64 h.cap,.int .i64 h.to,.bool h.cycle,.int .i64 h.scan,.slice a0 (lsH h 0).length q0,.slice a1 (lsH h 1).length q1,.slice (some ⟨g,0,none⟩) (lsH h 2).length q2,.slice a3 (lsH h 3).length q3,.slice a4 (lsH h 4).length q4]:Array Value)[j]? :=fun j=>cell_of_row _ _ _ _ _ _ nb10;have k10c: ∀j,((w9.alloc (.cells #[.int .i64 sz,.int .i64 pt] 47))).cell? ⟨w4.heap.size,j,none⟩=(#[.int .i64 3,.int .i64 (at_:Nat)]:Array Value)[j]? :=fun j=>cell_of_row _ _ _ _ _ _ st10.plc;have m10c: ∀j,((w9.alloc (.cells #[.int .i64 sz,.int .i64 pt] 47))).cell? ⟨w1.heap.size,j,none⟩=(#[.int .u64 (layH h).base,.int .i64 (layH h).cap,.int .i64 (layH h).to,.int .i64 (layH h).low,.int .i64 (layH h).high,.int .i64 (layH h).old,.int .i64 (layH h).far]:Array Value)[j]? :=fun j=>cell_of_row _ _ _ _ _ _ st10.lay;have hop10:=st10.now.own.own 2 (by omega);rw[EP.out]at hop10;have c10:=Zm hop10 hwd;clear nb10 hop10;have s10c: ∀j,(w9.alloc (.cells #[.int .i64 sz,.int .i64 pt] 47)).cell? ⟨w9.heap.size,j,none⟩=(#[.int .i64 sz,.int .i64 pt]:Array Value)[j]? :=fun j=>cell_of_row _ _ _ _ _ _ (heap_alloc_new w9 _);have ST10:=Lib.hid st10;have hml:m≤1000000:=(by have:=YB HH.out 2;omega);have hl10:at_+m=(lsH h 2).length:=(by omega);clear hb9 st10))
  | (go_at_call 51;go_loud (refine(Zo (h:=h) (x:=src) (G:=G) (fun c hc=>by have:=hG c hc;simp;omega) (fun j hj=>(HS.out j hj).keep (fun b hb=>by have:=hG b hb;rw[Below.heap_alloc _ _ _ (by simp;omega),Below.heap_alloc _ _ _ (by omega)]) (fun _ h=>h))).mono ?_;rintro e w1 ⟨rfl,hb1⟩;unfold lyA;have z1:=(hb1.block (w.heap.size+1) (by simp)).trans (ZP w _);have p1:=(hb1.block w.heap.size (by simp;omega)).trans ((Below.heap_alloc (w.alloc (.cells #[.int .u64 h.base,.int .i64 h.cap,.int .i64 h.to,.bool h.cycle,.int .i64 h.scan,src 0,src 1,src 2,src 3,src 4] 25)) _ w.heap.size (by simp)).trans (heap_alloc_new w _));have hs1:=hb1.size;simp at hs1;have HB1:=Lib.hid hb1;clear hb1))
  | (go_at_call 43;go_loud (refine(Zt HH.out.lay _).mono ?_;rintro e w2 ⟨rfl,hb2⟩;rw[hr];have z2:=(hb2.block (w.heap.size+1) (by simp;omega)).trans ((Below.heap_alloc w1 _ (w.heap.size+1) (by omega)).trans z1);have p2:=(hb2.block w.heap.size (by simp;omega)).trans ((Below.heap_alloc w1 _ w.heap.size (by omega)).trans p1);have x2: ∀j,w2.cell? ⟨w.heap.size,j,none⟩=(#[.int .u64 h.base,.int .i64 h.cap,.int .i64 h.to,.bool h.cycle,.int .i64 h.scan,src 0,src 1,src 2,src 3,src 4]:Array Value)[j]? :=fun j=>cell_of_row _ _ _ _ _ _ p2;have hb02:Below w.heap.size w w2:=((((((Below.refl _ _).alloc (Nat.le_refl _) _).alloc (by simp) _).trans (HB1.out.mono (by simp;omega))).alloc (by omega) _).trans (hb2.mono (by simp;omega)));have hs2:=hb2.size;simp at hs2;have m2:=(hb2.block w1.heap.size (by simp)).trans (heap_alloc_new w1 _);have HB02:=Lib.hid hb02;clear hb2 hb02))
  | (go_at_call 59;go_loud (refine(Zk hv _).mono ?_;rintro e w3 ⟨rfl,hb3⟩;have z3:=(hb3.block (w.heap.size+1) (by omega)).trans z2;have p3:=(hb3.block w.heap.size (by omega)).trans p2;have m3:=(hb3.block w1.heap.size (by omega)).trans m2;have l3: ∀j,w3.cell? ⟨w1.heap.size,j,none⟩=(#[.int .u64 (layH h).base,.int .i64 (layH h).cap,.int .i64 (layH h).to,.int .i64 (layH h).low,.int .i64 (layH h).high,.int .i64 (layH h).old,.int .i64 (layH h).far]:Array Value)[j]? :=fun j=>cell_of_row _ _ _ _ _ _ m3;have hs3:=hb3.size;have HB3:=Lib.hid hb3;clear hb3))
  | (go_at_call 60;go_loud (refine(ZI HH.out.lay (VK hv) _).mono ?_;rintro e w4 ⟨rfl,hb4⟩;rw[hf];dsimp only;have hs4:=hb4.size;have z4: ∀o,(w4.alloc o).heap[w.heap.size+1]? =some (.cells Z4 25 (0,0)):=fun o=>(Below.heap_alloc w4 o (w.heap.size+1) (by omega)).trans ((hb4.block (w.heap.size+1) (by omega)).trans z3);have p4: ∀o,(w4.alloc o).heap[w.heap.size]? =some (.cells #[.int .u64 h.base,.int .i64 h.cap,.int .i64 h.to,.bool h.cycle,.int .i64 h.scan,src 0,src 1,src 2,src 3,src 4] 25 (0,0)):=fun o=>(Below.heap_alloc w4 o w.heap.size (by omega)).trans ((hb4.block w.heap.size (by omega)).trans p3);have x4: ∀o j,(w4.alloc o).cell? ⟨w.heap.size,j,none⟩=(#[.int .u64 h.base,.int .i64 h.cap,.int .i64 h.to,.bool h.cycle,.int .i64 h.scan,src 0,src 1,src 2,src 3,src 4]:Array Value)[j]? :=fun o j=>cell_of_row _ _ _ _ _ _ (p4 o);have hb04: ∀o,Below w.heap.size w (w4.alloc o):=fun o=>((HB02.out.trans (HB3.out.mono (by omega))).trans (hb4.mono (by omega))).alloc (by omega) o;have m4: ∀o,(w4.alloc o).heap[w1.heap.size]? =some (.cells #[.int .u64 (layH h).base,.int .i64 (layH h).cap,.int .i64 (layH h).to,.int .i64 (layH h).low,.int .i64 (layH h).high,.int .i64 (layH h).old,.int .i64 (layH h).far] 53 (0,0)):=fun o=>(Below.heap_alloc w4 o w1.heap.size (by omega)).trans ((hb4.block w1.heap.size (by omega)).trans m3);have k4:=heap_alloc_new w4 (.cells #[.int .i64 3,.int .i64 (at_:Nat)] 91);have HB04:=Lib.hid hb04;clear hb4 hb04 z3 p3 m3 l3 z2 p2 x2 m2))
  | (go_at_call 48;go_loud (refine(Yk _ G (fun b hb=>by have:=hG b hb;simp;omega) h HH.out src (fun j hj=>(HS.out j hj).keep (fun b hb=>(HB04.out _).block b (hG b hb)) (fun _ h=>h))).mono ?_;rintro e w5 ⟨x,rfl,hb5,ho5⟩;obtain⟨a0,q0,e0⟩:=Z2 (ho5.own 0 (by omega));obtain⟨a1,q1,e1⟩:=Z2 (ho5.own 1 (by omega));obtain⟨a2,q2,e2⟩:=Z2 (ho5.own 2 (by omega));obtain⟨a3,q3,e3⟩:=Z2 (ho5.own 3 (by omega));obtain⟨a4,q4,e4⟩:=Z2 (ho5.own 4 (by omega));obtain⟨g,hg⟩:=YE (ho5.own 2 (by omega)) e2 (by omega);subst hg;unfold hpA;rw[e0,e1,e2,e3,e4];have hs5:=hb5.size;simp at hs5;have hsz4: ∀o,(w4.alloc o).heap.size=w4.heap.size+1:=fun o=>(by simp);rw[hsz4]at ho5;have hN:=ZX ho5 (by omega);unfold U4 at hN;rw[e0,e1,e2,e3,e4]at hN;have hb05: ∀o,Below w.heap.size w (w5.alloc o):=fun o=>((HB04.out _).trans (hb5.mono (by simp;omega))).alloc (by omega) o;have z6: ∀o,(w5.alloc o).heap[w.heap.size+1]? =some (.cells Z4 25 (0,0)):=fun o=>(Below.heap_alloc w5 o (w.heap.size+1) (by omega)).trans ((hb5.block (w.heap.size+1) (by simp;omega)).trans (z4 _));have k6: ∀o,(w5.alloc o).heap[w4.heap.size]? =some (.cells #[.int .i64 3,.int .i64 (at_:Nat)] 91 (0,0)):=fun o=>(Below.heap_alloc w5 o w4.heap.size (by omega)).trans ((hb5.block w4.heap.size (by simp)).trans k4);have m6: ∀o,(w5.alloc o).heap[w1.heap.size]? =some (.cells #[.int .u64 (layH h).base,.int .i64 (layH h).cap,.int .i64 (layH h).to,.int .i64 (layH h).low,.int .i64 (layH h).high,.int .i64 (layH h).old,.int .i64 (layH h).far] 53 (0,0)):=fun o=>(Below.heap_alloc w5 o w1.heap.size (by omega)).trans ((hb5.block w1.heap.size (by simp;omega)).trans (m4 _));have k6c: ∀o j,(w5.alloc o).cell? ⟨w4.heap.size,j,none⟩=(#[.int .i64 3,.int .i64 (at_:Nat)]:Array Value)[j]? :=fun o j=>cell_of_row _ _ _ _ _ _ (k6 o);have m6c: ∀o j,(w5.alloc o).cell? ⟨w1.heap.size,j,none⟩=(#[.int .u64 (layH h).base,.int .i64 (layH h).cap,.int .i64 (layH h).to,.int .i64 (layH h).low,.int .i64 (layH h).high,.int .i64 (layH h).old,.int .i64 (layH h).far]:Array Value)[j]? :=fun o j=>cell_of_row _ _ _ _ _ _ (m6 o);have nb:=hN.blk;rw[e0,e1,e2,e3,e4]at nb;have n6c: ∀j,(w5.alloc (.cells #[.int .u64 h.base,.int .i64 h.cap,.int .i64 h.to,.bool h.cycle,.int .i64 h.scan,.slice a0 (lsH h 0).length q0,.slice a1 (lsH h 1).length q1,.slice (some ⟨g,0,none⟩) (lsH h 2).length q2,.slice a3 (lsH h 3).length q3,.slice a4 (lsH h 4).length q4] 113)).cell? ⟨w5.heap.size,j,none⟩=(#[.int .u64 h.base,.int .i64 h.cap,.int .i64 h.to,.bool h.cycle,.int .i64 h.scan,.slice a0 (lsH h 0).length q0,.slice a1 (lsH h 1).length q1,.slice (some ⟨g,0,none⟩) (lsH h 2).length q2,.slice a3 (lsH h 3).length q3,.slice a4 (lsH h 4).length q4]:Array Value)[j]? :=fun j=>cell_of_row _ _ _ _ _ _ nb;have y6: ∀o j,(w5.alloc o).cell? ⟨w.heap.size+1,j,none⟩=Z4[j]? :=fun o j=>cell_of_row _ _ _ _ _ _ (z6 o);have f6: ∀o j,(w5.alloc o).frozen? ⟨w.heap.size+1,j,none⟩=false:=fun o j=>Za (z6 o);unfold Z4 at y6;have st6:FwSt w (w5.alloc (.cells #[.int .u64 h.base,.int .i64 h.cap,.int .i64 h.to,.bool h.cycle,.int .i64 h.scan,.slice a0 (lsH h 0).length q0,.slice a1 (lsH h 1).length q1,.slice (some ⟨g,0,none⟩) (lsH h 2).length q2,.slice a3 (lsH h 3).length q3,.slice a4 (lsH h 4).length q4] 113)) (w.heap.size+1) w1.heap.size w4.heap.size w5.heap.size (w4.heap.size+1) 3 (at_:Nat) h x:=⟨z6 _,m6 _,k6 _,hN,hb05 _,by omega,by omega,by omega,by omega,by simp;omega⟩;have ST6:=Lib.hid st6;have EP:=Lib.hid e2;clear st6;have HB05:=Lib.hid hb05;have HN:=Lib.hid hN;have E0:=Lib.hid e0;have E1:=Lib.hid e1;have E2:=Lib.hid e2;have E3:=Lib.hid e3;have E4:=Lib.hid e4;clear hb05 hN nb e0 e1 e2 e3 e4 ho5 hb5 z4 p4 x4 m4 k4)))
 have hpH:h.old.getD at_ 0=wd:=by show(lsH h 2).getD at_ 0=wd;simp[List.getD,hwd]
 have hpL:h.old.length=(lsH h 2).length:=rfl
 have hfw:fwd h v=(0,Hp.zero,3):=by simp[fwd,fwdC,hr,hv0,h1,hf,-List.getD_eq_getElem?_getD,hpH,hpL,hgo,hun,her]
 have y:=Zn ST10.out.res (.int .u64 0) (.int .i64 0) (.int .i64 0) (.bool false) (.int .i64 0) (.slice none 0 0) (.slice none 0 0) (.slice none 0 0) (.slice none 0 0) (.slice none 0 0)
 rw[hfw]
 refine bodyPost_ret (v:= .tuple #[.int .u64 0,.agg Z4,.int .i64 3]) ?_ rfl ?_
 ·simp[results,Try.results39,go_sem,y,Z4]
 ·refine⟨fun _=> .slice none 0 0,?_,?_,X5 _ _⟩
  ·simp[hpA,Hp.zero,Z4]
  ·exact Zi ST10.out.bel (by omega) _ _ _ _ _ _ _ _ _ _
theorem Sk(w:World)(G:Nat→Prop)(hG: ∀b,G b→b<w.heap.size)(h:Hp)(hh:h.ok)(src:Nat→Value)(hs: ∀j,j<5→Rd w G (.sl ((lsH h j).map vu)) (src j))(v:Int)(hv:U64 v)
  (hr:Z8 (layH h)=true) (hv0: ¬v=0) (h1:(adr v).2=0) (part:Int) (at_:Nat) (hf:Zx (layH h) (adr v).1=(part,(at_:Int),0)) (hp:part=3)
  (wd:Int) (hwd:(lsH h 2)[at_]? =some wd) (hat:at_< (lsH h 2).length) (hwu:U64 wd) (hgo: ¬(adr wd).2=0) (sz:Nat) (pt er:Int) (hun:unpk wd=((sz:Int),pt,er)) (hsz:sz≤255) (her:er=0) (hlt:(lsH h 2).length<at_+(sz+1)):
  Calls Try.prog 39 #[hpA h src,.int .u64 v] w (Yr w (fwd h v)):=by
 have HS:=Lib.hid hs
 have HH:=Lib.hid hh
 clear hs hh
 unfold hpA
 go_enter Try.func39,Try.ntmps39
 subst hp
 go_wp2_with (first
  | (go_at_call 61;go_loud (refine(Yp _ (w4.heap.size+1) w5.heap.size h x ST6.out.now HH.out 2 at_ (by omega) g q2 EP.out (by omega)).mono ?_;rintro e w7 ⟨rfl,hb7⟩;obtain⟨m,hm⟩: ∃m,(lsH h 2).length-at_=m:=⟨_,rfl⟩;obtain⟨qm,hqm⟩: ∃qm,q2-at_=qm:=⟨_,rfl⟩;rw[hm,hqm];have hm0:0<m:=(by omega);have hm0i:(0:Int) < (m:Int):=(by omega);have hat2:at_+0=at_:=rfl;have st7:=ST6.out.below hb7;have hs7:=hb7.size;simp at hs7;have res7:=st7.res;have y7: ∀j,(w7).cell? ⟨w.heap.size+1,j,none⟩=Z4[j]? :=fun j=>cell_of_row _ _ _ _ _ _ res7;unfold Z4 at y7;have f7: ∀j,(w7).frozen? ⟨w.heap.size+1,j,none⟩=false:=fun j=>Za res7;have nb7:=st7.now.blk;rw[E0.out,E1.out,E2.out,E3.out,E4.out]at nb7;have n7c: ∀j,(w7).cell? ⟨w5.heap.size,j,none⟩=(#[.int .u64 h.base,.int .i64 h.cap,.int .i64 h.to,.bool h.cycle,.int .i64 h.scan,.slice a0 (lsH h 0).length q0,.slice a1 (lsH h 1).length q1,.slice (some ⟨g,0,none⟩) (lsH h 2).length q2,.slice a3 (lsH h 3).length q3,.slice a4 (lsH h 4).length q4]:Array Value)[j]? :=fun j=>cell_of_row _ _ _ _ _ _ nb7;have k7c: ∀j,(w7).cell? ⟨w4.heap.size,j,none⟩=(#[.int .i64 3,.int .i64 (at_:Nat)]:Array Value)[j]? :=fun j=>cell_of_row _ _ _ _ _ _ st7.plc;have m7c: ∀j,(w7).cell? ⟨w1.heap.size,j,none⟩=(#[.int .u64 (layH h).base,.int .i64 (layH h).cap,.int .i64 (layH h).to,.int .i64 (layH h).low,.int .i64 (layH h).high,.int .i64 (layH h).old,.int .i64 (layH h).far]:Array Value)[j]? :=fun j=>cell_of_row _ _ _ _ _ _ st7.lay;have hop7:=st7.now.own.own 2 (by omega);rw[EP.out]at hop7;have c7:=Zm hop7 hwd;clear nb7 hop7;have ST7:=Lib.hid st7;clear hb7 st7))
  | (go_at_call 59;go_loud (have st7:=ST7.out;refine(Zk hwu _).mono ?_;rintro e w8 ⟨rfl,hb8⟩;have st8:=st7.below hb8;have hs8:=hb8.size;have res8:=st8.res;have y8: ∀j,(w8).cell? ⟨w.heap.size+1,j,none⟩=Z4[j]? :=fun j=>cell_of_row _ _ _ _ _ _ res8;unfold Z4 at y8;have f8: ∀j,(w8).frozen? ⟨w.heap.size+1,j,none⟩=false:=fun j=>Za res8;have nb8:=st8.now.blk;rw[E0.out,E1.out,E2.out,E3.out,E4.out]at nb8;have n8c: ∀j,(w8).cell? ⟨w5.heap.size,j,none⟩=(#[.int .u64 h.base,.int .i64 h.cap,.int .i64 h.to,.bool h.cycle,.int .i64 h.scan,.slice a0 (lsH h 0).length q0,.slice a1 (lsH h 1).length q1,.slice (some ⟨g,0,none⟩) (lsH h 2).length q2,.slice a3 (lsH h 3).length q3,.slice a4 (lsH h 4).length q4]:Array Value)[j]? :=fun j=>cell_of_row _ _ _ _ _ _ nb8;have k8c: ∀j,(w8).cell? ⟨w4.heap.size,j,none⟩=(#[.int .i64 3,.int .i64 (at_:Nat)]:Array Value)[j]? :=fun j=>cell_of_row _ _ _ _ _ _ st8.plc;have m8c: ∀j,(w8).cell? ⟨w1.heap.size,j,none⟩=(#[.int .u64 (layH h).base,.int .i64 (layH h).cap,.int .i64 (layH h).to,.int .i64 (layH h).low,.int .i64 (layH h).high,.int .i64 (layH h).old,.int .i64 (layH h).far]:Array Value)[j]? :=fun j=>cell_of_row _ _ _ _ _ _ st8.lay;have hop8:=st8.now.own.own 2 (by omega);rw[EP.out]at hop8;have c8:=Zm hop8 hwd;clear nb8 hop8;have ST8:=Lib.hid st8;clear hb8 st8 st7))
  | (go_at_call 62;go_loud (refine(ZM hwu _).mono ?_;rintro e w9 ⟨rfl,hb9⟩;rw[hun];dsimp only;have hs9:=hb9.size;have st10:FwSt w (w9.alloc (.cells #[.int .i64 (sz:Nat),.int .i64 pt] 47)) _ _ _ _ _ _ _ h x:=(ST8.out.below hb9).below ((Below.refl _ _).alloc (Nat.le_refl _) _);have res10:=st10.res;have y10: ∀j,((w9.alloc (.cells #[.int .i64 (sz:Nat),.int .i64 pt] 47))).cell? ⟨w.heap.size+1,j,none⟩=Z4[j]? :=fun j=>cell_of_row _ _ _ _ _ _ res10;unfold Z4 at y10;have f10: ∀j,((w9.alloc (.cells #[.int .i64 (sz:Nat),.int .i64 pt] 47))).frozen? ⟨w.heap.size+1,j,none⟩=false:=fun j=>Za res10;have nb10:=st10.now.blk;rw[E0.out,E1.out,E2.out,E3.out,E4.out]at nb10;have n10c: ∀j,((w9.alloc (.cells #[.int .i64 (sz:Nat),.int .i64 pt] 47))).cell? ⟨w5.heap.size,j,none⟩=(#[.int .u64 h.base,.int .i64 h.cap,.int .i64 h.to,.bool h.cycle,.int .i64 h.scan,.slice a0 (lsH h 0).length q0,.slice a1 (lsH h 1).length q1,.slice (some ⟨g,0,none⟩) (lsH h 2).length q2,.slice a3 (lsH h 3).length q3,.slice a4 (lsH h 4).length q4]:Array Value)[j]? :=fun j=>cell_of_row _ _ _ _ _ _ nb10;have k10c: ∀j,((w9.alloc (.cells #[.int .i64 (sz:Nat),.int .i64 pt] 47))).cell? ⟨w4.heap.size,j,none⟩=(#[.int .i64 3,.int .i64 (at_:Nat)]:Array Value)[j]? :=fun j=>cell_of_row _ _ _ _ _ _ st10.plc;have m10c: ∀j,((w9.alloc (.cells #[.int .i64 (sz:Nat),.int .i64 pt] 47))).cell? ⟨w1.heap.size,j,none⟩=(#[.int .u64 (layH h).base,.int .i64 (layH h).cap,.int .i64 (layH h).to,.int .i64 (layH h).low,.int .i64 (layH h).high,.int .i64 (layH h).old,.int .i64 (layH h).far]:Array Value)[j]? :=fun j=>cell_of_row _ _ _ _ _ _ st10.lay;have hop10:=st10.now.own.own 2 (by omega);rw[EP.out]at hop10;have c10:=Zm hop10 hwd;clear nb10 hop10;have s10c: ∀j,(w9.alloc (.cells #[.int .i64 (sz:Nat),.int .i64 pt] 47)).cell? ⟨w9.heap.size,j,none⟩=(#[.int .i64 (sz:Nat),.int .i64 pt]:Array Value)[j]? :=fun j=>cell_of_row _ _ _ _ _ _ (heap_alloc_new w9 _);have ST10:=Lib.hid st10;have hml:m≤1000000:=(by have:=YB HH.out 2;omega);have hl10:at_+m=(lsH h 2).length:=(by omega);clear hb9 st10))
  | (go_at_call 51;go_loud (refine(Zo (h:=h) (x:=src) (G:=G) (fun c hc=>by have:=hG c hc;simp;omega) (fun j hj=>(HS.out j hj).keep (fun b hb=>by have:=hG b hb;rw[Below.heap_alloc _ _ _ (by simp;omega),Below.heap_alloc _ _ _ (by omega)]) (fun _ h=>h))).mono ?_;rintro e w1 ⟨rfl,hb1⟩;unfold lyA;have z1:=(hb1.block (w.heap.size+1) (by simp)).trans (ZP w _);have p1:=(hb1.block w.heap.size (by simp;omega)).trans ((Below.heap_alloc (w.alloc (.cells #[.int .u64 h.base,.int .i64 h.cap,.int .i64 h.to,.bool h.cycle,.int .i64 h.scan,src 0,src 1,src 2,src 3,src 4] 25)) _ w.heap.size (by simp)).trans (heap_alloc_new w _));have hs1:=hb1.size;simp at hs1;have HB1:=Lib.hid hb1;clear hb1))
  | (go_at_call 43;go_loud (refine(Zt HH.out.lay _).mono ?_;rintro e w2 ⟨rfl,hb2⟩;rw[hr];have z2:=(hb2.block (w.heap.size+1) (by simp;omega)).trans ((Below.heap_alloc w1 _ (w.heap.size+1) (by omega)).trans z1);have p2:=(hb2.block w.heap.size (by simp;omega)).trans ((Below.heap_alloc w1 _ w.heap.size (by omega)).trans p1);have x2: ∀j,w2.cell? ⟨w.heap.size,j,none⟩=(#[.int .u64 h.base,.int .i64 h.cap,.int .i64 h.to,.bool h.cycle,.int .i64 h.scan,src 0,src 1,src 2,src 3,src 4]:Array Value)[j]? :=fun j=>cell_of_row _ _ _ _ _ _ p2;have hb02:Below w.heap.size w w2:=((((((Below.refl _ _).alloc (Nat.le_refl _) _).alloc (by simp) _).trans (HB1.out.mono (by simp;omega))).alloc (by omega) _).trans (hb2.mono (by simp;omega)));have hs2:=hb2.size;simp at hs2;have m2:=(hb2.block w1.heap.size (by simp)).trans (heap_alloc_new w1 _);have HB02:=Lib.hid hb02;clear hb2 hb02))
  | (go_at_call 59;go_loud (refine(Zk hv _).mono ?_;rintro e w3 ⟨rfl,hb3⟩;have z3:=(hb3.block (w.heap.size+1) (by omega)).trans z2;have p3:=(hb3.block w.heap.size (by omega)).trans p2;have m3:=(hb3.block w1.heap.size (by omega)).trans m2;have l3: ∀j,w3.cell? ⟨w1.heap.size,j,none⟩=(#[.int .u64 (layH h).base,.int .i64 (layH h).cap,.int .i64 (layH h).to,.int .i64 (layH h).low,.int .i64 (layH h).high,.int .i64 (layH h).old,.int .i64 (layH h).far]:Array Value)[j]? :=fun j=>cell_of_row _ _ _ _ _ _ m3;have hs3:=hb3.size;have HB3:=Lib.hid hb3;clear hb3))
  | (go_at_call 60;go_loud (refine(ZI HH.out.lay (VK hv) _).mono ?_;rintro e w4 ⟨rfl,hb4⟩;rw[hf];dsimp only;have hs4:=hb4.size;have z4: ∀o,(w4.alloc o).heap[w.heap.size+1]? =some (.cells Z4 25 (0,0)):=fun o=>(Below.heap_alloc w4 o (w.heap.size+1) (by omega)).trans ((hb4.block (w.heap.size+1) (by omega)).trans z3);have p4: ∀o,(w4.alloc o).heap[w.heap.size]? =some (.cells #[.int .u64 h.base,.int .i64 h.cap,.int .i64 h.to,.bool h.cycle,.int .i64 h.scan,src 0,src 1,src 2,src 3,src 4] 25 (0,0)):=fun o=>(Below.heap_alloc w4 o w.heap.size (by omega)).trans ((hb4.block w.heap.size (by omega)).trans p3);have x4: ∀o j,(w4.alloc o).cell? ⟨w.heap.size,j,none⟩=(#[.int .u64 h.base,.int .i64 h.cap,.int .i64 h.to,.bool h.cycle,.int .i64 h.scan,src 0,src 1,src 2,src 3,src 4]:Array Value)[j]? :=fun o j=>cell_of_row _ _ _ _ _ _ (p4 o);have hb04: ∀o,Below w.heap.size w (w4.alloc o):=fun o=>((HB02.out.trans (HB3.out.mono (by omega))).trans (hb4.mono (by omega))).alloc (by omega) o;have m4: ∀o,(w4.alloc o).heap[w1.heap.size]? =some (.cells #[.int .u64 (layH h).base,.int .i64 (layH h).cap,.int .i64 (layH h).to,.int .i64 (layH h).low,.int .i64 (layH h).high,.int .i64 (layH h).old,.int .i64 (layH h).far] 53 (0,0)):=fun o=>(Below.heap_alloc w4 o w1.heap.size (by omega)).trans ((hb4.block w1.heap.size (by omega)).trans m3);have k4:=heap_alloc_new w4 (.cells #[.int .i64 3,.int .i64 (at_:Nat)] 91);have HB04:=Lib.hid hb04;clear hb4 hb04 z3 p3 m3 l3 z2 p2 x2 m2))
  | (go_at_call 48;go_loud (refine(Yk _ G (fun b hb=>by have:=hG b hb;simp;omega) h HH.out src (fun j hj=>(HS.out j hj).keep (fun b hb=>(HB04.out _).block b (hG b hb)) (fun _ h=>h))).mono ?_;rintro e w5 ⟨x,rfl,hb5,ho5⟩;obtain⟨a0,q0,e0⟩:=Z2 (ho5.own 0 (by omega));obtain⟨a1,q1,e1⟩:=Z2 (ho5.own 1 (by omega));obtain⟨a2,q2,e2⟩:=Z2 (ho5.own 2 (by omega));obtain⟨a3,q3,e3⟩:=Z2 (ho5.own 3 (by omega));obtain⟨a4,q4,e4⟩:=Z2 (ho5.own 4 (by omega));obtain⟨g,hg⟩:=YE (ho5.own 2 (by omega)) e2 (by omega);subst hg;unfold hpA;rw[e0,e1,e2,e3,e4];have hs5:=hb5.size;simp at hs5;have hsz4: ∀o,(w4.alloc o).heap.size=w4.heap.size+1:=fun o=>(by simp);rw[hsz4]at ho5;have hN:=ZX ho5 (by omega);unfold U4 at hN;rw[e0,e1,e2,e3,e4]at hN;have hb05: ∀o,Below w.heap.size w (w5.alloc o):=fun o=>((HB04.out _).trans (hb5.mono (by simp;omega))).alloc (by omega) o;have z6: ∀o,(w5.alloc o).heap[w.heap.size+1]? =some (.cells Z4 25 (0,0)):=fun o=>(Below.heap_alloc w5 o (w.heap.size+1) (by omega)).trans ((hb5.block (w.heap.size+1) (by simp;omega)).trans (z4 _));have k6: ∀o,(w5.alloc o).heap[w4.heap.size]? =some (.cells #[.int .i64 3,.int .i64 (at_:Nat)] 91 (0,0)):=fun o=>(Below.heap_alloc w5 o w4.heap.size (by omega)).trans ((hb5.block w4.heap.size (by simp)).trans k4);have m6: ∀o,(w5.alloc o).heap[w1.heap.size]? =some (.cells #[.int .u64 (layH h).base,.int .i64 (layH h).cap,.int .i64 (layH h).to,.int .i64 (layH h).low,.int .i64 (layH h).high,.int .i64 (layH h).old,.int .i64 (layH h).far] 53 (0,0)):=fun o=>(Below.heap_alloc w5 o w1.heap.size (by omega)).trans ((hb5.block w1.heap.size (by simp;omega)).trans (m4 _));have k6c: ∀o j,(w5.alloc o).cell? ⟨w4.heap.size,j,none⟩=(#[.int .i64 3,.int .i64 (at_:Nat)]:Array Value)[j]? :=fun o j=>cell_of_row _ _ _ _ _ _ (k6 o);have m6c: ∀o j,(w5.alloc o).cell? ⟨w1.heap.size,j,none⟩=(#[.int .u64 (layH h).base,.int .i64 (layH h).cap,.int .i64 (layH h).to,.int .i64 (layH h).low,.int .i64 (layH h).high,.int .i64 (layH h).old,.int .i64 (layH h).far]:Array Value)[j]? :=fun o j=>cell_of_row _ _ _ _ _ _ (m6 o);have nb:=hN.blk;rw[e0,e1,e2,e3,e4]at nb;have n6c: ∀j,(w5.alloc (.cells #[.int .u64 h.base,.int .i64 h.cap,.int .i64 h.to,.bool h.cycle,.int .i64 h.scan,.slice a0 (lsH h 0).length q0,.slice a1 (lsH h 1).length q1,.slice (some ⟨g,0,none⟩) (lsH h 2).length q2,.slice a3 (lsH h 3).length q3,.slice a4 (lsH h 4).length q4] 113)).cell? ⟨w5.heap.size,j,none⟩=(#[.int .u64 h.base,.int .i64 h.cap,.int .i64 h.to,.bool h.cycle,.int .i64 h.scan,.slice a0 (lsH h 0).length q0,.slice a1 (lsH h 1).length q1,.slice (some ⟨g,0,none⟩) (lsH h 2).length q2,.slice a3 (lsH h 3).length q3,.slice a4 (lsH h 4).length q4]:Array Value)[j]? :=fun j=>cell_of_row _ _ _ _ _ _ nb;have y6: ∀o j,(w5.alloc o).cell? ⟨w.heap.size+1,j,none⟩=Z4[j]? :=fun o j=>cell_of_row _ _ _ _ _ _ (z6 o);have f6: ∀o j,(w5.alloc o).frozen? ⟨w.heap.size+1,j,none⟩=false:=fun o j=>Za (z6 o);unfold Z4 at y6;have st6:FwSt w (w5.alloc (.cells #[.int .u64 h.base,.int .i64 h.cap,.int .i64 h.to,.bool h.cycle,.int .i64 h.scan,.slice a0 (lsH h 0).length q0,.slice a1 (lsH h 1).length q1,.slice (some ⟨g,0,none⟩) (lsH h 2).length q2,.slice a3 (lsH h 3).length q3,.slice a4 (lsH h 4).length q4] 113)) (w.heap.size+1) w1.heap.size w4.heap.size w5.heap.size (w4.heap.size+1) 3 (at_:Nat) h x:=⟨z6 _,m6 _,k6 _,hN,hb05 _,by omega,by omega,by omega,by omega,by simp;omega⟩;have ST6:=Lib.hid st6;have EP:=Lib.hid e2;clear st6;have HB05:=Lib.hid hb05;have HN:=Lib.hid hN;have E0:=Lib.hid e0;have E1:=Lib.hid e1;have E2:=Lib.hid e2;have E3:=Lib.hid e3;have E4:=Lib.hid e4;clear hb05 hN nb e0 e1 e2 e3 e4 ho5 hb5 z4 p4 x4 m4 k4)))
 have hpH:h.old.getD at_ 0=wd:=by show(lsH h 2).getD at_ 0=wd;simp[List.getD,hwd]
 have hpL:h.old.length=(lsH h 2).length:=rfl
 have hfw:fwd h v=(0,Hp.zero,2):=by simp[fwd,fwdC,hr,hv0,h1,hf,-List.getD_eq_getElem?_getD,hpH,hpL,hgo,hun,her,hlt]
 have y:=Zn ST10.out.res (.int .u64 0) (.int .i64 0) (.int .i64 0) (.bool false) (.int .i64 0) (.slice none 0 0) (.slice none 0 0) (.slice none 0 0) (.slice none 0 0) (.slice none 0 0)
 rw[hfw]
 refine bodyPost_ret (v:= .tuple #[.int .u64 0,.agg Z4,.int .i64 2]) ?_ rfl ?_
 ·simp[results,Try.results39,go_sem,y,Z4]
 ·refine⟨fun _=> .slice none 0 0,?_,?_,X5 _ _⟩
  ·simp[hpA,Hp.zero,Z4]
  ·exact Zi ST10.out.bel (by omega) _ _ _ _ _ _ _ _ _ _
theorem Ji(w:World)(G:Nat→Prop)(hG: ∀b,G b→b<w.heap.size)(h:Hp)(hh:h.ok)(src:Nat→Value)(hs: ∀j,j<5→Rd w G (.sl ((lsH h j).map vu)) (src j))(v:Int)(hv:U64 v)
  (hr:Z8 (layH h)=true) (hv0: ¬v=0) (h1:(adr v).2=0) (part:Int) (at_:Nat) (hf:Zx (layH h) (adr v).1=(part,(at_:Int),0)) (hp:part=3)
  (wd:Int) (hwd:(lsH h 2)[at_]? =some wd) (hat:at_< (lsH h 2).length) (hwu:U64 wd) (hgo: ¬(adr wd).2=0) (sz:Nat) (pt er:Int) (hun:unpk wd=((sz:Int),pt,er)) (hsz:sz≤255) (her:er=0) (hle:at_+(sz+1)≤(lsH h 2).length) (hrm:Y1 (layH h) < ((sz+1:Nat):Int)):
  Calls Try.prog 39 #[hpA h src,.int .u64 v] w (Yr w (fwd h v)):=by
 have HS:=Lib.hid hs
 have HH:=Lib.hid hh
 clear hs hh
 unfold hpA
 go_enter Try.func39,Try.ntmps39
 subst hp
 go_wp2_with (first
  | (go_at_call 61;go_loud (refine(Yp _ (w4.heap.size+1) w5.heap.size h x ST6.out.now HH.out 2 at_ (by omega) g q2 EP.out (by omega)).mono ?_;rintro e w7 ⟨rfl,hb7⟩;obtain⟨m,hm⟩: ∃m,(lsH h 2).length-at_=m:=⟨_,rfl⟩;obtain⟨qm,hqm⟩: ∃qm,q2-at_=qm:=⟨_,rfl⟩;rw[hm,hqm];have hm0:0<m:=(by omega);have hm0i:(0:Int) < (m:Int):=(by omega);have hat2:at_+0=at_:=rfl;have st7:=ST6.out.below hb7;have hs7:=hb7.size;simp at hs7;have res7:=st7.res;have y7: ∀j,(w7).cell? ⟨w.heap.size+1,j,none⟩=Z4[j]? :=fun j=>cell_of_row _ _ _ _ _ _ res7;unfold Z4 at y7;have f7: ∀j,(w7).frozen? ⟨w.heap.size+1,j,none⟩=false:=fun j=>Za res7;have nb7:=st7.now.blk;rw[E0.out,E1.out,E2.out,E3.out,E4.out]at nb7;have n7c: ∀j,(w7).cell? ⟨w5.heap.size,j,none⟩=(#[.int .u64 h.base,.int .i64 h.cap,.int .i64 h.to,.bool h.cycle,.int .i64 h.scan,.slice a0 (lsH h 0).length q0,.slice a1 (lsH h 1).length q1,.slice (some ⟨g,0,none⟩) (lsH h 2).length q2,.slice a3 (lsH h 3).length q3,.slice a4 (lsH h 4).length q4]:Array Value)[j]? :=fun j=>cell_of_row _ _ _ _ _ _ nb7;have k7c: ∀j,(w7).cell? ⟨w4.heap.size,j,none⟩=(#[.int .i64 3,.int .i64 (at_:Nat)]:Array Value)[j]? :=fun j=>cell_of_row _ _ _ _ _ _ st7.plc;have m7c: ∀j,(w7).cell? ⟨w1.heap.size,j,none⟩=(#[.int .u64 (layH h).base,.int .i64 (layH h).cap,.int .i64 (layH h).to,.int .i64 (layH h).low,.int .i64 (layH h).high,.int .i64 (layH h).old,.int .i64 (layH h).far]:Array Value)[j]? :=fun j=>cell_of_row _ _ _ _ _ _ st7.lay;have hop7:=st7.now.own.own 2 (by omega);rw[EP.out]at hop7;have c7:=Zm hop7 hwd;clear nb7 hop7;have ST7:=Lib.hid st7;clear hb7 st7))
  | (go_at_call 59;go_loud (have st7:=ST7.out;refine(Zk hwu _).mono ?_;rintro e w8 ⟨rfl,hb8⟩;have st8:=st7.below hb8;have hs8:=hb8.size;have res8:=st8.res;have y8: ∀j,(w8).cell? ⟨w.heap.size+1,j,none⟩=Z4[j]? :=fun j=>cell_of_row _ _ _ _ _ _ res8;unfold Z4 at y8;have f8: ∀j,(w8).frozen? ⟨w.heap.size+1,j,none⟩=false:=fun j=>Za res8;have nb8:=st8.now.blk;rw[E0.out,E1.out,E2.out,E3.out,E4.out]at nb8;have n8c: ∀j,(w8).cell? ⟨w5.heap.size,j,none⟩=(#[.int .u64 h.base,.int .i64 h.cap,.int .i64 h.to,.bool h.cycle,.int .i64 h.scan,.slice a0 (lsH h 0).length q0,.slice a1 (lsH h 1).length q1,.slice (some ⟨g,0,none⟩) (lsH h 2).length q2,.slice a3 (lsH h 3).length q3,.slice a4 (lsH h 4).length q4]:Array Value)[j]? :=fun j=>cell_of_row _ _ _ _ _ _ nb8;have k8c: ∀j,(w8).cell? ⟨w4.heap.size,j,none⟩=(#[.int .i64 3,.int .i64 (at_:Nat)]:Array Value)[j]? :=fun j=>cell_of_row _ _ _ _ _ _ st8.plc;have m8c: ∀j,(w8).cell? ⟨w1.heap.size,j,none⟩=(#[.int .u64 (layH h).base,.int .i64 (layH h).cap,.int .i64 (layH h).to,.int .i64 (layH h).low,.int .i64 (layH h).high,.int .i64 (layH h).old,.int .i64 (layH h).far]:Array Value)[j]? :=fun j=>cell_of_row _ _ _ _ _ _ st8.lay;have hop8:=st8.now.own.own 2 (by omega);rw[EP.out]at hop8;have c8:=Zm hop8 hwd;clear nb8 hop8;have ST8:=Lib.hid st8;clear hb8 st8 st7))
  | (go_at_call 62;go_loud (refine(ZM hwu _).mono ?_;rintro e w9 ⟨rfl,hb9⟩;rw[hun];dsimp only;have hs9:=hb9.size;have st10:FwSt w (w9.alloc (.cells #[.int .i64 (sz:Nat),.int .i64 pt] 47)) _ _ _ _ _ _ _ h x:=(ST8.out.below hb9).below ((Below.refl _ _).alloc (Nat.le_refl _) _);have res10:=st10.res;have y10: ∀j,((w9.alloc (.cells #[.int .i64 (sz:Nat),.int .i64 pt] 47))).cell? ⟨w.heap.size+1,j,none⟩=Z4[j]? :=fun j=>cell_of_row _ _ _ _ _ _ res10;unfold Z4 at y10;have f10: ∀j,((w9.alloc (.cells #[.int .i64 (sz:Nat),.int .i64 pt] 47))).frozen? ⟨w.heap.size+1,j,none⟩=false:=fun j=>Za res10;have nb10:=st10.now.blk;rw[E0.out,E1.out,E2.out,E3.out,E4.out]at nb10;have n10c: ∀j,((w9.alloc (.cells #[.int .i64 (sz:Nat),.int .i64 pt] 47))).cell? ⟨w5.heap.size,j,none⟩=(#[.int .u64 h.base,.int .i64 h.cap,.int .i64 h.to,.bool h.cycle,.int .i64 h.scan,.slice a0 (lsH h 0).length q0,.slice a1 (lsH h 1).length q1,.slice (some ⟨g,0,none⟩) (lsH h 2).length q2,.slice a3 (lsH h 3).length q3,.slice a4 (lsH h 4).length q4]:Array Value)[j]? :=fun j=>cell_of_row _ _ _ _ _ _ nb10;have k10c: ∀j,((w9.alloc (.cells #[.int .i64 (sz:Nat),.int .i64 pt] 47))).cell? ⟨w4.heap.size,j,none⟩=(#[.int .i64 3,.int .i64 (at_:Nat)]:Array Value)[j]? :=fun j=>cell_of_row _ _ _ _ _ _ st10.plc;have m10c: ∀j,((w9.alloc (.cells #[.int .i64 (sz:Nat),.int .i64 pt] 47))).cell? ⟨w1.heap.size,j,none⟩=(#[.int .u64 (layH h).base,.int .i64 (layH h).cap,.int .i64 (layH h).to,.int .i64 (layH h).low,.int .i64 (layH h).high,.int .i64 (layH h).old,.int .i64 (layH h).far]:Array Value)[j]? :=fun j=>cell_of_row _ _ _ _ _ _ st10.lay;have hop10:=st10.now.own.own 2 (by omega);rw[EP.out]at hop10;have c10:=Zm hop10 hwd;clear nb10 hop10;have s10c: ∀j,(w9.alloc (.cells #[.int .i64 (sz:Nat),.int .i64 pt] 47)).cell? ⟨w9.heap.size,j,none⟩=(#[.int .i64 (sz:Nat),.int .i64 pt]:Array Value)[j]? :=fun j=>cell_of_row _ _ _ _ _ _ (heap_alloc_new w9 _);have ST10:=Lib.hid st10;have hml:m≤1000000:=(by have:=YB HH.out 2;omega);have hl10:at_+m=(lsH h 2).length:=(by omega);clear hb9 st10))
  | (go_at_call 51;go_loud (refine(Zo (h:=h) (x:=src) (G:=G) (fun c hc=>by have:=hG c hc;simp;omega) (fun j hj=>(HS.out j hj).keep (fun b hb=>by have:=hG b hb;rw[Below.heap_alloc _ _ _ (by simp;omega),Below.heap_alloc _ _ _ (by omega)]) (fun _ h=>h))).mono ?_;rintro e w1 ⟨rfl,hb1⟩;unfold lyA;have z1:=(hb1.block (w.heap.size+1) (by simp)).trans (ZP w _);have p1:=(hb1.block w.heap.size (by simp;omega)).trans ((Below.heap_alloc (w.alloc (.cells #[.int .u64 h.base,.int .i64 h.cap,.int .i64 h.to,.bool h.cycle,.int .i64 h.scan,src 0,src 1,src 2,src 3,src 4] 25)) _ w.heap.size (by simp)).trans (heap_alloc_new w _));have hs1:=hb1.size;simp at hs1;have HB1:=Lib.hid hb1;clear hb1))
  | (go_at_call 43;go_loud (refine(Zt HH.out.lay _).mono ?_;rintro e w2 ⟨rfl,hb2⟩;rw[hr];have z2:=(hb2.block (w.heap.size+1) (by simp;omega)).trans ((Below.heap_alloc w1 _ (w.heap.size+1) (by omega)).trans z1);have p2:=(hb2.block w.heap.size (by simp;omega)).trans ((Below.heap_alloc w1 _ w.heap.size (by omega)).trans p1);have x2: ∀j,w2.cell? ⟨w.heap.size,j,none⟩=(#[.int .u64 h.base,.int .i64 h.cap,.int .i64 h.to,.bool h.cycle,.int .i64 h.scan,src 0,src 1,src 2,src 3,src 4]:Array Value)[j]? :=fun j=>cell_of_row _ _ _ _ _ _ p2;have hb02:Below w.heap.size w w2:=((((((Below.refl _ _).alloc (Nat.le_refl _) _).alloc (by simp) _).trans (HB1.out.mono (by simp;omega))).alloc (by omega) _).trans (hb2.mono (by simp;omega)));have hs2:=hb2.size;simp at hs2;have m2:=(hb2.block w1.heap.size (by simp)).trans (heap_alloc_new w1 _);have HB02:=Lib.hid hb02;clear hb2 hb02))
  | (go_at_call 59;go_loud (refine(Zk hv _).mono ?_;rintro e w3 ⟨rfl,hb3⟩;have z3:=(hb3.block (w.heap.size+1) (by omega)).trans z2;have p3:=(hb3.block w.heap.size (by omega)).trans p2;have m3:=(hb3.block w1.heap.size (by omega)).trans m2;have l3: ∀j,w3.cell? ⟨w1.heap.size,j,none⟩=(#[.int .u64 (layH h).base,.int .i64 (layH h).cap,.int .i64 (layH h).to,.int .i64 (layH h).low,.int .i64 (layH h).high,.int .i64 (layH h).old,.int .i64 (layH h).far]:Array Value)[j]? :=fun j=>cell_of_row _ _ _ _ _ _ m3;have hs3:=hb3.size;have HB3:=Lib.hid hb3;clear hb3))
  | (go_at_call 60;go_loud (refine(ZI HH.out.lay (VK hv) _).mono ?_;rintro e w4 ⟨rfl,hb4⟩;rw[hf];dsimp only;have hs4:=hb4.size;have z4: ∀o,(w4.alloc o).heap[w.heap.size+1]? =some (.cells Z4 25 (0,0)):=fun o=>(Below.heap_alloc w4 o (w.heap.size+1) (by omega)).trans ((hb4.block (w.heap.size+1) (by omega)).trans z3);have p4: ∀o,(w4.alloc o).heap[w.heap.size]? =some (.cells #[.int .u64 h.base,.int .i64 h.cap,.int .i64 h.to,.bool h.cycle,.int .i64 h.scan,src 0,src 1,src 2,src 3,src 4] 25 (0,0)):=fun o=>(Below.heap_alloc w4 o w.heap.size (by omega)).trans ((hb4.block w.heap.size (by omega)).trans p3);have x4: ∀o j,(w4.alloc o).cell? ⟨w.heap.size,j,none⟩=(#[.int .u64 h.base,.int .i64 h.cap,.int .i64 h.to,.bool h.cycle,.int .i64 h.scan,src 0,src 1,src 2,src 3,src 4]:Array Value)[j]? :=fun o j=>cell_of_row _ _ _ _ _ _ (p4 o);have hb04: ∀o,Below w.heap.size w (w4.alloc o):=fun o=>((HB02.out.trans (HB3.out.mono (by omega))).trans (hb4.mono (by omega))).alloc (by omega) o;have m4: ∀o,(w4.alloc o).heap[w1.heap.size]? =some (.cells #[.int .u64 (layH h).base,.int .i64 (layH h).cap,.int .i64 (layH h).to,.int .i64 (layH h).low,.int .i64 (layH h).high,.int .i64 (layH h).old,.int .i64 (layH h).far] 53 (0,0)):=fun o=>(Below.heap_alloc w4 o w1.heap.size (by omega)).trans ((hb4.block w1.heap.size (by omega)).trans m3);have k4:=heap_alloc_new w4 (.cells #[.int .i64 3,.int .i64 (at_:Nat)] 91);have HB04:=Lib.hid hb04;clear hb4 hb04 z3 p3 m3 l3 z2 p2 x2 m2))
  | (go_at_call 48;go_loud (refine(Yk _ G (fun b hb=>by have:=hG b hb;simp;omega) h HH.out src (fun j hj=>(HS.out j hj).keep (fun b hb=>(HB04.out _).block b (hG b hb)) (fun _ h=>h))).mono ?_;rintro e w5 ⟨x,rfl,hb5,ho5⟩;obtain⟨a0,q0,e0⟩:=Z2 (ho5.own 0 (by omega));obtain⟨a1,q1,e1⟩:=Z2 (ho5.own 1 (by omega));obtain⟨a2,q2,e2⟩:=Z2 (ho5.own 2 (by omega));obtain⟨a3,q3,e3⟩:=Z2 (ho5.own 3 (by omega));obtain⟨a4,q4,e4⟩:=Z2 (ho5.own 4 (by omega));obtain⟨g,hg⟩:=YE (ho5.own 2 (by omega)) e2 (by omega);subst hg;unfold hpA;rw[e0,e1,e2,e3,e4];have hs5:=hb5.size;simp at hs5;have hsz4: ∀o,(w4.alloc o).heap.size=w4.heap.size+1:=fun o=>(by simp);rw[hsz4]at ho5;have hN:=ZX ho5 (by omega);unfold U4 at hN;rw[e0,e1,e2,e3,e4]at hN;have hb05: ∀o,Below w.heap.size w (w5.alloc o):=fun o=>((HB04.out _).trans (hb5.mono (by simp;omega))).alloc (by omega) o;have z6: ∀o,(w5.alloc o).heap[w.heap.size+1]? =some (.cells Z4 25 (0,0)):=fun o=>(Below.heap_alloc w5 o (w.heap.size+1) (by omega)).trans ((hb5.block (w.heap.size+1) (by simp;omega)).trans (z4 _));have k6: ∀o,(w5.alloc o).heap[w4.heap.size]? =some (.cells #[.int .i64 3,.int .i64 (at_:Nat)] 91 (0,0)):=fun o=>(Below.heap_alloc w5 o w4.heap.size (by omega)).trans ((hb5.block w4.heap.size (by simp)).trans k4);have m6: ∀o,(w5.alloc o).heap[w1.heap.size]? =some (.cells #[.int .u64 (layH h).base,.int .i64 (layH h).cap,.int .i64 (layH h).to,.int .i64 (layH h).low,.int .i64 (layH h).high,.int .i64 (layH h).old,.int .i64 (layH h).far] 53 (0,0)):=fun o=>(Below.heap_alloc w5 o w1.heap.size (by omega)).trans ((hb5.block w1.heap.size (by simp;omega)).trans (m4 _));have k6c: ∀o j,(w5.alloc o).cell? ⟨w4.heap.size,j,none⟩=(#[.int .i64 3,.int .i64 (at_:Nat)]:Array Value)[j]? :=fun o j=>cell_of_row _ _ _ _ _ _ (k6 o);have m6c: ∀o j,(w5.alloc o).cell? ⟨w1.heap.size,j,none⟩=(#[.int .u64 (layH h).base,.int .i64 (layH h).cap,.int .i64 (layH h).to,.int .i64 (layH h).low,.int .i64 (layH h).high,.int .i64 (layH h).old,.int .i64 (layH h).far]:Array Value)[j]? :=fun o j=>cell_of_row _ _ _ _ _ _ (m6 o);have nb:=hN.blk;rw[e0,e1,e2,e3,e4]at nb;have n6c: ∀j,(w5.alloc (.cells #[.int .u64 h.base,.int .i64 h.cap,.int .i64 h.to,.bool h.cycle,.int .i64 h.scan,.slice a0 (lsH h 0).length q0,.slice a1 (lsH h 1).length q1,.slice (some ⟨g,0,none⟩) (lsH h 2).length q2,.slice a3 (lsH h 3).length q3,.slice a4 (lsH h 4).length q4] 113)).cell? ⟨w5.heap.size,j,none⟩=(#[.int .u64 h.base,.int .i64 h.cap,.int .i64 h.to,.bool h.cycle,.int .i64 h.scan,.slice a0 (lsH h 0).length q0,.slice a1 (lsH h 1).length q1,.slice (some ⟨g,0,none⟩) (lsH h 2).length q2,.slice a3 (lsH h 3).length q3,.slice a4 (lsH h 4).length q4]:Array Value)[j]? :=fun j=>cell_of_row _ _ _ _ _ _ nb;have y6: ∀o j,(w5.alloc o).cell? ⟨w.heap.size+1,j,none⟩=Z4[j]? :=fun o j=>cell_of_row _ _ _ _ _ _ (z6 o);have f6: ∀o j,(w5.alloc o).frozen? ⟨w.heap.size+1,j,none⟩=false:=fun o j=>Za (z6 o);unfold Z4 at y6;have st6:FwSt w (w5.alloc (.cells #[.int .u64 h.base,.int .i64 h.cap,.int .i64 h.to,.bool h.cycle,.int .i64 h.scan,.slice a0 (lsH h 0).length q0,.slice a1 (lsH h 1).length q1,.slice (some ⟨g,0,none⟩) (lsH h 2).length q2,.slice a3 (lsH h 3).length q3,.slice a4 (lsH h 4).length q4] 113)) (w.heap.size+1) w1.heap.size w4.heap.size w5.heap.size (w4.heap.size+1) 3 (at_:Nat) h x:=⟨z6 _,m6 _,k6 _,hN,hb05 _,by omega,by omega,by omega,by omega,by simp;omega⟩;have ST6:=Lib.hid st6;have EP:=Lib.hid e2;clear st6;have HB05:=Lib.hid hb05;have HN:=Lib.hid hN;have E0:=Lib.hid e0;have E1:=Lib.hid e1;have E2:=Lib.hid e2;have E3:=Lib.hid e3;have E4:=Lib.hid e4;clear hb05 hN nb e0 e1 e2 e3 e4 ho5 hb5 z4 p4 x4 m4 k4)))
 obtain⟨sm,hsm⟩: ∃sm:Nat,sz+1=sm:=⟨_,rfl⟩
 have hwr:IntKind.i64.wrap ((sz:Int)+1)=(sm:Int):=by rw[Z1 ((sz:Int)+1) (by omega) (by omega)];omega
 have hrm2:Y1 (layH h) < (sm:Int):=by omega
 have HSM:=Lib.hid hsm
 have HRM:=Lib.hid hrm
 have HLE:=Lib.hid hle
 clear hsm hrm hle
 have hbs:w9.heap.size< ((w9.alloc (.cells #[.int .i64 (sz:Nat),.int .i64 pt] 47))).heap.size:=by simp
 clear m7c m8c k10c k7c k8c y7 y8 f7 f8 n7c n8c c7 c8
 generalize (w9.alloc (.cells #[.int .i64 (sz:Nat),.int .i64 pt] 47))=w10 at*
 have S10:(fun w'=>w'.cell? ⟨w1.heap.size,0,none⟩=some (.int .u64 (layH h).base)∧w'.cell? ⟨w1.heap.size,1,none⟩=some (.int .i64 (layH h).cap)∧w'.cell? ⟨w1.heap.size,2,none⟩=some (.int .i64 (layH h).to)∧w'.cell? ⟨w1.heap.size,3,none⟩=some (.int .i64 (layH h).low)∧w'.cell? ⟨w1.heap.size,4,none⟩=some (.int .i64 (layH h).high)∧w'.cell? ⟨w1.heap.size,5,none⟩=some (.int .i64 (layH h).old)∧w'.cell? ⟨w1.heap.size,6,none⟩=some (.int .i64 (layH h).far)∧w'.cell? ⟨w9.heap.size,0,none⟩=some (.int .i64 (sz:Nat))∧FwSt w w' (w.heap.size+1) w1.heap.size w4.heap.size w5.heap.size (w4.heap.size+1) 3 (at_:Nat) h x∧w9.heap.size<w'.heap.size) w10.drew:=⟨m10c 0,m10c 1,m10c 2,m10c 3,m10c 4,m10c 5,m10c 6,s10c 0,ST10.out.drew,hbs⟩
 have SBel: ∀(u u':World),(fun w'=>w'.cell? ⟨w1.heap.size,0,none⟩=some (.int .u64 (layH h).base)∧w'.cell? ⟨w1.heap.size,1,none⟩=some (.int .i64 (layH h).cap)∧w'.cell? ⟨w1.heap.size,2,none⟩=some (.int .i64 (layH h).to)∧w'.cell? ⟨w1.heap.size,3,none⟩=some (.int .i64 (layH h).low)∧w'.cell? ⟨w1.heap.size,4,none⟩=some (.int .i64 (layH h).high)∧w'.cell? ⟨w1.heap.size,5,none⟩=some (.int .i64 (layH h).old)∧w'.cell? ⟨w1.heap.size,6,none⟩=some (.int .i64 (layH h).far)∧w'.cell? ⟨w9.heap.size,0,none⟩=some (.int .i64 (sz:Nat))∧FwSt w w' (w.heap.size+1) w1.heap.size w4.heap.size w5.heap.size (w4.heap.size+1) 3 (at_:Nat) h x∧w9.heap.size<w'.heap.size) u→Below u.heap.size u u'→(fun w'=>w'.cell? ⟨w1.heap.size,0,none⟩=some (.int .u64 (layH h).base)∧w'.cell? ⟨w1.heap.size,1,none⟩=some (.int .i64 (layH h).cap)∧w'.cell? ⟨w1.heap.size,2,none⟩=some (.int .i64 (layH h).to)∧w'.cell? ⟨w1.heap.size,3,none⟩=some (.int .i64 (layH h).low)∧w'.cell? ⟨w1.heap.size,4,none⟩=some (.int .i64 (layH h).high)∧w'.cell? ⟨w1.heap.size,5,none⟩=some (.int .i64 (layH h).old)∧w'.cell? ⟨w1.heap.size,6,none⟩=some (.int .i64 (layH h).far)∧w'.cell? ⟨w9.heap.size,0,none⟩=some (.int .i64 (sz:Nat))∧FwSt w w' (w.heap.size+1) w1.heap.size w4.heap.size w5.heap.size (w4.heap.size+1) 3 (at_:Nat) h x∧w9.heap.size<w'.heap.size) u':=by
  rintro u u' ⟨c0,c1,c2,c3,c4,c5,c6,c7,st,hs⟩ hb
  have hl:=st.lbB
  have hz:=st.sz
  exact⟨(hb.cell (by show w1.heap.size<u.heap.size;omega)).trans c0,(hb.cell (by show w1.heap.size<u.heap.size;omega)).trans c1,(hb.cell (by show w1.heap.size<u.heap.size;omega)).trans c2,(hb.cell (by show w1.heap.size<u.heap.size;omega)).trans c3,(hb.cell (by show w1.heap.size<u.heap.size;omega)).trans c4,(hb.cell (by show w1.heap.size<u.heap.size;omega)).trans c5,(hb.cell (by show w1.heap.size<u.heap.size;omega)).trans c6,(hb.cell hs).trans c7,st.below hb,by have:=hb.size;omega⟩
 go_region_held3 (fun w'=>w'.cell? ⟨w1.heap.size,0,none⟩=some (.int .u64 (layH h).base)∧w'.cell? ⟨w1.heap.size,1,none⟩=some (.int .i64 (layH h).cap)∧w'.cell? ⟨w1.heap.size,2,none⟩=some (.int .i64 (layH h).to)∧w'.cell? ⟨w1.heap.size,3,none⟩=some (.int .i64 (layH h).low)∧w'.cell? ⟨w1.heap.size,4,none⟩=some (.int .i64 (layH h).high)∧w'.cell? ⟨w1.heap.size,5,none⟩=some (.int .i64 (layH h).old)∧w'.cell? ⟨w1.heap.size,6,none⟩=some (.int .i64 (layH h).far)∧w'.cell? ⟨w9.heap.size,0,none⟩=some (.int .i64 (sz:Nat))∧FwSt w w' (w.heap.size+1) w1.heap.size w4.heap.size w5.heap.size (w4.heap.size+1) 3 (at_:Nat) h x∧w9.heap.size<w'.heap.size) (first|exact S10|assumption)
  (first| (go_at_call 24;refine(Wf HH.out.lay _).mono ?_;rintro e w11 ⟨rfl,hb11⟩;have S11:=SBel _ _ S10 hb11))
 obtain⟨-,-,-,-,-,-,-,c11,st11,hs11⟩:=S11
 clear S10 SBel s10c y10 f10 n10c m10c hb11 hbs
 rename_i hHeld
 clear hHeld
 have res11:=st11.res
 have y11: ∀j,(w11).cell? ⟨w.heap.size+1,j,none⟩=Z4[j]? :=fun j=>cell_of_row _ _ _ _ _ _ res11
 unfold Z4 at y11
 have f11: ∀j,(w11).frozen? ⟨w.heap.size+1,j,none⟩=false:=fun j=>Za res11
 have nb11:=st11.now.blk
 rw[E0.out,E1.out,E2.out,E3.out,E4.out]at nb11
 have n11c: ∀j,(w11).cell? ⟨w5.heap.size,j,none⟩=(#[.int .u64 h.base,.int .i64 h.cap,.int .i64 h.to,.bool h.cycle,.int .i64 h.scan,.slice a0 (lsH h 0).length q0,.slice a1 (lsH h 1).length q1,.slice (some ⟨g,0,none⟩) (lsH h 2).length q2,.slice a3 (lsH h 3).length q3,.slice a4 (lsH h 4).length q4]:Array Value)[j]? :=fun j=>cell_of_row _ _ _ _ _ _ nb11
 have k11c: ∀j,(w11).cell? ⟨w4.heap.size,j,none⟩=(#[.int .i64 3,.int .i64 (at_:Nat)]:Array Value)[j]? :=fun j=>cell_of_row _ _ _ _ _ _ st11.plc
 have m11c: ∀j,(w11).cell? ⟨w1.heap.size,j,none⟩=(#[.int .u64 (layH h).base,.int .i64 (layH h).cap,.int .i64 (layH h).to,.int .i64 (layH h).low,.int .i64 (layH h).high,.int .i64 (layH h).old,.int .i64 (layH h).far]:Array Value)[j]? :=fun j=>cell_of_row _ _ _ _ _ _ st11.lay
 have hop11:=st11.now.own.own 2 (by omega)
 rw[EP.out]at hop11
 have cw11:=Zm hop11 hwd
 clear nb11 hop11 hm hqm hat2
 have ST11:=Lib.hid st11
 clear st11
 go_wp2
 have hrmz:Y1 (layH h) < (sz:Int)+1:=by have:=HSM.out;omega
 have hpH:h.old.getD at_ 0=wd:=by show(lsH h 2).getD at_ 0=wd;simp[List.getD,hwd]
 have hpL:h.old.length=(lsH h 2).length:=rfl
 have hfw:fwd h v=(0,Hp.zero,7):=by simp[fwd,fwdC,hr,hv0,h1,hf,-List.getD_eq_getElem?_getD,hpH,hpL,hgo,hun,her,Nat.not_lt.2 HLE.out,hrmz]
 have y:=Zn ST11.out.res (.int .u64 0) (.int .i64 0) (.int .i64 0) (.bool false) (.int .i64 0) (.slice none 0 0) (.slice none 0 0) (.slice none 0 0) (.slice none 0 0) (.slice none 0 0)
 rw[hfw]
 refine bodyPost_ret (v:= .tuple #[.int .u64 0,.agg Z4,.int .i64 7]) ?_ rfl ?_
 ·simp[results,Try.results39,go_sem,y,Z4]
 ·refine⟨fun _=> .slice none 0 0,?_,?_,X5 _ _⟩
  ·simp[hpA,Hp.zero,Z4]
  ·exact Zi ST11.out.bel (by omega) _ _ _ _ _ _ _ _ _ _
theorem Sd(w:World)(G:Nat→Prop)(hG: ∀b,G b→b<w.heap.size)(h:Hp)(hh:h.ok)(src:Nat→Value)(hs: ∀j,j<5→Rd w G (.sl ((lsH h j).map vu)) (src j))(v:Int)(hv:U64 v)
  (hr:Z8 (layH h)=true) (hv0: ¬v=0) (h1:(adr v).2=0) (part:Int) (at_:Nat) (hf:Zx (layH h) (adr v).1=(part,(at_:Int),0)) (hp:part=3)
  (wd:Int) (hwd:(lsH h 2)[at_]? =some wd) (hat:at_< (lsH h 2).length) (hwu:U64 wd) (hgo: ¬(adr wd).2=0) (sz:Nat) (pt er:Int) (hun:unpk wd=((sz:Int),pt,er)) (hsz:sz≤255) (her:er=0) (hle:at_+(sz+1)≤(lsH h 2).length) (hrm: ¬Y1 (layH h) < ((sz+1:Nat):Int)):
  Calls Try.prog 39 #[hpA h src,.int .u64 v] w (Yr w (fwd h v)):=by
 have HS:=Lib.hid hs
 have HH:=Lib.hid hh
 clear hs hh
 unfold hpA
 go_enter Try.func39,Try.ntmps39
 subst hp
 go_wp2_with (first
  | (go_at_call 61;go_loud (refine(Yp _ (w4.heap.size+1) w5.heap.size h x ST6.out.now HH.out 2 at_ (by omega) g q2 EP.out (by omega)).mono ?_;rintro e w7 ⟨rfl,hb7⟩;obtain⟨m,hm⟩: ∃m,(lsH h 2).length-at_=m:=⟨_,rfl⟩;obtain⟨qm,hqm⟩: ∃qm,q2-at_=qm:=⟨_,rfl⟩;rw[hm,hqm];have hm0:0<m:=(by omega);have hm0i:(0:Int) < (m:Int):=(by omega);have hat2:at_+0=at_:=rfl;have st7:=ST6.out.below hb7;have hs7:=hb7.size;simp at hs7;have res7:=st7.res;have y7: ∀j,(w7).cell? ⟨w.heap.size+1,j,none⟩=Z4[j]? :=fun j=>cell_of_row _ _ _ _ _ _ res7;unfold Z4 at y7;have f7: ∀j,(w7).frozen? ⟨w.heap.size+1,j,none⟩=false:=fun j=>Za res7;have nb7:=st7.now.blk;rw[E0.out,E1.out,E2.out,E3.out,E4.out]at nb7;have n7c: ∀j,(w7).cell? ⟨w5.heap.size,j,none⟩=(#[.int .u64 h.base,.int .i64 h.cap,.int .i64 h.to,.bool h.cycle,.int .i64 h.scan,.slice a0 (lsH h 0).length q0,.slice a1 (lsH h 1).length q1,.slice (some ⟨g,0,none⟩) (lsH h 2).length q2,.slice a3 (lsH h 3).length q3,.slice a4 (lsH h 4).length q4]:Array Value)[j]? :=fun j=>cell_of_row _ _ _ _ _ _ nb7;have k7c: ∀j,(w7).cell? ⟨w4.heap.size,j,none⟩=(#[.int .i64 3,.int .i64 (at_:Nat)]:Array Value)[j]? :=fun j=>cell_of_row _ _ _ _ _ _ st7.plc;have m7c: ∀j,(w7).cell? ⟨w1.heap.size,j,none⟩=(#[.int .u64 (layH h).base,.int .i64 (layH h).cap,.int .i64 (layH h).to,.int .i64 (layH h).low,.int .i64 (layH h).high,.int .i64 (layH h).old,.int .i64 (layH h).far]:Array Value)[j]? :=fun j=>cell_of_row _ _ _ _ _ _ st7.lay;have hop7:=st7.now.own.own 2 (by omega);rw[EP.out]at hop7;have c7:=Zm hop7 hwd;clear nb7 hop7;have ST7:=Lib.hid st7;clear hb7 st7))
  | (go_at_call 59;go_loud (have st7:=ST7.out;refine(Zk hwu _).mono ?_;rintro e w8 ⟨rfl,hb8⟩;have st8:=st7.below hb8;have hs8:=hb8.size;have res8:=st8.res;have y8: ∀j,(w8).cell? ⟨w.heap.size+1,j,none⟩=Z4[j]? :=fun j=>cell_of_row _ _ _ _ _ _ res8;unfold Z4 at y8;have f8: ∀j,(w8).frozen? ⟨w.heap.size+1,j,none⟩=false:=fun j=>Za res8;have nb8:=st8.now.blk;rw[E0.out,E1.out,E2.out,E3.out,E4.out]at nb8;have n8c: ∀j,(w8).cell? ⟨w5.heap.size,j,none⟩=(#[.int .u64 h.base,.int .i64 h.cap,.int .i64 h.to,.bool h.cycle,.int .i64 h.scan,.slice a0 (lsH h 0).length q0,.slice a1 (lsH h 1).length q1,.slice (some ⟨g,0,none⟩) (lsH h 2).length q2,.slice a3 (lsH h 3).length q3,.slice a4 (lsH h 4).length q4]:Array Value)[j]? :=fun j=>cell_of_row _ _ _ _ _ _ nb8;have k8c: ∀j,(w8).cell? ⟨w4.heap.size,j,none⟩=(#[.int .i64 3,.int .i64 (at_:Nat)]:Array Value)[j]? :=fun j=>cell_of_row _ _ _ _ _ _ st8.plc;have m8c: ∀j,(w8).cell? ⟨w1.heap.size,j,none⟩=(#[.int .u64 (layH h).base,.int .i64 (layH h).cap,.int .i64 (layH h).to,.int .i64 (layH h).low,.int .i64 (layH h).high,.int .i64 (layH h).old,.int .i64 (layH h).far]:Array Value)[j]? :=fun j=>cell_of_row _ _ _ _ _ _ st8.lay;have hop8:=st8.now.own.own 2 (by omega);rw[EP.out]at hop8;have c8:=Zm hop8 hwd;clear nb8 hop8;have ST8:=Lib.hid st8;clear hb8 st8 st7))
  | (go_at_call 62;go_loud (refine(ZM hwu _).mono ?_;rintro e w9 ⟨rfl,hb9⟩;rw[hun];dsimp only;have hs9:=hb9.size;have st10:FwSt w (w9.alloc (.cells #[.int .i64 (sz:Nat),.int .i64 pt] 47)) _ _ _ _ _ _ _ h x:=(ST8.out.below hb9).below ((Below.refl _ _).alloc (Nat.le_refl _) _);have res10:=st10.res;have y10: ∀j,((w9.alloc (.cells #[.int .i64 (sz:Nat),.int .i64 pt] 47))).cell? ⟨w.heap.size+1,j,none⟩=Z4[j]? :=fun j=>cell_of_row _ _ _ _ _ _ res10;unfold Z4 at y10;have f10: ∀j,((w9.alloc (.cells #[.int .i64 (sz:Nat),.int .i64 pt] 47))).frozen? ⟨w.heap.size+1,j,none⟩=false:=fun j=>Za res10;have nb10:=st10.now.blk;rw[E0.out,E1.out,E2.out,E3.out,E4.out]at nb10;have n10c: ∀j,((w9.alloc (.cells #[.int .i64 (sz:Nat),.int .i64 pt] 47))).cell? ⟨w5.heap.size,j,none⟩=(#[.int .u64 h.base,.int .i64 h.cap,.int .i64 h.to,.bool h.cycle,.int .i64 h.scan,.slice a0 (lsH h 0).length q0,.slice a1 (lsH h 1).length q1,.slice (some ⟨g,0,none⟩) (lsH h 2).length q2,.slice a3 (lsH h 3).length q3,.slice a4 (lsH h 4).length q4]:Array Value)[j]? :=fun j=>cell_of_row _ _ _ _ _ _ nb10;have k10c: ∀j,((w9.alloc (.cells #[.int .i64 (sz:Nat),.int .i64 pt] 47))).cell? ⟨w4.heap.size,j,none⟩=(#[.int .i64 3,.int .i64 (at_:Nat)]:Array Value)[j]? :=fun j=>cell_of_row _ _ _ _ _ _ st10.plc;have m10c: ∀j,((w9.alloc (.cells #[.int .i64 (sz:Nat),.int .i64 pt] 47))).cell? ⟨w1.heap.size,j,none⟩=(#[.int .u64 (layH h).base,.int .i64 (layH h).cap,.int .i64 (layH h).to,.int .i64 (layH h).low,.int .i64 (layH h).high,.int .i64 (layH h).old,.int .i64 (layH h).far]:Array Value)[j]? :=fun j=>cell_of_row _ _ _ _ _ _ st10.lay;have hop10:=st10.now.own.own 2 (by omega);rw[EP.out]at hop10;have c10:=Zm hop10 hwd;clear nb10 hop10;have s10c: ∀j,(w9.alloc (.cells #[.int .i64 (sz:Nat),.int .i64 pt] 47)).cell? ⟨w9.heap.size,j,none⟩=(#[.int .i64 (sz:Nat),.int .i64 pt]:Array Value)[j]? :=fun j=>cell_of_row _ _ _ _ _ _ (heap_alloc_new w9 _);have ST10:=Lib.hid st10;have hml:m≤1000000:=(by have:=YB HH.out 2;omega);have hl10:at_+m=(lsH h 2).length:=(by omega);clear hb9 st10))
  | (go_at_call 51;go_loud (refine(Zo (h:=h) (x:=src) (G:=G) (fun c hc=>by have:=hG c hc;simp;omega) (fun j hj=>(HS.out j hj).keep (fun b hb=>by have:=hG b hb;rw[Below.heap_alloc _ _ _ (by simp;omega),Below.heap_alloc _ _ _ (by omega)]) (fun _ h=>h))).mono ?_;rintro e w1 ⟨rfl,hb1⟩;unfold lyA;have z1:=(hb1.block (w.heap.size+1) (by simp)).trans (ZP w _);have p1:=(hb1.block w.heap.size (by simp;omega)).trans ((Below.heap_alloc (w.alloc (.cells #[.int .u64 h.base,.int .i64 h.cap,.int .i64 h.to,.bool h.cycle,.int .i64 h.scan,src 0,src 1,src 2,src 3,src 4] 25)) _ w.heap.size (by simp)).trans (heap_alloc_new w _));have hs1:=hb1.size;simp at hs1;have HB1:=Lib.hid hb1;clear hb1))
  | (go_at_call 43;go_loud (refine(Zt HH.out.lay _).mono ?_;rintro e w2 ⟨rfl,hb2⟩;rw[hr];have z2:=(hb2.block (w.heap.size+1) (by simp;omega)).trans ((Below.heap_alloc w1 _ (w.heap.size+1) (by omega)).trans z1);have p2:=(hb2.block w.heap.size (by simp;omega)).trans ((Below.heap_alloc w1 _ w.heap.size (by omega)).trans p1);have x2: ∀j,w2.cell? ⟨w.heap.size,j,none⟩=(#[.int .u64 h.base,.int .i64 h.cap,.int .i64 h.to,.bool h.cycle,.int .i64 h.scan,src 0,src 1,src 2,src 3,src 4]:Array Value)[j]? :=fun j=>cell_of_row _ _ _ _ _ _ p2;have hb02:Below w.heap.size w w2:=((((((Below.refl _ _).alloc (Nat.le_refl _) _).alloc (by simp) _).trans (HB1.out.mono (by simp;omega))).alloc (by omega) _).trans (hb2.mono (by simp;omega)));have hs2:=hb2.size;simp at hs2;have m2:=(hb2.block w1.heap.size (by simp)).trans (heap_alloc_new w1 _);have HB02:=Lib.hid hb02;clear hb2 hb02))
  | (go_at_call 59;go_loud (refine(Zk hv _).mono ?_;rintro e w3 ⟨rfl,hb3⟩;have z3:=(hb3.block (w.heap.size+1) (by omega)).trans z2;have p3:=(hb3.block w.heap.size (by omega)).trans p2;have m3:=(hb3.block w1.heap.size (by omega)).trans m2;have l3: ∀j,w3.cell? ⟨w1.heap.size,j,none⟩=(#[.int .u64 (layH h).base,.int .i64 (layH h).cap,.int .i64 (layH h).to,.int .i64 (layH h).low,.int .i64 (layH h).high,.int .i64 (layH h).old,.int .i64 (layH h).far]:Array Value)[j]? :=fun j=>cell_of_row _ _ _ _ _ _ m3;have hs3:=hb3.size;have HB3:=Lib.hid hb3;clear hb3))
  | (go_at_call 60;go_loud (refine(ZI HH.out.lay (VK hv) _).mono ?_;rintro e w4 ⟨rfl,hb4⟩;rw[hf];dsimp only;have hs4:=hb4.size;have z4: ∀o,(w4.alloc o).heap[w.heap.size+1]? =some (.cells Z4 25 (0,0)):=fun o=>(Below.heap_alloc w4 o (w.heap.size+1) (by omega)).trans ((hb4.block (w.heap.size+1) (by omega)).trans z3);have p4: ∀o,(w4.alloc o).heap[w.heap.size]? =some (.cells #[.int .u64 h.base,.int .i64 h.cap,.int .i64 h.to,.bool h.cycle,.int .i64 h.scan,src 0,src 1,src 2,src 3,src 4] 25 (0,0)):=fun o=>(Below.heap_alloc w4 o w.heap.size (by omega)).trans ((hb4.block w.heap.size (by omega)).trans p3);have x4: ∀o j,(w4.alloc o).cell? ⟨w.heap.size,j,none⟩=(#[.int .u64 h.base,.int .i64 h.cap,.int .i64 h.to,.bool h.cycle,.int .i64 h.scan,src 0,src 1,src 2,src 3,src 4]:Array Value)[j]? :=fun o j=>cell_of_row _ _ _ _ _ _ (p4 o);have hb04: ∀o,Below w.heap.size w (w4.alloc o):=fun o=>((HB02.out.trans (HB3.out.mono (by omega))).trans (hb4.mono (by omega))).alloc (by omega) o;have m4: ∀o,(w4.alloc o).heap[w1.heap.size]? =some (.cells #[.int .u64 (layH h).base,.int .i64 (layH h).cap,.int .i64 (layH h).to,.int .i64 (layH h).low,.int .i64 (layH h).high,.int .i64 (layH h).old,.int .i64 (layH h).far] 53 (0,0)):=fun o=>(Below.heap_alloc w4 o w1.heap.size (by omega)).trans ((hb4.block w1.heap.size (by omega)).trans m3);have k4:=heap_alloc_new w4 (.cells #[.int .i64 3,.int .i64 (at_:Nat)] 91);have HB04:=Lib.hid hb04;clear hb4 hb04 z3 p3 m3 l3 z2 p2 x2 m2))
  | (go_at_call 48;go_loud (refine(Yk _ G (fun b hb=>by have:=hG b hb;simp;omega) h HH.out src (fun j hj=>(HS.out j hj).keep (fun b hb=>(HB04.out _).block b (hG b hb)) (fun _ h=>h))).mono ?_;rintro e w5 ⟨x,rfl,hb5,ho5⟩;obtain⟨a0,q0,e0⟩:=Z2 (ho5.own 0 (by omega));obtain⟨a1,q1,e1⟩:=Z2 (ho5.own 1 (by omega));obtain⟨a2,q2,e2⟩:=Z2 (ho5.own 2 (by omega));obtain⟨a3,q3,e3⟩:=Z2 (ho5.own 3 (by omega));obtain⟨a4,q4,e4⟩:=Z2 (ho5.own 4 (by omega));obtain⟨g,hg⟩:=YE (ho5.own 2 (by omega)) e2 (by omega);subst hg;unfold hpA;rw[e0,e1,e2,e3,e4];have hs5:=hb5.size;simp at hs5;have hsz4: ∀o,(w4.alloc o).heap.size=w4.heap.size+1:=fun o=>(by simp);rw[hsz4]at ho5;have hN:=ZX ho5 (by omega);unfold U4 at hN;rw[e0,e1,e2,e3,e4]at hN;have hb05: ∀o,Below w.heap.size w (w5.alloc o):=fun o=>((HB04.out _).trans (hb5.mono (by simp;omega))).alloc (by omega) o;have z6: ∀o,(w5.alloc o).heap[w.heap.size+1]? =some (.cells Z4 25 (0,0)):=fun o=>(Below.heap_alloc w5 o (w.heap.size+1) (by omega)).trans ((hb5.block (w.heap.size+1) (by simp;omega)).trans (z4 _));have k6: ∀o,(w5.alloc o).heap[w4.heap.size]? =some (.cells #[.int .i64 3,.int .i64 (at_:Nat)] 91 (0,0)):=fun o=>(Below.heap_alloc w5 o w4.heap.size (by omega)).trans ((hb5.block w4.heap.size (by simp)).trans k4);have m6: ∀o,(w5.alloc o).heap[w1.heap.size]? =some (.cells #[.int .u64 (layH h).base,.int .i64 (layH h).cap,.int .i64 (layH h).to,.int .i64 (layH h).low,.int .i64 (layH h).high,.int .i64 (layH h).old,.int .i64 (layH h).far] 53 (0,0)):=fun o=>(Below.heap_alloc w5 o w1.heap.size (by omega)).trans ((hb5.block w1.heap.size (by simp;omega)).trans (m4 _));have k6c: ∀o j,(w5.alloc o).cell? ⟨w4.heap.size,j,none⟩=(#[.int .i64 3,.int .i64 (at_:Nat)]:Array Value)[j]? :=fun o j=>cell_of_row _ _ _ _ _ _ (k6 o);have m6c: ∀o j,(w5.alloc o).cell? ⟨w1.heap.size,j,none⟩=(#[.int .u64 (layH h).base,.int .i64 (layH h).cap,.int .i64 (layH h).to,.int .i64 (layH h).low,.int .i64 (layH h).high,.int .i64 (layH h).old,.int .i64 (layH h).far]:Array Value)[j]? :=fun o j=>cell_of_row _ _ _ _ _ _ (m6 o);have nb:=hN.blk;rw[e0,e1,e2,e3,e4]at nb;have n6c: ∀j,(w5.alloc (.cells #[.int .u64 h.base,.int .i64 h.cap,.int .i64 h.to,.bool h.cycle,.int .i64 h.scan,.slice a0 (lsH h 0).length q0,.slice a1 (lsH h 1).length q1,.slice (some ⟨g,0,none⟩) (lsH h 2).length q2,.slice a3 (lsH h 3).length q3,.slice a4 (lsH h 4).length q4] 113)).cell? ⟨w5.heap.size,j,none⟩=(#[.int .u64 h.base,.int .i64 h.cap,.int .i64 h.to,.bool h.cycle,.int .i64 h.scan,.slice a0 (lsH h 0).length q0,.slice a1 (lsH h 1).length q1,.slice (some ⟨g,0,none⟩) (lsH h 2).length q2,.slice a3 (lsH h 3).length q3,.slice a4 (lsH h 4).length q4]:Array Value)[j]? :=fun j=>cell_of_row _ _ _ _ _ _ nb;have y6: ∀o j,(w5.alloc o).cell? ⟨w.heap.size+1,j,none⟩=Z4[j]? :=fun o j=>cell_of_row _ _ _ _ _ _ (z6 o);have f6: ∀o j,(w5.alloc o).frozen? ⟨w.heap.size+1,j,none⟩=false:=fun o j=>Za (z6 o);unfold Z4 at y6;have st6:FwSt w (w5.alloc (.cells #[.int .u64 h.base,.int .i64 h.cap,.int .i64 h.to,.bool h.cycle,.int .i64 h.scan,.slice a0 (lsH h 0).length q0,.slice a1 (lsH h 1).length q1,.slice (some ⟨g,0,none⟩) (lsH h 2).length q2,.slice a3 (lsH h 3).length q3,.slice a4 (lsH h 4).length q4] 113)) (w.heap.size+1) w1.heap.size w4.heap.size w5.heap.size (w4.heap.size+1) 3 (at_:Nat) h x:=⟨z6 _,m6 _,k6 _,hN,hb05 _,by omega,by omega,by omega,by omega,by simp;omega⟩;have ST6:=Lib.hid st6;have EP:=Lib.hid e2;clear st6;have HB05:=Lib.hid hb05;have HN:=Lib.hid hN;have E0:=Lib.hid e0;have E1:=Lib.hid e1;have E2:=Lib.hid e2;have E3:=Lib.hid e3;have E4:=Lib.hid e4;clear hb05 hN nb e0 e1 e2 e3 e4 ho5 hb5 z4 p4 x4 m4 k4)))
 obtain⟨sm,hsm⟩: ∃sm:Nat,sz+1=sm:=⟨_,rfl⟩
 have hwr:IntKind.i64.wrap ((sz:Int)+1)=(sm:Int):=by rw[Z1 ((sz:Int)+1) (by omega) (by omega)];omega
 have hrm2: ¬(Y1 (layH h) < (sm:Int)):=by omega
 have hopc:=ST10.out.now.own.own 2 (by omega)
 rw[EP.out]at hopc
 have hcap:=zT hopc (by omega)
 have hsm1:(sm:Int)≤(qm:Int):=by omega
 have hsm0:(0:Int)≤(sm:Int):=by omega
 clear hopc
 have HSM:=Lib.hid hsm
 have HRM:=Lib.hid hrm
 have HLE:=Lib.hid hle
 clear hsm hrm hle
 have hbs:w9.heap.size< ((w9.alloc (.cells #[.int .i64 (sz:Nat),.int .i64 pt] 47))).heap.size:=by simp
 clear m7c m8c k10c k7c k8c y7 y8 f7 f8 n7c n8c c7 c8
 generalize (w9.alloc (.cells #[.int .i64 (sz:Nat),.int .i64 pt] 47))=w10 at*
 have S10:(fun w'=>w'.cell? ⟨w1.heap.size,0,none⟩=some (.int .u64 (layH h).base)∧w'.cell? ⟨w1.heap.size,1,none⟩=some (.int .i64 (layH h).cap)∧w'.cell? ⟨w1.heap.size,2,none⟩=some (.int .i64 (layH h).to)∧w'.cell? ⟨w1.heap.size,3,none⟩=some (.int .i64 (layH h).low)∧w'.cell? ⟨w1.heap.size,4,none⟩=some (.int .i64 (layH h).high)∧w'.cell? ⟨w1.heap.size,5,none⟩=some (.int .i64 (layH h).old)∧w'.cell? ⟨w1.heap.size,6,none⟩=some (.int .i64 (layH h).far)∧w'.cell? ⟨w9.heap.size,0,none⟩=some (.int .i64 (sz:Nat))∧FwSt w w' (w.heap.size+1) w1.heap.size w4.heap.size w5.heap.size (w4.heap.size+1) 3 (at_:Nat) h x∧w9.heap.size<w'.heap.size) w10.drew:=⟨m10c 0,m10c 1,m10c 2,m10c 3,m10c 4,m10c 5,m10c 6,s10c 0,ST10.out.drew,hbs⟩
 have SBel: ∀(u u':World),(fun w'=>w'.cell? ⟨w1.heap.size,0,none⟩=some (.int .u64 (layH h).base)∧w'.cell? ⟨w1.heap.size,1,none⟩=some (.int .i64 (layH h).cap)∧w'.cell? ⟨w1.heap.size,2,none⟩=some (.int .i64 (layH h).to)∧w'.cell? ⟨w1.heap.size,3,none⟩=some (.int .i64 (layH h).low)∧w'.cell? ⟨w1.heap.size,4,none⟩=some (.int .i64 (layH h).high)∧w'.cell? ⟨w1.heap.size,5,none⟩=some (.int .i64 (layH h).old)∧w'.cell? ⟨w1.heap.size,6,none⟩=some (.int .i64 (layH h).far)∧w'.cell? ⟨w9.heap.size,0,none⟩=some (.int .i64 (sz:Nat))∧FwSt w w' (w.heap.size+1) w1.heap.size w4.heap.size w5.heap.size (w4.heap.size+1) 3 (at_:Nat) h x∧w9.heap.size<w'.heap.size) u→Below u.heap.size u u'→(fun w'=>w'.cell? ⟨w1.heap.size,0,none⟩=some (.int .u64 (layH h).base)∧w'.cell? ⟨w1.heap.size,1,none⟩=some (.int .i64 (layH h).cap)∧w'.cell? ⟨w1.heap.size,2,none⟩=some (.int .i64 (layH h).to)∧w'.cell? ⟨w1.heap.size,3,none⟩=some (.int .i64 (layH h).low)∧w'.cell? ⟨w1.heap.size,4,none⟩=some (.int .i64 (layH h).high)∧w'.cell? ⟨w1.heap.size,5,none⟩=some (.int .i64 (layH h).old)∧w'.cell? ⟨w1.heap.size,6,none⟩=some (.int .i64 (layH h).far)∧w'.cell? ⟨w9.heap.size,0,none⟩=some (.int .i64 (sz:Nat))∧FwSt w w' (w.heap.size+1) w1.heap.size w4.heap.size w5.heap.size (w4.heap.size+1) 3 (at_:Nat) h x∧w9.heap.size<w'.heap.size) u':=by
  rintro u u' ⟨c0,c1,c2,c3,c4,c5,c6,c7,st,hs⟩ hb
  have hl:=st.lbB
  have hz:=st.sz
  exact⟨(hb.cell (by show w1.heap.size<u.heap.size;omega)).trans c0,(hb.cell (by show w1.heap.size<u.heap.size;omega)).trans c1,(hb.cell (by show w1.heap.size<u.heap.size;omega)).trans c2,(hb.cell (by show w1.heap.size<u.heap.size;omega)).trans c3,(hb.cell (by show w1.heap.size<u.heap.size;omega)).trans c4,(hb.cell (by show w1.heap.size<u.heap.size;omega)).trans c5,(hb.cell (by show w1.heap.size<u.heap.size;omega)).trans c6,(hb.cell hs).trans c7,st.below hb,by have:=hb.size;omega⟩
 go_region_held3 (fun w'=>w'.cell? ⟨w1.heap.size,0,none⟩=some (.int .u64 (layH h).base)∧w'.cell? ⟨w1.heap.size,1,none⟩=some (.int .i64 (layH h).cap)∧w'.cell? ⟨w1.heap.size,2,none⟩=some (.int .i64 (layH h).to)∧w'.cell? ⟨w1.heap.size,3,none⟩=some (.int .i64 (layH h).low)∧w'.cell? ⟨w1.heap.size,4,none⟩=some (.int .i64 (layH h).high)∧w'.cell? ⟨w1.heap.size,5,none⟩=some (.int .i64 (layH h).old)∧w'.cell? ⟨w1.heap.size,6,none⟩=some (.int .i64 (layH h).far)∧w'.cell? ⟨w9.heap.size,0,none⟩=some (.int .i64 (sz:Nat))∧FwSt w w' (w.heap.size+1) w1.heap.size w4.heap.size w5.heap.size (w4.heap.size+1) 3 (at_:Nat) h x∧w9.heap.size<w'.heap.size) (first|exact S10|assumption)
  (first| (go_at_call 24;refine(Wf HH.out.lay _).mono ?_;rintro e w11 ⟨rfl,hb11⟩;have S11:=SBel _ _ S10 hb11))
 obtain⟨-,-,-,-,-,-,-,c11,st11,hs11⟩:=S11
 clear S10 SBel s10c y10 f10 n10c m10c hb11 hbs
 rename_i hHeld
 clear hHeld
 have res11:=st11.res
 have y11: ∀j,(w11).cell? ⟨w.heap.size+1,j,none⟩=Z4[j]? :=fun j=>cell_of_row _ _ _ _ _ _ res11
 unfold Z4 at y11
 have f11: ∀j,(w11).frozen? ⟨w.heap.size+1,j,none⟩=false:=fun j=>Za res11
 have nb11:=st11.now.blk
 rw[E0.out,E1.out,E2.out,E3.out,E4.out]at nb11
 have n11c: ∀j,(w11).cell? ⟨w5.heap.size,j,none⟩=(#[.int .u64 h.base,.int .i64 h.cap,.int .i64 h.to,.bool h.cycle,.int .i64 h.scan,.slice a0 (lsH h 0).length q0,.slice a1 (lsH h 1).length q1,.slice (some ⟨g,0,none⟩) (lsH h 2).length q2,.slice a3 (lsH h 3).length q3,.slice a4 (lsH h 4).length q4]:Array Value)[j]? :=fun j=>cell_of_row _ _ _ _ _ _ nb11
 have k11c: ∀j,(w11).cell? ⟨w4.heap.size,j,none⟩=(#[.int .i64 3,.int .i64 (at_:Nat)]:Array Value)[j]? :=fun j=>cell_of_row _ _ _ _ _ _ st11.plc
 have m11c: ∀j,(w11).cell? ⟨w1.heap.size,j,none⟩=(#[.int .u64 (layH h).base,.int .i64 (layH h).cap,.int .i64 (layH h).to,.int .i64 (layH h).low,.int .i64 (layH h).high,.int .i64 (layH h).old,.int .i64 (layH h).far]:Array Value)[j]? :=fun j=>cell_of_row _ _ _ _ _ _ st11.lay
 have hop11:=st11.now.own.own 2 (by omega)
 rw[EP.out]at hop11
 have cw11:=Zm hop11 hwd
 clear nb11 hop11 hm hqm hat2
 have ST11:=Lib.hid st11
 clear st11
 have hsm:=HSM.out
 have hrm:=HRM.out
 have hle:=HLE.out
 have hpH:h.old.getD at_ 0=wd:=by show(lsH h 2).getD at_ 0=wd;simp[List.getD,hwd]
 have hpL:h.old.length=(lsH h 2).length:=rfl
 have hrmz: ¬Y1 (layH h) < (sz:Int)+1:=by omega
 have hfw:fwd h v=(toOf h 3 at_ sm,Ya (ZE h 3 at_ sm) 3 ((zr (lsH h 2) at_ sm).set at_ (toOf h 3 at_ sm)),0):=by
  subst hsm
  simp only[fwd,hr,hv0,h1,hf,if_false,if_true,Bool.true_eq_false,ne_eq,not_true_eq_false]
  simp[-List.getD_eq_getElem?_getD,hpH,hgo,hun,her,fwdC,hpL,Nat.not_lt.2 hle,hrmz]
  exact⟨rfl,rfl⟩
 have HC:=Lib.hid (SU w11 (w4.heap.size+1) w5.heap.size h x ST11.out.now ST11.out.sz HH.out 2 at_ sm (by omega) (by omega) (by omega) (by omega) g q2 EP.out (by omega) qm)
 have HFW:=Lib.hid hfw
 clear hsm hrm hle hfw hpH hpL hrmz
 have HRES:=Lib.hid res11
 go_wp2_with (first| (go_at_call 63;go_loud (refine HC.out.mono ?_;rintro e w12 ⟨x',rfl,hb12,hN12⟩;have res12:=(hb12.block _ ST11.out.rbB).trans HRES.out;have hbel:=ST11.out.bel.trans (hb12.mono (by have:=ST11.out.old;have:=ST11.out.rbB;omega));obtain⟨b0,r0,g0⟩:=Z2 (hN12.own.own 0 (by omega));obtain⟨b1,r1,g1⟩:=Z2 (hN12.own.own 1 (by omega));obtain⟨b2,r2,g2⟩:=Z2 (hN12.own.own 2 (by omega));obtain⟨b3,r3,g3⟩:=Z2 (hN12.own.own 3 (by omega));obtain⟨b4,r4,g4⟩:=Z2 (hN12.own.own 4 (by omega));have nb12:=hN12.blk;have e1:fwd h v=(toOf h 3 at_ sm,_,0):=HFW.out;have e2:toOf h (((2:Nat):Int)+1) at_ sm=toOf h 3 at_ sm:=rfl;rw[e2]at hN12 nb12 g0 g1 g2 g3 g4;rw[e2];generalize hto:toOf h 3 at_ sm=to at*;have e3:Ya (ZE h (((2:Nat):Int)+1) at_ sm) (((2:Nat):Int)+1) ((zr (lsH h 2) at_ sm).set at_ to)=Ya (ZE h 3 at_ sm) 3 ((zr (lsH h 2) at_ sm).set at_ to):=rfl;rw[e3]at hN12 nb12 g0 g1 g2 g3 g4;generalize Ya (ZE h 3 at_ sm) 3 ((zr (lsH h 2) at_ sm).set at_ to)=h' at*;rw[g0,g1,g2,g3,g4]at nb12)))
 have y12: ∀j,w12.cell? ⟨w.heap.size+1,j,none⟩=Z4[j]? :=fun j=>cell_of_row _ _ _ _ _ _ res12
 unfold Z4 at y12
 have f12: ∀j,w12.frozen? ⟨w.heap.size+1,j,none⟩=false:=fun j=>Za res12
 have n12c: ∀j,w12.cell? ⟨w5.heap.size,j,none⟩=(#[.int .u64 h'.base,.int .i64 h'.cap,.int .i64 h'.to,.bool h'.cycle,.int .i64 h'.scan,.slice b0 (lsH h' 0).length r0,.slice b1 (lsH h' 1).length r1,.slice b2 (lsH h' 2).length r2,.slice b3 (lsH h' 3).length r3,.slice b4 (lsH h' 4).length r4]:Array Value)[j]? :=fun j=>cell_of_row _ _ _ _ _ _ nb12
 have hs12:=hbel.size
 have hB12:w4.heap.size+1≤w12.heap.size:=by have:=hb12.size;have:=ST11.out.sz;omega
 have HN12:=Lib.hid hN12
 have HBEL:=Lib.hid hbel
 have RES12:=Lib.hid res12
 have G0:=Lib.hid g0
 have G1:=Lib.hid g1
 have G2:=Lib.hid g2
 have G3:=Lib.hid g3
 have G4:=Lib.hid g4
 clear nb12 hN12 hbel hb12 res12 g0 g1 g2 g3 g4 y11 f11 n11c k11c m11c
 go_region
 all_goals
  go_wp2
  try simp only[Exit.inBlock,Exit.then]
  have y:=Zn RES12.out (.int .u64 h'.base) (.int .i64 h'.cap) (.int .i64 h'.to) (.bool h'.cycle) (.int .i64 h'.scan) (.slice b0 (lsH h' 0).length r0) (.slice b1 (lsH h' 1).length r1) (.slice b2 (lsH h' 2).length r2) (.slice b3 (lsH h' 3).length r3) (.slice b4 (lsH h' 4).length r4)
  rw[HFW.out]
  refine bodyPost_ret (v:= .tuple #[.int .u64 to,hpA h' x',.int .i64 0]) ?_ rfl ?_
  ·unfold hpA;rw[G0.out,G1.out,G2.out,G3.out,G4.out];simp[results,Try.results39,go_sem,y]
  ·refine⟨x',rfl,?_,?_⟩
   ·exact(Zi HBEL.out (by omega) _ _ _ _ _ _ _ _ _ _).drew
   ·refine⟨fun j hj=> ?_,HN12.out.own.apart⟩
    have ho:=HN12.out.own.own j hj
    refine Uv (Zp ho ?_) ?_
    ·intro c hc
     have hc1:=(ho.lt c hc).1
     exact Yw (by omega) _ _ _ _ _ _ _ _ _ _
    ·intro c h1 h2
     exact⟨by omega,h2⟩
theorem Rh(w:World)(G:Nat→Prop)(hG: ∀b,G b→b<w.heap.size)(h:Hp)(hh:h.ok)(src:Nat→Value)(hs: ∀j,j<5→Rd w G (.sl ((lsH h j).map vu)) (src j))(v:Int)(hv:U64 v)
  (hr:Z8 (layH h)=true) (hv0: ¬v=0) (h1:(adr v).2=0) (part:Int) (at_:Nat) (hf:Zx (layH h) (adr v).1=(part,(at_:Int),0)) (hp:part=4)
  (wd:Int) (hwd:(lsH h 3)[at_]? =some wd) (hat:at_< (lsH h 3).length) (hwu:U64 wd) (hgo: ¬(adr wd).2=0) (sz pt er:Int) (hun:unpk wd=(sz,pt,er)) (her: ¬er=0):
  Calls Try.prog 39 #[hpA h src,.int .u64 v] w (Yr w (fwd h v)):=by
 have HS:=Lib.hid hs
 have HH:=Lib.hid hh
 clear hs hh
 unfold hpA
 go_enter Try.func39,Try.ntmps39
 subst hp
 go_wp2_with (first
  | (go_at_call 61;go_loud (refine(Yp _ (w4.heap.size+1) w5.heap.size h x ST6.out.now HH.out 3 at_ (by omega) g q3 EP.out (by omega)).mono ?_;rintro e w7 ⟨rfl,hb7⟩;obtain⟨m,hm⟩: ∃m,(lsH h 3).length-at_=m:=⟨_,rfl⟩;obtain⟨qm,hqm⟩: ∃qm,q3-at_=qm:=⟨_,rfl⟩;rw[hm,hqm];have hm0:0<m:=(by omega);have hm0i:(0:Int) < (m:Int):=(by omega);have hat2:at_+0=at_:=rfl;have st7:=ST6.out.below hb7;have hs7:=hb7.size;simp at hs7;have res7:=st7.res;have y7: ∀j,(w7).cell? ⟨w.heap.size+1,j,none⟩=Z4[j]? :=fun j=>cell_of_row _ _ _ _ _ _ res7;unfold Z4 at y7;have f7: ∀j,(w7).frozen? ⟨w.heap.size+1,j,none⟩=false:=fun j=>Za res7;have nb7:=st7.now.blk;rw[E0.out,E1.out,E2.out,E3.out,E4.out]at nb7;have n7c: ∀j,(w7).cell? ⟨w5.heap.size,j,none⟩=(#[.int .u64 h.base,.int .i64 h.cap,.int .i64 h.to,.bool h.cycle,.int .i64 h.scan,.slice a0 (lsH h 0).length q0,.slice a1 (lsH h 1).length q1,.slice a2 (lsH h 2).length q2,.slice (some ⟨g,0,none⟩) (lsH h 3).length q3,.slice a4 (lsH h 4).length q4]:Array Value)[j]? :=fun j=>cell_of_row _ _ _ _ _ _ nb7;have k7c: ∀j,(w7).cell? ⟨w4.heap.size,j,none⟩=(#[.int .i64 4,.int .i64 (at_:Nat)]:Array Value)[j]? :=fun j=>cell_of_row _ _ _ _ _ _ st7.plc;have m7c: ∀j,(w7).cell? ⟨w1.heap.size,j,none⟩=(#[.int .u64 (layH h).base,.int .i64 (layH h).cap,.int .i64 (layH h).to,.int .i64 (layH h).low,.int .i64 (layH h).high,.int .i64 (layH h).old,.int .i64 (layH h).far]:Array Value)[j]? :=fun j=>cell_of_row _ _ _ _ _ _ st7.lay;have hop7:=st7.now.own.own 3 (by omega);rw[EP.out]at hop7;have c7:=Zm hop7 hwd;clear nb7 hop7;have ST7:=Lib.hid st7;clear hb7 st7))
  | (go_at_call 59;go_loud (have st7:=ST7.out;refine(Zk hwu _).mono ?_;rintro e w8 ⟨rfl,hb8⟩;have st8:=st7.below hb8;have hs8:=hb8.size;have res8:=st8.res;have y8: ∀j,(w8).cell? ⟨w.heap.size+1,j,none⟩=Z4[j]? :=fun j=>cell_of_row _ _ _ _ _ _ res8;unfold Z4 at y8;have f8: ∀j,(w8).frozen? ⟨w.heap.size+1,j,none⟩=false:=fun j=>Za res8;have nb8:=st8.now.blk;rw[E0.out,E1.out,E2.out,E3.out,E4.out]at nb8;have n8c: ∀j,(w8).cell? ⟨w5.heap.size,j,none⟩=(#[.int .u64 h.base,.int .i64 h.cap,.int .i64 h.to,.bool h.cycle,.int .i64 h.scan,.slice a0 (lsH h 0).length q0,.slice a1 (lsH h 1).length q1,.slice a2 (lsH h 2).length q2,.slice (some ⟨g,0,none⟩) (lsH h 3).length q3,.slice a4 (lsH h 4).length q4]:Array Value)[j]? :=fun j=>cell_of_row _ _ _ _ _ _ nb8;have k8c: ∀j,(w8).cell? ⟨w4.heap.size,j,none⟩=(#[.int .i64 4,.int .i64 (at_:Nat)]:Array Value)[j]? :=fun j=>cell_of_row _ _ _ _ _ _ st8.plc;have m8c: ∀j,(w8).cell? ⟨w1.heap.size,j,none⟩=(#[.int .u64 (layH h).base,.int .i64 (layH h).cap,.int .i64 (layH h).to,.int .i64 (layH h).low,.int .i64 (layH h).high,.int .i64 (layH h).old,.int .i64 (layH h).far]:Array Value)[j]? :=fun j=>cell_of_row _ _ _ _ _ _ st8.lay;have hop8:=st8.now.own.own 3 (by omega);rw[EP.out]at hop8;have c8:=Zm hop8 hwd;clear nb8 hop8;have ST8:=Lib.hid st8;clear hb8 st8 st7))
  | (go_at_call 62;go_loud (refine(ZM hwu _).mono ?_;rintro e w9 ⟨rfl,hb9⟩;rw[hun];dsimp only;have hs9:=hb9.size;have st10:FwSt w (w9.alloc (.cells #[.int .i64 sz,.int .i64 pt] 47)) _ _ _ _ _ _ _ h x:=(ST8.out.below hb9).below ((Below.refl _ _).alloc (Nat.le_refl _) _);have res10:=st10.res;have y10: ∀j,((w9.alloc (.cells #[.int .i64 sz,.int .i64 pt] 47))).cell? ⟨w.heap.size+1,j,none⟩=Z4[j]? :=fun j=>cell_of_row _ _ _ _ _ _ res10;unfold Z4 at y10;have f10: ∀j,((w9.alloc (.cells #[.int .i64 sz,.int .i64 pt] 47))).frozen? ⟨w.heap.size+1,j,none⟩=false:=fun j=>Za res10;have nb10:=st10.now.blk;rw[E0.out,E1.out,E2.out,E3.out,E4.out]at nb10;have n10c: ∀j,((w9.alloc (.cells #[.int .i64 sz,.int .i64 pt] 47))).cell? ⟨w5.heap.size,j,none⟩=(#[.int .u64 h.base,.int .i64 h.cap,.int .i64 h.to,.bool h.cycle,.int .i64 h.scan,.slice a0 (lsH h 0).length q0,.slice a1 (lsH h 1).length q1,.slice a2 (lsH h 2).length q2,.slice (some ⟨g,0,none⟩) (lsH h 3).length q3,.slice a4 (lsH h 4).length q4]:Array Value)[j]? :=fun j=>cell_of_row _ _ _ _ _ _ nb10;have k10c: ∀j,((w9.alloc (.cells #[.int .i64 sz,.int .i64 pt] 47))).cell? ⟨w4.heap.size,j,none⟩=(#[.int .i64 4,.int .i64 (at_:Nat)]:Array Value)[j]? :=fun j=>cell_of_row _ _ _ _ _ _ st10.plc;have m10c: ∀j,((w9.alloc (.cells #[.int .i64 sz,.int .i64 pt] 47))).cell? ⟨w1.heap.size,j,none⟩=(#[.int .u64 (layH h).base,.int .i64 (layH h).cap,.int .i64 (layH h).to,.int .i64 (layH h).low,.int .i64 (layH h).high,.int .i64 (layH h).old,.int .i64 (layH h).far]:Array Value)[j]? :=fun j=>cell_of_row _ _ _ _ _ _ st10.lay;have hop10:=st10.now.own.own 3 (by omega);rw[EP.out]at hop10;have c10:=Zm hop10 hwd;clear nb10 hop10;have s10c: ∀j,(w9.alloc (.cells #[.int .i64 sz,.int .i64 pt] 47)).cell? ⟨w9.heap.size,j,none⟩=(#[.int .i64 sz,.int .i64 pt]:Array Value)[j]? :=fun j=>cell_of_row _ _ _ _ _ _ (heap_alloc_new w9 _);have ST10:=Lib.hid st10;have hml:m≤1000000:=(by have:=YB HH.out 3;omega);have hl10:at_+m=(lsH h 3).length:=(by omega);clear hb9 st10))
  | (go_at_call 51;go_loud (refine(Zo (h:=h) (x:=src) (G:=G) (fun c hc=>by have:=hG c hc;simp;omega) (fun j hj=>(HS.out j hj).keep (fun b hb=>by have:=hG b hb;rw[Below.heap_alloc _ _ _ (by simp;omega),Below.heap_alloc _ _ _ (by omega)]) (fun _ h=>h))).mono ?_;rintro e w1 ⟨rfl,hb1⟩;unfold lyA;have z1:=(hb1.block (w.heap.size+1) (by simp)).trans (ZP w _);have p1:=(hb1.block w.heap.size (by simp;omega)).trans ((Below.heap_alloc (w.alloc (.cells #[.int .u64 h.base,.int .i64 h.cap,.int .i64 h.to,.bool h.cycle,.int .i64 h.scan,src 0,src 1,src 2,src 3,src 4] 25)) _ w.heap.size (by simp)).trans (heap_alloc_new w _));have hs1:=hb1.size;simp at hs1;have HB1:=Lib.hid hb1;clear hb1))
  | (go_at_call 43;go_loud (refine(Zt HH.out.lay _).mono ?_;rintro e w2 ⟨rfl,hb2⟩;rw[hr];have z2:=(hb2.block (w.heap.size+1) (by simp;omega)).trans ((Below.heap_alloc w1 _ (w.heap.size+1) (by omega)).trans z1);have p2:=(hb2.block w.heap.size (by simp;omega)).trans ((Below.heap_alloc w1 _ w.heap.size (by omega)).trans p1);have x2: ∀j,w2.cell? ⟨w.heap.size,j,none⟩=(#[.int .u64 h.base,.int .i64 h.cap,.int .i64 h.to,.bool h.cycle,.int .i64 h.scan,src 0,src 1,src 2,src 3,src 4]:Array Value)[j]? :=fun j=>cell_of_row _ _ _ _ _ _ p2;have hb02:Below w.heap.size w w2:=((((((Below.refl _ _).alloc (Nat.le_refl _) _).alloc (by simp) _).trans (HB1.out.mono (by simp;omega))).alloc (by omega) _).trans (hb2.mono (by simp;omega)));have hs2:=hb2.size;simp at hs2;have m2:=(hb2.block w1.heap.size (by simp)).trans (heap_alloc_new w1 _);have HB02:=Lib.hid hb02;clear hb2 hb02))
  | (go_at_call 59;go_loud (refine(Zk hv _).mono ?_;rintro e w3 ⟨rfl,hb3⟩;have z3:=(hb3.block (w.heap.size+1) (by omega)).trans z2;have p3:=(hb3.block w.heap.size (by omega)).trans p2;have m3:=(hb3.block w1.heap.size (by omega)).trans m2;have l3: ∀j,w3.cell? ⟨w1.heap.size,j,none⟩=(#[.int .u64 (layH h).base,.int .i64 (layH h).cap,.int .i64 (layH h).to,.int .i64 (layH h).low,.int .i64 (layH h).high,.int .i64 (layH h).old,.int .i64 (layH h).far]:Array Value)[j]? :=fun j=>cell_of_row _ _ _ _ _ _ m3;have hs3:=hb3.size;have HB3:=Lib.hid hb3;clear hb3))
  | (go_at_call 60;go_loud (refine(ZI HH.out.lay (VK hv) _).mono ?_;rintro e w4 ⟨rfl,hb4⟩;rw[hf];dsimp only;have hs4:=hb4.size;have z4: ∀o,(w4.alloc o).heap[w.heap.size+1]? =some (.cells Z4 25 (0,0)):=fun o=>(Below.heap_alloc w4 o (w.heap.size+1) (by omega)).trans ((hb4.block (w.heap.size+1) (by omega)).trans z3);have p4: ∀o,(w4.alloc o).heap[w.heap.size]? =some (.cells #[.int .u64 h.base,.int .i64 h.cap,.int .i64 h.to,.bool h.cycle,.int .i64 h.scan,src 0,src 1,src 2,src 3,src 4] 25 (0,0)):=fun o=>(Below.heap_alloc w4 o w.heap.size (by omega)).trans ((hb4.block w.heap.size (by omega)).trans p3);have x4: ∀o j,(w4.alloc o).cell? ⟨w.heap.size,j,none⟩=(#[.int .u64 h.base,.int .i64 h.cap,.int .i64 h.to,.bool h.cycle,.int .i64 h.scan,src 0,src 1,src 2,src 3,src 4]:Array Value)[j]? :=fun o j=>cell_of_row _ _ _ _ _ _ (p4 o);have hb04: ∀o,Below w.heap.size w (w4.alloc o):=fun o=>((HB02.out.trans (HB3.out.mono (by omega))).trans (hb4.mono (by omega))).alloc (by omega) o;have m4: ∀o,(w4.alloc o).heap[w1.heap.size]? =some (.cells #[.int .u64 (layH h).base,.int .i64 (layH h).cap,.int .i64 (layH h).to,.int .i64 (layH h).low,.int .i64 (layH h).high,.int .i64 (layH h).old,.int .i64 (layH h).far] 53 (0,0)):=fun o=>(Below.heap_alloc w4 o w1.heap.size (by omega)).trans ((hb4.block w1.heap.size (by omega)).trans m3);have k4:=heap_alloc_new w4 (.cells #[.int .i64 4,.int .i64 (at_:Nat)] 91);have HB04:=Lib.hid hb04;clear hb4 hb04 z3 p3 m3 l3 z2 p2 x2 m2))
  | (go_at_call 48;go_loud (refine(Yk _ G (fun b hb=>by have:=hG b hb;simp;omega) h HH.out src (fun j hj=>(HS.out j hj).keep (fun b hb=>(HB04.out _).block b (hG b hb)) (fun _ h=>h))).mono ?_;rintro e w5 ⟨x,rfl,hb5,ho5⟩;obtain⟨a0,q0,e0⟩:=Z2 (ho5.own 0 (by omega));obtain⟨a1,q1,e1⟩:=Z2 (ho5.own 1 (by omega));obtain⟨a2,q2,e2⟩:=Z2 (ho5.own 2 (by omega));obtain⟨a3,q3,e3⟩:=Z2 (ho5.own 3 (by omega));obtain⟨a4,q4,e4⟩:=Z2 (ho5.own 4 (by omega));obtain⟨g,hg⟩:=YE (ho5.own 3 (by omega)) e3 (by omega);subst hg;unfold hpA;rw[e0,e1,e2,e3,e4];have hs5:=hb5.size;simp at hs5;have hsz4: ∀o,(w4.alloc o).heap.size=w4.heap.size+1:=fun o=>(by simp);rw[hsz4]at ho5;have hN:=ZX ho5 (by omega);unfold U4 at hN;rw[e0,e1,e2,e3,e4]at hN;have hb05: ∀o,Below w.heap.size w (w5.alloc o):=fun o=>((HB04.out _).trans (hb5.mono (by simp;omega))).alloc (by omega) o;have z6: ∀o,(w5.alloc o).heap[w.heap.size+1]? =some (.cells Z4 25 (0,0)):=fun o=>(Below.heap_alloc w5 o (w.heap.size+1) (by omega)).trans ((hb5.block (w.heap.size+1) (by simp;omega)).trans (z4 _));have k6: ∀o,(w5.alloc o).heap[w4.heap.size]? =some (.cells #[.int .i64 4,.int .i64 (at_:Nat)] 91 (0,0)):=fun o=>(Below.heap_alloc w5 o w4.heap.size (by omega)).trans ((hb5.block w4.heap.size (by simp)).trans k4);have m6: ∀o,(w5.alloc o).heap[w1.heap.size]? =some (.cells #[.int .u64 (layH h).base,.int .i64 (layH h).cap,.int .i64 (layH h).to,.int .i64 (layH h).low,.int .i64 (layH h).high,.int .i64 (layH h).old,.int .i64 (layH h).far] 53 (0,0)):=fun o=>(Below.heap_alloc w5 o w1.heap.size (by omega)).trans ((hb5.block w1.heap.size (by simp;omega)).trans (m4 _));have k6c: ∀o j,(w5.alloc o).cell? ⟨w4.heap.size,j,none⟩=(#[.int .i64 4,.int .i64 (at_:Nat)]:Array Value)[j]? :=fun o j=>cell_of_row _ _ _ _ _ _ (k6 o);have m6c: ∀o j,(w5.alloc o).cell? ⟨w1.heap.size,j,none⟩=(#[.int .u64 (layH h).base,.int .i64 (layH h).cap,.int .i64 (layH h).to,.int .i64 (layH h).low,.int .i64 (layH h).high,.int .i64 (layH h).old,.int .i64 (layH h).far]:Array Value)[j]? :=fun o j=>cell_of_row _ _ _ _ _ _ (m6 o);have nb:=hN.blk;rw[e0,e1,e2,e3,e4]at nb;have n6c: ∀j,(w5.alloc (.cells #[.int .u64 h.base,.int .i64 h.cap,.int .i64 h.to,.bool h.cycle,.int .i64 h.scan,.slice a0 (lsH h 0).length q0,.slice a1 (lsH h 1).length q1,.slice a2 (lsH h 2).length q2,.slice (some ⟨g,0,none⟩) (lsH h 3).length q3,.slice a4 (lsH h 4).length q4] 113)).cell? ⟨w5.heap.size,j,none⟩=(#[.int .u64 h.base,.int .i64 h.cap,.int .i64 h.to,.bool h.cycle,.int .i64 h.scan,.slice a0 (lsH h 0).length q0,.slice a1 (lsH h 1).length q1,.slice a2 (lsH h 2).length q2,.slice (some ⟨g,0,none⟩) (lsH h 3).length q3,.slice a4 (lsH h 4).length q4]:Array Value)[j]? :=fun j=>cell_of_row _ _ _ _ _ _ nb;have y6: ∀o j,(w5.alloc o).cell? ⟨w.heap.size+1,j,none⟩=Z4[j]? :=fun o j=>cell_of_row _ _ _ _ _ _ (z6 o);have f6: ∀o j,(w5.alloc o).frozen? ⟨w.heap.size+1,j,none⟩=false:=fun o j=>Za (z6 o);unfold Z4 at y6;have st6:FwSt w (w5.alloc (.cells #[.int .u64 h.base,.int .i64 h.cap,.int .i64 h.to,.bool h.cycle,.int .i64 h.scan,.slice a0 (lsH h 0).length q0,.slice a1 (lsH h 1).length q1,.slice a2 (lsH h 2).length q2,.slice (some ⟨g,0,none⟩) (lsH h 3).length q3,.slice a4 (lsH h 4).length q4] 113)) (w.heap.size+1) w1.heap.size w4.heap.size w5.heap.size (w4.heap.size+1) 4 (at_:Nat) h x:=⟨z6 _,m6 _,k6 _,hN,hb05 _,by omega,by omega,by omega,by omega,by simp;omega⟩;have ST6:=Lib.hid st6;have EP:=Lib.hid e3;clear st6;have HB05:=Lib.hid hb05;have HN:=Lib.hid hN;have E0:=Lib.hid e0;have E1:=Lib.hid e1;have E2:=Lib.hid e2;have E3:=Lib.hid e3;have E4:=Lib.hid e4;clear hb05 hN nb e0 e1 e2 e3 e4 ho5 hb5 z4 p4 x4 m4 k4)))
 have hpH:h.far.getD at_ 0=wd:=by show(lsH h 3).getD at_ 0=wd;simp[List.getD,hwd]
 have hpL:h.far.length=(lsH h 3).length:=rfl
 have hfw:fwd h v=(0,Hp.zero,3):=by simp[fwd,fwdC,hr,hv0,h1,hf,-List.getD_eq_getElem?_getD,hpH,hpL,hgo,hun,her]
 have y:=Zn ST10.out.res (.int .u64 0) (.int .i64 0) (.int .i64 0) (.bool false) (.int .i64 0) (.slice none 0 0) (.slice none 0 0) (.slice none 0 0) (.slice none 0 0) (.slice none 0 0)
 rw[hfw]
 refine bodyPost_ret (v:= .tuple #[.int .u64 0,.agg Z4,.int .i64 3]) ?_ rfl ?_
 ·simp[results,Try.results39,go_sem,y,Z4]
 ·refine⟨fun _=> .slice none 0 0,?_,?_,X5 _ _⟩
  ·simp[hpA,Hp.zero,Z4]
  ·exact Zi ST10.out.bel (by omega) _ _ _ _ _ _ _ _ _ _
theorem Sh(w:World)(G:Nat→Prop)(hG: ∀b,G b→b<w.heap.size)(h:Hp)(hh:h.ok)(src:Nat→Value)(hs: ∀j,j<5→Rd w G (.sl ((lsH h j).map vu)) (src j))(v:Int)(hv:U64 v)
  (hr:Z8 (layH h)=true) (hv0: ¬v=0) (h1:(adr v).2=0) (part:Int) (at_:Nat) (hf:Zx (layH h) (adr v).1=(part,(at_:Int),0)) (hp:part=4)
  (wd:Int) (hwd:(lsH h 3)[at_]? =some wd) (hat:at_< (lsH h 3).length) (hwu:U64 wd) (hgo: ¬(adr wd).2=0) (sz:Nat) (pt er:Int) (hun:unpk wd=((sz:Int),pt,er)) (hsz:sz≤255) (her:er=0) (hlt:(lsH h 3).length<at_+(sz+1)):
  Calls Try.prog 39 #[hpA h src,.int .u64 v] w (Yr w (fwd h v)):=by
 have HS:=Lib.hid hs
 have HH:=Lib.hid hh
 clear hs hh
 unfold hpA
 go_enter Try.func39,Try.ntmps39
 subst hp
 go_wp2_with (first
  | (go_at_call 61;go_loud (refine(Yp _ (w4.heap.size+1) w5.heap.size h x ST6.out.now HH.out 3 at_ (by omega) g q3 EP.out (by omega)).mono ?_;rintro e w7 ⟨rfl,hb7⟩;obtain⟨m,hm⟩: ∃m,(lsH h 3).length-at_=m:=⟨_,rfl⟩;obtain⟨qm,hqm⟩: ∃qm,q3-at_=qm:=⟨_,rfl⟩;rw[hm,hqm];have hm0:0<m:=(by omega);have hm0i:(0:Int) < (m:Int):=(by omega);have hat2:at_+0=at_:=rfl;have st7:=ST6.out.below hb7;have hs7:=hb7.size;simp at hs7;have res7:=st7.res;have y7: ∀j,(w7).cell? ⟨w.heap.size+1,j,none⟩=Z4[j]? :=fun j=>cell_of_row _ _ _ _ _ _ res7;unfold Z4 at y7;have f7: ∀j,(w7).frozen? ⟨w.heap.size+1,j,none⟩=false:=fun j=>Za res7;have nb7:=st7.now.blk;rw[E0.out,E1.out,E2.out,E3.out,E4.out]at nb7;have n7c: ∀j,(w7).cell? ⟨w5.heap.size,j,none⟩=(#[.int .u64 h.base,.int .i64 h.cap,.int .i64 h.to,.bool h.cycle,.int .i64 h.scan,.slice a0 (lsH h 0).length q0,.slice a1 (lsH h 1).length q1,.slice a2 (lsH h 2).length q2,.slice (some ⟨g,0,none⟩) (lsH h 3).length q3,.slice a4 (lsH h 4).length q4]:Array Value)[j]? :=fun j=>cell_of_row _ _ _ _ _ _ nb7;have k7c: ∀j,(w7).cell? ⟨w4.heap.size,j,none⟩=(#[.int .i64 4,.int .i64 (at_:Nat)]:Array Value)[j]? :=fun j=>cell_of_row _ _ _ _ _ _ st7.plc;have m7c: ∀j,(w7).cell? ⟨w1.heap.size,j,none⟩=(#[.int .u64 (layH h).base,.int .i64 (layH h).cap,.int .i64 (layH h).to,.int .i64 (layH h).low,.int .i64 (layH h).high,.int .i64 (layH h).old,.int .i64 (layH h).far]:Array Value)[j]? :=fun j=>cell_of_row _ _ _ _ _ _ st7.lay;have hop7:=st7.now.own.own 3 (by omega);rw[EP.out]at hop7;have c7:=Zm hop7 hwd;clear nb7 hop7;have ST7:=Lib.hid st7;clear hb7 st7))
  | (go_at_call 59;go_loud (have st7:=ST7.out;refine(Zk hwu _).mono ?_;rintro e w8 ⟨rfl,hb8⟩;have st8:=st7.below hb8;have hs8:=hb8.size;have res8:=st8.res;have y8: ∀j,(w8).cell? ⟨w.heap.size+1,j,none⟩=Z4[j]? :=fun j=>cell_of_row _ _ _ _ _ _ res8;unfold Z4 at y8;have f8: ∀j,(w8).frozen? ⟨w.heap.size+1,j,none⟩=false:=fun j=>Za res8;have nb8:=st8.now.blk;rw[E0.out,E1.out,E2.out,E3.out,E4.out]at nb8;have n8c: ∀j,(w8).cell? ⟨w5.heap.size,j,none⟩=(#[.int .u64 h.base,.int .i64 h.cap,.int .i64 h.to,.bool h.cycle,.int .i64 h.scan,.slice a0 (lsH h 0).length q0,.slice a1 (lsH h 1).length q1,.slice a2 (lsH h 2).length q2,.slice (some ⟨g,0,none⟩) (lsH h 3).length q3,.slice a4 (lsH h 4).length q4]:Array Value)[j]? :=fun j=>cell_of_row _ _ _ _ _ _ nb8;have k8c: ∀j,(w8).cell? ⟨w4.heap.size,j,none⟩=(#[.int .i64 4,.int .i64 (at_:Nat)]:Array Value)[j]? :=fun j=>cell_of_row _ _ _ _ _ _ st8.plc;have m8c: ∀j,(w8).cell? ⟨w1.heap.size,j,none⟩=(#[.int .u64 (layH h).base,.int .i64 (layH h).cap,.int .i64 (layH h).to,.int .i64 (layH h).low,.int .i64 (layH h).high,.int .i64 (layH h).old,.int .i64 (layH h).far]:Array Value)[j]? :=fun j=>cell_of_row _ _ _ _ _ _ st8.lay;have hop8:=st8.now.own.own 3 (by omega);rw[EP.out]at hop8;have c8:=Zm hop8 hwd;clear nb8 hop8;have ST8:=Lib.hid st8;clear hb8 st8 st7))
  | (go_at_call 62;go_loud (refine(ZM hwu _).mono ?_;rintro e w9 ⟨rfl,hb9⟩;rw[hun];dsimp only;have hs9:=hb9.size;have st10:FwSt w (w9.alloc (.cells #[.int .i64 (sz:Nat),.int .i64 pt] 47)) _ _ _ _ _ _ _ h x:=(ST8.out.below hb9).below ((Below.refl _ _).alloc (Nat.le_refl _) _);have res10:=st10.res;have y10: ∀j,((w9.alloc (.cells #[.int .i64 (sz:Nat),.int .i64 pt] 47))).cell? ⟨w.heap.size+1,j,none⟩=Z4[j]? :=fun j=>cell_of_row _ _ _ _ _ _ res10;unfold Z4 at y10;have f10: ∀j,((w9.alloc (.cells #[.int .i64 (sz:Nat),.int .i64 pt] 47))).frozen? ⟨w.heap.size+1,j,none⟩=false:=fun j=>Za res10;have nb10:=st10.now.blk;rw[E0.out,E1.out,E2.out,E3.out,E4.out]at nb10;have n10c: ∀j,((w9.alloc (.cells #[.int .i64 (sz:Nat),.int .i64 pt] 47))).cell? ⟨w5.heap.size,j,none⟩=(#[.int .u64 h.base,.int .i64 h.cap,.int .i64 h.to,.bool h.cycle,.int .i64 h.scan,.slice a0 (lsH h 0).length q0,.slice a1 (lsH h 1).length q1,.slice a2 (lsH h 2).length q2,.slice (some ⟨g,0,none⟩) (lsH h 3).length q3,.slice a4 (lsH h 4).length q4]:Array Value)[j]? :=fun j=>cell_of_row _ _ _ _ _ _ nb10;have k10c: ∀j,((w9.alloc (.cells #[.int .i64 (sz:Nat),.int .i64 pt] 47))).cell? ⟨w4.heap.size,j,none⟩=(#[.int .i64 4,.int .i64 (at_:Nat)]:Array Value)[j]? :=fun j=>cell_of_row _ _ _ _ _ _ st10.plc;have m10c: ∀j,((w9.alloc (.cells #[.int .i64 (sz:Nat),.int .i64 pt] 47))).cell? ⟨w1.heap.size,j,none⟩=(#[.int .u64 (layH h).base,.int .i64 (layH h).cap,.int .i64 (layH h).to,.int .i64 (layH h).low,.int .i64 (layH h).high,.int .i64 (layH h).old,.int .i64 (layH h).far]:Array Value)[j]? :=fun j=>cell_of_row _ _ _ _ _ _ st10.lay;have hop10:=st10.now.own.own 3 (by omega);rw[EP.out]at hop10;have c10:=Zm hop10 hwd;clear nb10 hop10;have s10c: ∀j,(w9.alloc (.cells #[.int .i64 (sz:Nat),.int .i64 pt] 47)).cell? ⟨w9.heap.size,j,none⟩=(#[.int .i64 (sz:Nat),.int .i64 pt]:Array Value)[j]? :=fun j=>cell_of_row _ _ _ _ _ _ (heap_alloc_new w9 _);have ST10:=Lib.hid st10;have hml:m≤1000000:=(by have:=YB HH.out 3;omega);have hl10:at_+m=(lsH h 3).length:=(by omega);clear hb9 st10))
  | (go_at_call 51;go_loud (refine(Zo (h:=h) (x:=src) (G:=G) (fun c hc=>by have:=hG c hc;simp;omega) (fun j hj=>(HS.out j hj).keep (fun b hb=>by have:=hG b hb;rw[Below.heap_alloc _ _ _ (by simp;omega),Below.heap_alloc _ _ _ (by omega)]) (fun _ h=>h))).mono ?_;rintro e w1 ⟨rfl,hb1⟩;unfold lyA;have z1:=(hb1.block (w.heap.size+1) (by simp)).trans (ZP w _);have p1:=(hb1.block w.heap.size (by simp;omega)).trans ((Below.heap_alloc (w.alloc (.cells #[.int .u64 h.base,.int .i64 h.cap,.int .i64 h.to,.bool h.cycle,.int .i64 h.scan,src 0,src 1,src 2,src 3,src 4] 25)) _ w.heap.size (by simp)).trans (heap_alloc_new w _));have hs1:=hb1.size;simp at hs1;have HB1:=Lib.hid hb1;clear hb1))
  | (go_at_call 43;go_loud (refine(Zt HH.out.lay _).mono ?_;rintro e w2 ⟨rfl,hb2⟩;rw[hr];have z2:=(hb2.block (w.heap.size+1) (by simp;omega)).trans ((Below.heap_alloc w1 _ (w.heap.size+1) (by omega)).trans z1);have p2:=(hb2.block w.heap.size (by simp;omega)).trans ((Below.heap_alloc w1 _ w.heap.size (by omega)).trans p1);have x2: ∀j,w2.cell? ⟨w.heap.size,j,none⟩=(#[.int .u64 h.base,.int .i64 h.cap,.int .i64 h.to,.bool h.cycle,.int .i64 h.scan,src 0,src 1,src 2,src 3,src 4]:Array Value)[j]? :=fun j=>cell_of_row _ _ _ _ _ _ p2;have hb02:Below w.heap.size w w2:=((((((Below.refl _ _).alloc (Nat.le_refl _) _).alloc (by simp) _).trans (HB1.out.mono (by simp;omega))).alloc (by omega) _).trans (hb2.mono (by simp;omega)));have hs2:=hb2.size;simp at hs2;have m2:=(hb2.block w1.heap.size (by simp)).trans (heap_alloc_new w1 _);have HB02:=Lib.hid hb02;clear hb2 hb02))
  | (go_at_call 59;go_loud (refine(Zk hv _).mono ?_;rintro e w3 ⟨rfl,hb3⟩;have z3:=(hb3.block (w.heap.size+1) (by omega)).trans z2;have p3:=(hb3.block w.heap.size (by omega)).trans p2;have m3:=(hb3.block w1.heap.size (by omega)).trans m2;have l3: ∀j,w3.cell? ⟨w1.heap.size,j,none⟩=(#[.int .u64 (layH h).base,.int .i64 (layH h).cap,.int .i64 (layH h).to,.int .i64 (layH h).low,.int .i64 (layH h).high,.int .i64 (layH h).old,.int .i64 (layH h).far]:Array Value)[j]? :=fun j=>cell_of_row _ _ _ _ _ _ m3;have hs3:=hb3.size;have HB3:=Lib.hid hb3;clear hb3))
  | (go_at_call 60;go_loud (refine(ZI HH.out.lay (VK hv) _).mono ?_;rintro e w4 ⟨rfl,hb4⟩;rw[hf];dsimp only;have hs4:=hb4.size;have z4: ∀o,(w4.alloc o).heap[w.heap.size+1]? =some (.cells Z4 25 (0,0)):=fun o=>(Below.heap_alloc w4 o (w.heap.size+1) (by omega)).trans ((hb4.block (w.heap.size+1) (by omega)).trans z3);have p4: ∀o,(w4.alloc o).heap[w.heap.size]? =some (.cells #[.int .u64 h.base,.int .i64 h.cap,.int .i64 h.to,.bool h.cycle,.int .i64 h.scan,src 0,src 1,src 2,src 3,src 4] 25 (0,0)):=fun o=>(Below.heap_alloc w4 o w.heap.size (by omega)).trans ((hb4.block w.heap.size (by omega)).trans p3);have x4: ∀o j,(w4.alloc o).cell? ⟨w.heap.size,j,none⟩=(#[.int .u64 h.base,.int .i64 h.cap,.int .i64 h.to,.bool h.cycle,.int .i64 h.scan,src 0,src 1,src 2,src 3,src 4]:Array Value)[j]? :=fun o j=>cell_of_row _ _ _ _ _ _ (p4 o);have hb04: ∀o,Below w.heap.size w (w4.alloc o):=fun o=>((HB02.out.trans (HB3.out.mono (by omega))).trans (hb4.mono (by omega))).alloc (by omega) o;have m4: ∀o,(w4.alloc o).heap[w1.heap.size]? =some (.cells #[.int .u64 (layH h).base,.int .i64 (layH h).cap,.int .i64 (layH h).to,.int .i64 (layH h).low,.int .i64 (layH h).high,.int .i64 (layH h).old,.int .i64 (layH h).far] 53 (0,0)):=fun o=>(Below.heap_alloc w4 o w1.heap.size (by omega)).trans ((hb4.block w1.heap.size (by omega)).trans m3);have k4:=heap_alloc_new w4 (.cells #[.int .i64 4,.int .i64 (at_:Nat)] 91);have HB04:=Lib.hid hb04;clear hb4 hb04 z3 p3 m3 l3 z2 p2 x2 m2))
  | (go_at_call 48;go_loud (refine(Yk _ G (fun b hb=>by have:=hG b hb;simp;omega) h HH.out src (fun j hj=>(HS.out j hj).keep (fun b hb=>(HB04.out _).block b (hG b hb)) (fun _ h=>h))).mono ?_;rintro e w5 ⟨x,rfl,hb5,ho5⟩;obtain⟨a0,q0,e0⟩:=Z2 (ho5.own 0 (by omega));obtain⟨a1,q1,e1⟩:=Z2 (ho5.own 1 (by omega));obtain⟨a2,q2,e2⟩:=Z2 (ho5.own 2 (by omega));obtain⟨a3,q3,e3⟩:=Z2 (ho5.own 3 (by omega));obtain⟨a4,q4,e4⟩:=Z2 (ho5.own 4 (by omega));obtain⟨g,hg⟩:=YE (ho5.own 3 (by omega)) e3 (by omega);subst hg;unfold hpA;rw[e0,e1,e2,e3,e4];have hs5:=hb5.size;simp at hs5;have hsz4: ∀o,(w4.alloc o).heap.size=w4.heap.size+1:=fun o=>(by simp);rw[hsz4]at ho5;have hN:=ZX ho5 (by omega);unfold U4 at hN;rw[e0,e1,e2,e3,e4]at hN;have hb05: ∀o,Below w.heap.size w (w5.alloc o):=fun o=>((HB04.out _).trans (hb5.mono (by simp;omega))).alloc (by omega) o;have z6: ∀o,(w5.alloc o).heap[w.heap.size+1]? =some (.cells Z4 25 (0,0)):=fun o=>(Below.heap_alloc w5 o (w.heap.size+1) (by omega)).trans ((hb5.block (w.heap.size+1) (by simp;omega)).trans (z4 _));have k6: ∀o,(w5.alloc o).heap[w4.heap.size]? =some (.cells #[.int .i64 4,.int .i64 (at_:Nat)] 91 (0,0)):=fun o=>(Below.heap_alloc w5 o w4.heap.size (by omega)).trans ((hb5.block w4.heap.size (by simp)).trans k4);have m6: ∀o,(w5.alloc o).heap[w1.heap.size]? =some (.cells #[.int .u64 (layH h).base,.int .i64 (layH h).cap,.int .i64 (layH h).to,.int .i64 (layH h).low,.int .i64 (layH h).high,.int .i64 (layH h).old,.int .i64 (layH h).far] 53 (0,0)):=fun o=>(Below.heap_alloc w5 o w1.heap.size (by omega)).trans ((hb5.block w1.heap.size (by simp;omega)).trans (m4 _));have k6c: ∀o j,(w5.alloc o).cell? ⟨w4.heap.size,j,none⟩=(#[.int .i64 4,.int .i64 (at_:Nat)]:Array Value)[j]? :=fun o j=>cell_of_row _ _ _ _ _ _ (k6 o);have m6c: ∀o j,(w5.alloc o).cell? ⟨w1.heap.size,j,none⟩=(#[.int .u64 (layH h).base,.int .i64 (layH h).cap,.int .i64 (layH h).to,.int .i64 (layH h).low,.int .i64 (layH h).high,.int .i64 (layH h).old,.int .i64 (layH h).far]:Array Value)[j]? :=fun o j=>cell_of_row _ _ _ _ _ _ (m6 o);have nb:=hN.blk;rw[e0,e1,e2,e3,e4]at nb;have n6c: ∀j,(w5.alloc (.cells #[.int .u64 h.base,.int .i64 h.cap,.int .i64 h.to,.bool h.cycle,.int .i64 h.scan,.slice a0 (lsH h 0).length q0,.slice a1 (lsH h 1).length q1,.slice a2 (lsH h 2).length q2,.slice (some ⟨g,0,none⟩) (lsH h 3).length q3,.slice a4 (lsH h 4).length q4] 113)).cell? ⟨w5.heap.size,j,none⟩=(#[.int .u64 h.base,.int .i64 h.cap,.int .i64 h.to,.bool h.cycle,.int .i64 h.scan,.slice a0 (lsH h 0).length q0,.slice a1 (lsH h 1).length q1,.slice a2 (lsH h 2).length q2,.slice (some ⟨g,0,none⟩) (lsH h 3).length q3,.slice a4 (lsH h 4).length q4]:Array Value)[j]? :=fun j=>cell_of_row _ _ _ _ _ _ nb;have y6: ∀o j,(w5.alloc o).cell? ⟨w.heap.size+1,j,none⟩=Z4[j]? :=fun o j=>cell_of_row _ _ _ _ _ _ (z6 o);have f6: ∀o j,(w5.alloc o).frozen? ⟨w.heap.size+1,j,none⟩=false:=fun o j=>Za (z6 o);unfold Z4 at y6;have st6:FwSt w (w5.alloc (.cells #[.int .u64 h.base,.int .i64 h.cap,.int .i64 h.to,.bool h.cycle,.int .i64 h.scan,.slice a0 (lsH h 0).length q0,.slice a1 (lsH h 1).length q1,.slice a2 (lsH h 2).length q2,.slice (some ⟨g,0,none⟩) (lsH h 3).length q3,.slice a4 (lsH h 4).length q4] 113)) (w.heap.size+1) w1.heap.size w4.heap.size w5.heap.size (w4.heap.size+1) 4 (at_:Nat) h x:=⟨z6 _,m6 _,k6 _,hN,hb05 _,by omega,by omega,by omega,by omega,by simp;omega⟩;have ST6:=Lib.hid st6;have EP:=Lib.hid e3;clear st6;have HB05:=Lib.hid hb05;have HN:=Lib.hid hN;have E0:=Lib.hid e0;have E1:=Lib.hid e1;have E2:=Lib.hid e2;have E3:=Lib.hid e3;have E4:=Lib.hid e4;clear hb05 hN nb e0 e1 e2 e3 e4 ho5 hb5 z4 p4 x4 m4 k4)))
 have hpH:h.far.getD at_ 0=wd:=by show(lsH h 3).getD at_ 0=wd;simp[List.getD,hwd]
 have hpL:h.far.length=(lsH h 3).length:=rfl
 have hfw:fwd h v=(0,Hp.zero,2):=by simp[fwd,fwdC,hr,hv0,h1,hf,-List.getD_eq_getElem?_getD,hpH,hpL,hgo,hun,her,hlt]
 have y:=Zn ST10.out.res (.int .u64 0) (.int .i64 0) (.int .i64 0) (.bool false) (.int .i64 0) (.slice none 0 0) (.slice none 0 0) (.slice none 0 0) (.slice none 0 0) (.slice none 0 0)
 rw[hfw]
 refine bodyPost_ret (v:= .tuple #[.int .u64 0,.agg Z4,.int .i64 2]) ?_ rfl ?_
 ·simp[results,Try.results39,go_sem,y,Z4]
 ·refine⟨fun _=> .slice none 0 0,?_,?_,X5 _ _⟩
  ·simp[hpA,Hp.zero,Z4]
  ·exact Zi ST10.out.bel (by omega) _ _ _ _ _ _ _ _ _ _
theorem Jd(w:World)(G:Nat→Prop)(hG: ∀b,G b→b<w.heap.size)(h:Hp)(hh:h.ok)(src:Nat→Value)(hs: ∀j,j<5→Rd w G (.sl ((lsH h j).map vu)) (src j))(v:Int)(hv:U64 v)
  (hr:Z8 (layH h)=true) (hv0: ¬v=0) (h1:(adr v).2=0) (part:Int) (at_:Nat) (hf:Zx (layH h) (adr v).1=(part,(at_:Int),0)) (hp:part=4)
  (wd:Int) (hwd:(lsH h 3)[at_]? =some wd) (hat:at_< (lsH h 3).length) (hwu:U64 wd) (hgo: ¬(adr wd).2=0) (sz:Nat) (pt er:Int) (hun:unpk wd=((sz:Int),pt,er)) (hsz:sz≤255) (her:er=0) (hle:at_+(sz+1)≤(lsH h 3).length) (hrm:Y1 (layH h) < ((sz+1:Nat):Int)):
  Calls Try.prog 39 #[hpA h src,.int .u64 v] w (Yr w (fwd h v)):=by
 have HS:=Lib.hid hs
 have HH:=Lib.hid hh
 clear hs hh
 unfold hpA
 go_enter Try.func39,Try.ntmps39
 subst hp
 go_wp2_with (first
  | (go_at_call 61;go_loud (refine(Yp _ (w4.heap.size+1) w5.heap.size h x ST6.out.now HH.out 3 at_ (by omega) g q3 EP.out (by omega)).mono ?_;rintro e w7 ⟨rfl,hb7⟩;obtain⟨m,hm⟩: ∃m,(lsH h 3).length-at_=m:=⟨_,rfl⟩;obtain⟨qm,hqm⟩: ∃qm,q3-at_=qm:=⟨_,rfl⟩;rw[hm,hqm];have hm0:0<m:=(by omega);have hm0i:(0:Int) < (m:Int):=(by omega);have hat2:at_+0=at_:=rfl;have st7:=ST6.out.below hb7;have hs7:=hb7.size;simp at hs7;have res7:=st7.res;have y7: ∀j,(w7).cell? ⟨w.heap.size+1,j,none⟩=Z4[j]? :=fun j=>cell_of_row _ _ _ _ _ _ res7;unfold Z4 at y7;have f7: ∀j,(w7).frozen? ⟨w.heap.size+1,j,none⟩=false:=fun j=>Za res7;have nb7:=st7.now.blk;rw[E0.out,E1.out,E2.out,E3.out,E4.out]at nb7;have n7c: ∀j,(w7).cell? ⟨w5.heap.size,j,none⟩=(#[.int .u64 h.base,.int .i64 h.cap,.int .i64 h.to,.bool h.cycle,.int .i64 h.scan,.slice a0 (lsH h 0).length q0,.slice a1 (lsH h 1).length q1,.slice a2 (lsH h 2).length q2,.slice (some ⟨g,0,none⟩) (lsH h 3).length q3,.slice a4 (lsH h 4).length q4]:Array Value)[j]? :=fun j=>cell_of_row _ _ _ _ _ _ nb7;have k7c: ∀j,(w7).cell? ⟨w4.heap.size,j,none⟩=(#[.int .i64 4,.int .i64 (at_:Nat)]:Array Value)[j]? :=fun j=>cell_of_row _ _ _ _ _ _ st7.plc;have m7c: ∀j,(w7).cell? ⟨w1.heap.size,j,none⟩=(#[.int .u64 (layH h).base,.int .i64 (layH h).cap,.int .i64 (layH h).to,.int .i64 (layH h).low,.int .i64 (layH h).high,.int .i64 (layH h).old,.int .i64 (layH h).far]:Array Value)[j]? :=fun j=>cell_of_row _ _ _ _ _ _ st7.lay;have hop7:=st7.now.own.own 3 (by omega);rw[EP.out]at hop7;have c7:=Zm hop7 hwd;clear nb7 hop7;have ST7:=Lib.hid st7;clear hb7 st7))
  | (go_at_call 59;go_loud (have st7:=ST7.out;refine(Zk hwu _).mono ?_;rintro e w8 ⟨rfl,hb8⟩;have st8:=st7.below hb8;have hs8:=hb8.size;have res8:=st8.res;have y8: ∀j,(w8).cell? ⟨w.heap.size+1,j,none⟩=Z4[j]? :=fun j=>cell_of_row _ _ _ _ _ _ res8;unfold Z4 at y8;have f8: ∀j,(w8).frozen? ⟨w.heap.size+1,j,none⟩=false:=fun j=>Za res8;have nb8:=st8.now.blk;rw[E0.out,E1.out,E2.out,E3.out,E4.out]at nb8;have n8c: ∀j,(w8).cell? ⟨w5.heap.size,j,none⟩=(#[.int .u64 h.base,.int .i64 h.cap,.int .i64 h.to,.bool h.cycle,.int .i64 h.scan,.slice a0 (lsH h 0).length q0,.slice a1 (lsH h 1).length q1,.slice a2 (lsH h 2).length q2,.slice (some ⟨g,0,none⟩) (lsH h 3).length q3,.slice a4 (lsH h 4).length q4]:Array Value)[j]? :=fun j=>cell_of_row _ _ _ _ _ _ nb8;have k8c: ∀j,(w8).cell? ⟨w4.heap.size,j,none⟩=(#[.int .i64 4,.int .i64 (at_:Nat)]:Array Value)[j]? :=fun j=>cell_of_row _ _ _ _ _ _ st8.plc;have m8c: ∀j,(w8).cell? ⟨w1.heap.size,j,none⟩=(#[.int .u64 (layH h).base,.int .i64 (layH h).cap,.int .i64 (layH h).to,.int .i64 (layH h).low,.int .i64 (layH h).high,.int .i64 (layH h).old,.int .i64 (layH h).far]:Array Value)[j]? :=fun j=>cell_of_row _ _ _ _ _ _ st8.lay;have hop8:=st8.now.own.own 3 (by omega);rw[EP.out]at hop8;have c8:=Zm hop8 hwd;clear nb8 hop8;have ST8:=Lib.hid st8;clear hb8 st8 st7))
  | (go_at_call 62;go_loud (refine(ZM hwu _).mono ?_;rintro e w9 ⟨rfl,hb9⟩;rw[hun];dsimp only;have hs9:=hb9.size;have st10:FwSt w (w9.alloc (.cells #[.int .i64 (sz:Nat),.int .i64 pt] 47)) _ _ _ _ _ _ _ h x:=(ST8.out.below hb9).below ((Below.refl _ _).alloc (Nat.le_refl _) _);have res10:=st10.res;have y10: ∀j,((w9.alloc (.cells #[.int .i64 (sz:Nat),.int .i64 pt] 47))).cell? ⟨w.heap.size+1,j,none⟩=Z4[j]? :=fun j=>cell_of_row _ _ _ _ _ _ res10;unfold Z4 at y10;have f10: ∀j,((w9.alloc (.cells #[.int .i64 (sz:Nat),.int .i64 pt] 47))).frozen? ⟨w.heap.size+1,j,none⟩=false:=fun j=>Za res10;have nb10:=st10.now.blk;rw[E0.out,E1.out,E2.out,E3.out,E4.out]at nb10;have n10c: ∀j,((w9.alloc (.cells #[.int .i64 (sz:Nat),.int .i64 pt] 47))).cell? ⟨w5.heap.size,j,none⟩=(#[.int .u64 h.base,.int .i64 h.cap,.int .i64 h.to,.bool h.cycle,.int .i64 h.scan,.slice a0 (lsH h 0).length q0,.slice a1 (lsH h 1).length q1,.slice a2 (lsH h 2).length q2,.slice (some ⟨g,0,none⟩) (lsH h 3).length q3,.slice a4 (lsH h 4).length q4]:Array Value)[j]? :=fun j=>cell_of_row _ _ _ _ _ _ nb10;have k10c: ∀j,((w9.alloc (.cells #[.int .i64 (sz:Nat),.int .i64 pt] 47))).cell? ⟨w4.heap.size,j,none⟩=(#[.int .i64 4,.int .i64 (at_:Nat)]:Array Value)[j]? :=fun j=>cell_of_row _ _ _ _ _ _ st10.plc;have m10c: ∀j,((w9.alloc (.cells #[.int .i64 (sz:Nat),.int .i64 pt] 47))).cell? ⟨w1.heap.size,j,none⟩=(#[.int .u64 (layH h).base,.int .i64 (layH h).cap,.int .i64 (layH h).to,.int .i64 (layH h).low,.int .i64 (layH h).high,.int .i64 (layH h).old,.int .i64 (layH h).far]:Array Value)[j]? :=fun j=>cell_of_row _ _ _ _ _ _ st10.lay;have hop10:=st10.now.own.own 3 (by omega);rw[EP.out]at hop10;have c10:=Zm hop10 hwd;clear nb10 hop10;have s10c: ∀j,(w9.alloc (.cells #[.int .i64 (sz:Nat),.int .i64 pt] 47)).cell? ⟨w9.heap.size,j,none⟩=(#[.int .i64 (sz:Nat),.int .i64 pt]:Array Value)[j]? :=fun j=>cell_of_row _ _ _ _ _ _ (heap_alloc_new w9 _);have ST10:=Lib.hid st10;have hml:m≤1000000:=(by have:=YB HH.out 3;omega);have hl10:at_+m=(lsH h 3).length:=(by omega);clear hb9 st10))
  | (go_at_call 51;go_loud (refine(Zo (h:=h) (x:=src) (G:=G) (fun c hc=>by have:=hG c hc;simp;omega) (fun j hj=>(HS.out j hj).keep (fun b hb=>by have:=hG b hb;rw[Below.heap_alloc _ _ _ (by simp;omega),Below.heap_alloc _ _ _ (by omega)]) (fun _ h=>h))).mono ?_;rintro e w1 ⟨rfl,hb1⟩;unfold lyA;have z1:=(hb1.block (w.heap.size+1) (by simp)).trans (ZP w _);have p1:=(hb1.block w.heap.size (by simp;omega)).trans ((Below.heap_alloc (w.alloc (.cells #[.int .u64 h.base,.int .i64 h.cap,.int .i64 h.to,.bool h.cycle,.int .i64 h.scan,src 0,src 1,src 2,src 3,src 4] 25)) _ w.heap.size (by simp)).trans (heap_alloc_new w _));have hs1:=hb1.size;simp at hs1;have HB1:=Lib.hid hb1;clear hb1))
  | (go_at_call 43;go_loud (refine(Zt HH.out.lay _).mono ?_;rintro e w2 ⟨rfl,hb2⟩;rw[hr];have z2:=(hb2.block (w.heap.size+1) (by simp;omega)).trans ((Below.heap_alloc w1 _ (w.heap.size+1) (by omega)).trans z1);have p2:=(hb2.block w.heap.size (by simp;omega)).trans ((Below.heap_alloc w1 _ w.heap.size (by omega)).trans p1);have x2: ∀j,w2.cell? ⟨w.heap.size,j,none⟩=(#[.int .u64 h.base,.int .i64 h.cap,.int .i64 h.to,.bool h.cycle,.int .i64 h.scan,src 0,src 1,src 2,src 3,src 4]:Array Value)[j]? :=fun j=>cell_of_row _ _ _ _ _ _ p2;have hb02:Below w.heap.size w w2:=((((((Below.refl _ _).alloc (Nat.le_refl _) _).alloc (by simp) _).trans (HB1.out.mono (by simp;omega))).alloc (by omega) _).trans (hb2.mono (by simp;omega)));have hs2:=hb2.size;simp at hs2;have m2:=(hb2.block w1.heap.size (by simp)).trans (heap_alloc_new w1 _);have HB02:=Lib.hid hb02;clear hb2 hb02))
  | (go_at_call 59;go_loud (refine(Zk hv _).mono ?_;rintro e w3 ⟨rfl,hb3⟩;have z3:=(hb3.block (w.heap.size+1) (by omega)).trans z2;have p3:=(hb3.block w.heap.size (by omega)).trans p2;have m3:=(hb3.block w1.heap.size (by omega)).trans m2;have l3: ∀j,w3.cell? ⟨w1.heap.size,j,none⟩=(#[.int .u64 (layH h).base,.int .i64 (layH h).cap,.int .i64 (layH h).to,.int .i64 (layH h).low,.int .i64 (layH h).high,.int .i64 (layH h).old,.int .i64 (layH h).far]:Array Value)[j]? :=fun j=>cell_of_row _ _ _ _ _ _ m3;have hs3:=hb3.size;have HB3:=Lib.hid hb3;clear hb3))
  | (go_at_call 60;go_loud (refine(ZI HH.out.lay (VK hv) _).mono ?_;rintro e w4 ⟨rfl,hb4⟩;rw[hf];dsimp only;have hs4:=hb4.size;have z4: ∀o,(w4.alloc o).heap[w.heap.size+1]? =some (.cells Z4 25 (0,0)):=fun o=>(Below.heap_alloc w4 o (w.heap.size+1) (by omega)).trans ((hb4.block (w.heap.size+1) (by omega)).trans z3);have p4: ∀o,(w4.alloc o).heap[w.heap.size]? =some (.cells #[.int .u64 h.base,.int .i64 h.cap,.int .i64 h.to,.bool h.cycle,.int .i64 h.scan,src 0,src 1,src 2,src 3,src 4] 25 (0,0)):=fun o=>(Below.heap_alloc w4 o w.heap.size (by omega)).trans ((hb4.block w.heap.size (by omega)).trans p3);have x4: ∀o j,(w4.alloc o).cell? ⟨w.heap.size,j,none⟩=(#[.int .u64 h.base,.int .i64 h.cap,.int .i64 h.to,.bool h.cycle,.int .i64 h.scan,src 0,src 1,src 2,src 3,src 4]:Array Value)[j]? :=fun o j=>cell_of_row _ _ _ _ _ _ (p4 o);have hb04: ∀o,Below w.heap.size w (w4.alloc o):=fun o=>((HB02.out.trans (HB3.out.mono (by omega))).trans (hb4.mono (by omega))).alloc (by omega) o;have m4: ∀o,(w4.alloc o).heap[w1.heap.size]? =some (.cells #[.int .u64 (layH h).base,.int .i64 (layH h).cap,.int .i64 (layH h).to,.int .i64 (layH h).low,.int .i64 (layH h).high,.int .i64 (layH h).old,.int .i64 (layH h).far] 53 (0,0)):=fun o=>(Below.heap_alloc w4 o w1.heap.size (by omega)).trans ((hb4.block w1.heap.size (by omega)).trans m3);have k4:=heap_alloc_new w4 (.cells #[.int .i64 4,.int .i64 (at_:Nat)] 91);have HB04:=Lib.hid hb04;clear hb4 hb04 z3 p3 m3 l3 z2 p2 x2 m2))
  | (go_at_call 48;go_loud (refine(Yk _ G (fun b hb=>by have:=hG b hb;simp;omega) h HH.out src (fun j hj=>(HS.out j hj).keep (fun b hb=>(HB04.out _).block b (hG b hb)) (fun _ h=>h))).mono ?_;rintro e w5 ⟨x,rfl,hb5,ho5⟩;obtain⟨a0,q0,e0⟩:=Z2 (ho5.own 0 (by omega));obtain⟨a1,q1,e1⟩:=Z2 (ho5.own 1 (by omega));obtain⟨a2,q2,e2⟩:=Z2 (ho5.own 2 (by omega));obtain⟨a3,q3,e3⟩:=Z2 (ho5.own 3 (by omega));obtain⟨a4,q4,e4⟩:=Z2 (ho5.own 4 (by omega));obtain⟨g,hg⟩:=YE (ho5.own 3 (by omega)) e3 (by omega);subst hg;unfold hpA;rw[e0,e1,e2,e3,e4];have hs5:=hb5.size;simp at hs5;have hsz4: ∀o,(w4.alloc o).heap.size=w4.heap.size+1:=fun o=>(by simp);rw[hsz4]at ho5;have hN:=ZX ho5 (by omega);unfold U4 at hN;rw[e0,e1,e2,e3,e4]at hN;have hb05: ∀o,Below w.heap.size w (w5.alloc o):=fun o=>((HB04.out _).trans (hb5.mono (by simp;omega))).alloc (by omega) o;have z6: ∀o,(w5.alloc o).heap[w.heap.size+1]? =some (.cells Z4 25 (0,0)):=fun o=>(Below.heap_alloc w5 o (w.heap.size+1) (by omega)).trans ((hb5.block (w.heap.size+1) (by simp;omega)).trans (z4 _));have k6: ∀o,(w5.alloc o).heap[w4.heap.size]? =some (.cells #[.int .i64 4,.int .i64 (at_:Nat)] 91 (0,0)):=fun o=>(Below.heap_alloc w5 o w4.heap.size (by omega)).trans ((hb5.block w4.heap.size (by simp)).trans k4);have m6: ∀o,(w5.alloc o).heap[w1.heap.size]? =some (.cells #[.int .u64 (layH h).base,.int .i64 (layH h).cap,.int .i64 (layH h).to,.int .i64 (layH h).low,.int .i64 (layH h).high,.int .i64 (layH h).old,.int .i64 (layH h).far] 53 (0,0)):=fun o=>(Below.heap_alloc w5 o w1.heap.size (by omega)).trans ((hb5.block w1.heap.size (by simp;omega)).trans (m4 _));have k6c: ∀o j,(w5.alloc o).cell? ⟨w4.heap.size,j,none⟩=(#[.int .i64 4,.int .i64 (at_:Nat)]:Array Value)[j]? :=fun o j=>cell_of_row _ _ _ _ _ _ (k6 o);have m6c: ∀o j,(w5.alloc o).cell? ⟨w1.heap.size,j,none⟩=(#[.int .u64 (layH h).base,.int .i64 (layH h).cap,.int .i64 (layH h).to,.int .i64 (layH h).low,.int .i64 (layH h).high,.int .i64 (layH h).old,.int .i64 (layH h).far]:Array Value)[j]? :=fun o j=>cell_of_row _ _ _ _ _ _ (m6 o);have nb:=hN.blk;rw[e0,e1,e2,e3,e4]at nb;have n6c: ∀j,(w5.alloc (.cells #[.int .u64 h.base,.int .i64 h.cap,.int .i64 h.to,.bool h.cycle,.int .i64 h.scan,.slice a0 (lsH h 0).length q0,.slice a1 (lsH h 1).length q1,.slice a2 (lsH h 2).length q2,.slice (some ⟨g,0,none⟩) (lsH h 3).length q3,.slice a4 (lsH h 4).length q4] 113)).cell? ⟨w5.heap.size,j,none⟩=(#[.int .u64 h.base,.int .i64 h.cap,.int .i64 h.to,.bool h.cycle,.int .i64 h.scan,.slice a0 (lsH h 0).length q0,.slice a1 (lsH h 1).length q1,.slice a2 (lsH h 2).length q2,.slice (some ⟨g,0,none⟩) (lsH h 3).length q3,.slice a4 (lsH h 4).length q4]:Array Value)[j]? :=fun j=>cell_of_row _ _ _ _ _ _ nb;have y6: ∀o j,(w5.alloc o).cell? ⟨w.heap.size+1,j,none⟩=Z4[j]? :=fun o j=>cell_of_row _ _ _ _ _ _ (z6 o);have f6: ∀o j,(w5.alloc o).frozen? ⟨w.heap.size+1,j,none⟩=false:=fun o j=>Za (z6 o);unfold Z4 at y6;have st6:FwSt w (w5.alloc (.cells #[.int .u64 h.base,.int .i64 h.cap,.int .i64 h.to,.bool h.cycle,.int .i64 h.scan,.slice a0 (lsH h 0).length q0,.slice a1 (lsH h 1).length q1,.slice a2 (lsH h 2).length q2,.slice (some ⟨g,0,none⟩) (lsH h 3).length q3,.slice a4 (lsH h 4).length q4] 113)) (w.heap.size+1) w1.heap.size w4.heap.size w5.heap.size (w4.heap.size+1) 4 (at_:Nat) h x:=⟨z6 _,m6 _,k6 _,hN,hb05 _,by omega,by omega,by omega,by omega,by simp;omega⟩;have ST6:=Lib.hid st6;have EP:=Lib.hid e3;clear st6;have HB05:=Lib.hid hb05;have HN:=Lib.hid hN;have E0:=Lib.hid e0;have E1:=Lib.hid e1;have E2:=Lib.hid e2;have E3:=Lib.hid e3;have E4:=Lib.hid e4;clear hb05 hN nb e0 e1 e2 e3 e4 ho5 hb5 z4 p4 x4 m4 k4)))
 obtain⟨sm,hsm⟩: ∃sm:Nat,sz+1=sm:=⟨_,rfl⟩
 have hwr:IntKind.i64.wrap ((sz:Int)+1)=(sm:Int):=by rw[Z1 ((sz:Int)+1) (by omega) (by omega)];omega
 have hrm2:Y1 (layH h) < (sm:Int):=by omega
 have HSM:=Lib.hid hsm
 have HRM:=Lib.hid hrm
 have HLE:=Lib.hid hle
 clear hsm hrm hle
 have hbs:w9.heap.size< ((w9.alloc (.cells #[.int .i64 (sz:Nat),.int .i64 pt] 47))).heap.size:=by simp
 clear m7c m8c k10c k7c k8c y7 y8 f7 f8 n7c n8c c7 c8
 generalize (w9.alloc (.cells #[.int .i64 (sz:Nat),.int .i64 pt] 47))=w10 at*
 have S10:(fun w'=>w'.cell? ⟨w1.heap.size,0,none⟩=some (.int .u64 (layH h).base)∧w'.cell? ⟨w1.heap.size,1,none⟩=some (.int .i64 (layH h).cap)∧w'.cell? ⟨w1.heap.size,2,none⟩=some (.int .i64 (layH h).to)∧w'.cell? ⟨w1.heap.size,3,none⟩=some (.int .i64 (layH h).low)∧w'.cell? ⟨w1.heap.size,4,none⟩=some (.int .i64 (layH h).high)∧w'.cell? ⟨w1.heap.size,5,none⟩=some (.int .i64 (layH h).old)∧w'.cell? ⟨w1.heap.size,6,none⟩=some (.int .i64 (layH h).far)∧w'.cell? ⟨w9.heap.size,0,none⟩=some (.int .i64 (sz:Nat))∧FwSt w w' (w.heap.size+1) w1.heap.size w4.heap.size w5.heap.size (w4.heap.size+1) 4 (at_:Nat) h x∧w9.heap.size<w'.heap.size) w10.drew:=⟨m10c 0,m10c 1,m10c 2,m10c 3,m10c 4,m10c 5,m10c 6,s10c 0,ST10.out.drew,hbs⟩
 have SBel: ∀(u u':World),(fun w'=>w'.cell? ⟨w1.heap.size,0,none⟩=some (.int .u64 (layH h).base)∧w'.cell? ⟨w1.heap.size,1,none⟩=some (.int .i64 (layH h).cap)∧w'.cell? ⟨w1.heap.size,2,none⟩=some (.int .i64 (layH h).to)∧w'.cell? ⟨w1.heap.size,3,none⟩=some (.int .i64 (layH h).low)∧w'.cell? ⟨w1.heap.size,4,none⟩=some (.int .i64 (layH h).high)∧w'.cell? ⟨w1.heap.size,5,none⟩=some (.int .i64 (layH h).old)∧w'.cell? ⟨w1.heap.size,6,none⟩=some (.int .i64 (layH h).far)∧w'.cell? ⟨w9.heap.size,0,none⟩=some (.int .i64 (sz:Nat))∧FwSt w w' (w.heap.size+1) w1.heap.size w4.heap.size w5.heap.size (w4.heap.size+1) 4 (at_:Nat) h x∧w9.heap.size<w'.heap.size) u→Below u.heap.size u u'→(fun w'=>w'.cell? ⟨w1.heap.size,0,none⟩=some (.int .u64 (layH h).base)∧w'.cell? ⟨w1.heap.size,1,none⟩=some (.int .i64 (layH h).cap)∧w'.cell? ⟨w1.heap.size,2,none⟩=some (.int .i64 (layH h).to)∧w'.cell? ⟨w1.heap.size,3,none⟩=some (.int .i64 (layH h).low)∧w'.cell? ⟨w1.heap.size,4,none⟩=some (.int .i64 (layH h).high)∧w'.cell? ⟨w1.heap.size,5,none⟩=some (.int .i64 (layH h).old)∧w'.cell? ⟨w1.heap.size,6,none⟩=some (.int .i64 (layH h).far)∧w'.cell? ⟨w9.heap.size,0,none⟩=some (.int .i64 (sz:Nat))∧FwSt w w' (w.heap.size+1) w1.heap.size w4.heap.size w5.heap.size (w4.heap.size+1) 4 (at_:Nat) h x∧w9.heap.size<w'.heap.size) u':=by
  rintro u u' ⟨c0,c1,c2,c3,c4,c5,c6,c7,st,hs⟩ hb
  have hl:=st.lbB
  have hz:=st.sz
  exact⟨(hb.cell (by show w1.heap.size<u.heap.size;omega)).trans c0,(hb.cell (by show w1.heap.size<u.heap.size;omega)).trans c1,(hb.cell (by show w1.heap.size<u.heap.size;omega)).trans c2,(hb.cell (by show w1.heap.size<u.heap.size;omega)).trans c3,(hb.cell (by show w1.heap.size<u.heap.size;omega)).trans c4,(hb.cell (by show w1.heap.size<u.heap.size;omega)).trans c5,(hb.cell (by show w1.heap.size<u.heap.size;omega)).trans c6,(hb.cell hs).trans c7,st.below hb,by have:=hb.size;omega⟩
 go_region_held3 (fun w'=>w'.cell? ⟨w1.heap.size,0,none⟩=some (.int .u64 (layH h).base)∧w'.cell? ⟨w1.heap.size,1,none⟩=some (.int .i64 (layH h).cap)∧w'.cell? ⟨w1.heap.size,2,none⟩=some (.int .i64 (layH h).to)∧w'.cell? ⟨w1.heap.size,3,none⟩=some (.int .i64 (layH h).low)∧w'.cell? ⟨w1.heap.size,4,none⟩=some (.int .i64 (layH h).high)∧w'.cell? ⟨w1.heap.size,5,none⟩=some (.int .i64 (layH h).old)∧w'.cell? ⟨w1.heap.size,6,none⟩=some (.int .i64 (layH h).far)∧w'.cell? ⟨w9.heap.size,0,none⟩=some (.int .i64 (sz:Nat))∧FwSt w w' (w.heap.size+1) w1.heap.size w4.heap.size w5.heap.size (w4.heap.size+1) 4 (at_:Nat) h x∧w9.heap.size<w'.heap.size) (first|exact S10|assumption)
  (first| (go_at_call 24;refine(Wf HH.out.lay _).mono ?_;rintro e w11 ⟨rfl,hb11⟩;have S11:=SBel _ _ S10 hb11))
 obtain⟨-,-,-,-,-,-,-,c11,st11,hs11⟩:=S11
 clear S10 SBel s10c y10 f10 n10c m10c hb11 hbs
 rename_i hHeld
 clear hHeld
 have res11:=st11.res
 have y11: ∀j,(w11).cell? ⟨w.heap.size+1,j,none⟩=Z4[j]? :=fun j=>cell_of_row _ _ _ _ _ _ res11
 unfold Z4 at y11
 have f11: ∀j,(w11).frozen? ⟨w.heap.size+1,j,none⟩=false:=fun j=>Za res11
 have nb11:=st11.now.blk
 rw[E0.out,E1.out,E2.out,E3.out,E4.out]at nb11
 have n11c: ∀j,(w11).cell? ⟨w5.heap.size,j,none⟩=(#[.int .u64 h.base,.int .i64 h.cap,.int .i64 h.to,.bool h.cycle,.int .i64 h.scan,.slice a0 (lsH h 0).length q0,.slice a1 (lsH h 1).length q1,.slice a2 (lsH h 2).length q2,.slice (some ⟨g,0,none⟩) (lsH h 3).length q3,.slice a4 (lsH h 4).length q4]:Array Value)[j]? :=fun j=>cell_of_row _ _ _ _ _ _ nb11
 have k11c: ∀j,(w11).cell? ⟨w4.heap.size,j,none⟩=(#[.int .i64 4,.int .i64 (at_:Nat)]:Array Value)[j]? :=fun j=>cell_of_row _ _ _ _ _ _ st11.plc
 have m11c: ∀j,(w11).cell? ⟨w1.heap.size,j,none⟩=(#[.int .u64 (layH h).base,.int .i64 (layH h).cap,.int .i64 (layH h).to,.int .i64 (layH h).low,.int .i64 (layH h).high,.int .i64 (layH h).old,.int .i64 (layH h).far]:Array Value)[j]? :=fun j=>cell_of_row _ _ _ _ _ _ st11.lay
 have hop11:=st11.now.own.own 3 (by omega)
 rw[EP.out]at hop11
 have cw11:=Zm hop11 hwd
 clear nb11 hop11 hm hqm hat2
 have ST11:=Lib.hid st11
 clear st11
 go_wp2
 have hrmz:Y1 (layH h) < (sz:Int)+1:=by have:=HSM.out;omega
 have hpH:h.far.getD at_ 0=wd:=by show(lsH h 3).getD at_ 0=wd;simp[List.getD,hwd]
 have hpL:h.far.length=(lsH h 3).length:=rfl
 have hfw:fwd h v=(0,Hp.zero,7):=by simp[fwd,fwdC,hr,hv0,h1,hf,-List.getD_eq_getElem?_getD,hpH,hpL,hgo,hun,her,Nat.not_lt.2 HLE.out,hrmz]
 have y:=Zn ST11.out.res (.int .u64 0) (.int .i64 0) (.int .i64 0) (.bool false) (.int .i64 0) (.slice none 0 0) (.slice none 0 0) (.slice none 0 0) (.slice none 0 0) (.slice none 0 0)
 rw[hfw]
 refine bodyPost_ret (v:= .tuple #[.int .u64 0,.agg Z4,.int .i64 7]) ?_ rfl ?_
 ·simp[results,Try.results39,go_sem,y,Z4]
 ·refine⟨fun _=> .slice none 0 0,?_,?_,X5 _ _⟩
  ·simp[hpA,Hp.zero,Z4]
  ·exact Zi ST11.out.bel (by omega) _ _ _ _ _ _ _ _ _ _
theorem Si(w:World)(G:Nat→Prop)(hG: ∀b,G b→b<w.heap.size)(h:Hp)(hh:h.ok)(src:Nat→Value)(hs: ∀j,j<5→Rd w G (.sl ((lsH h j).map vu)) (src j))(v:Int)(hv:U64 v)
  (hr:Z8 (layH h)=true) (hv0: ¬v=0) (h1:(adr v).2=0) (part:Int) (at_:Nat) (hf:Zx (layH h) (adr v).1=(part,(at_:Int),0)) (hp:part=4)
  (wd:Int) (hwd:(lsH h 3)[at_]? =some wd) (hat:at_< (lsH h 3).length) (hwu:U64 wd) (hgo: ¬(adr wd).2=0) (sz:Nat) (pt er:Int) (hun:unpk wd=((sz:Int),pt,er)) (hsz:sz≤255) (her:er=0) (hle:at_+(sz+1)≤(lsH h 3).length) (hrm: ¬Y1 (layH h) < ((sz+1:Nat):Int)):
  Calls Try.prog 39 #[hpA h src,.int .u64 v] w (Yr w (fwd h v)):=by
 have HS:=Lib.hid hs
 have HH:=Lib.hid hh
 clear hs hh
 unfold hpA
 go_enter Try.func39,Try.ntmps39
 subst hp
 go_wp2_with (first
  | (go_at_call 61;go_loud (refine(Yp _ (w4.heap.size+1) w5.heap.size h x ST6.out.now HH.out 3 at_ (by omega) g q3 EP.out (by omega)).mono ?_;rintro e w7 ⟨rfl,hb7⟩;obtain⟨m,hm⟩: ∃m,(lsH h 3).length-at_=m:=⟨_,rfl⟩;obtain⟨qm,hqm⟩: ∃qm,q3-at_=qm:=⟨_,rfl⟩;rw[hm,hqm];have hm0:0<m:=(by omega);have hm0i:(0:Int) < (m:Int):=(by omega);have hat2:at_+0=at_:=rfl;have st7:=ST6.out.below hb7;have hs7:=hb7.size;simp at hs7;have res7:=st7.res;have y7: ∀j,(w7).cell? ⟨w.heap.size+1,j,none⟩=Z4[j]? :=fun j=>cell_of_row _ _ _ _ _ _ res7;unfold Z4 at y7;have f7: ∀j,(w7).frozen? ⟨w.heap.size+1,j,none⟩=false:=fun j=>Za res7;have nb7:=st7.now.blk;rw[E0.out,E1.out,E2.out,E3.out,E4.out]at nb7;have n7c: ∀j,(w7).cell? ⟨w5.heap.size,j,none⟩=(#[.int .u64 h.base,.int .i64 h.cap,.int .i64 h.to,.bool h.cycle,.int .i64 h.scan,.slice a0 (lsH h 0).length q0,.slice a1 (lsH h 1).length q1,.slice a2 (lsH h 2).length q2,.slice (some ⟨g,0,none⟩) (lsH h 3).length q3,.slice a4 (lsH h 4).length q4]:Array Value)[j]? :=fun j=>cell_of_row _ _ _ _ _ _ nb7;have k7c: ∀j,(w7).cell? ⟨w4.heap.size,j,none⟩=(#[.int .i64 4,.int .i64 (at_:Nat)]:Array Value)[j]? :=fun j=>cell_of_row _ _ _ _ _ _ st7.plc;have m7c: ∀j,(w7).cell? ⟨w1.heap.size,j,none⟩=(#[.int .u64 (layH h).base,.int .i64 (layH h).cap,.int .i64 (layH h).to,.int .i64 (layH h).low,.int .i64 (layH h).high,.int .i64 (layH h).old,.int .i64 (layH h).far]:Array Value)[j]? :=fun j=>cell_of_row _ _ _ _ _ _ st7.lay;have hop7:=st7.now.own.own 3 (by omega);rw[EP.out]at hop7;have c7:=Zm hop7 hwd;clear nb7 hop7;have ST7:=Lib.hid st7;clear hb7 st7))
  | (go_at_call 59;go_loud (have st7:=ST7.out;refine(Zk hwu _).mono ?_;rintro e w8 ⟨rfl,hb8⟩;have st8:=st7.below hb8;have hs8:=hb8.size;have res8:=st8.res;have y8: ∀j,(w8).cell? ⟨w.heap.size+1,j,none⟩=Z4[j]? :=fun j=>cell_of_row _ _ _ _ _ _ res8;unfold Z4 at y8;have f8: ∀j,(w8).frozen? ⟨w.heap.size+1,j,none⟩=false:=fun j=>Za res8;have nb8:=st8.now.blk;rw[E0.out,E1.out,E2.out,E3.out,E4.out]at nb8;have n8c: ∀j,(w8).cell? ⟨w5.heap.size,j,none⟩=(#[.int .u64 h.base,.int .i64 h.cap,.int .i64 h.to,.bool h.cycle,.int .i64 h.scan,.slice a0 (lsH h 0).length q0,.slice a1 (lsH h 1).length q1,.slice a2 (lsH h 2).length q2,.slice (some ⟨g,0,none⟩) (lsH h 3).length q3,.slice a4 (lsH h 4).length q4]:Array Value)[j]? :=fun j=>cell_of_row _ _ _ _ _ _ nb8;have k8c: ∀j,(w8).cell? ⟨w4.heap.size,j,none⟩=(#[.int .i64 4,.int .i64 (at_:Nat)]:Array Value)[j]? :=fun j=>cell_of_row _ _ _ _ _ _ st8.plc;have m8c: ∀j,(w8).cell? ⟨w1.heap.size,j,none⟩=(#[.int .u64 (layH h).base,.int .i64 (layH h).cap,.int .i64 (layH h).to,.int .i64 (layH h).low,.int .i64 (layH h).high,.int .i64 (layH h).old,.int .i64 (layH h).far]:Array Value)[j]? :=fun j=>cell_of_row _ _ _ _ _ _ st8.lay;have hop8:=st8.now.own.own 3 (by omega);rw[EP.out]at hop8;have c8:=Zm hop8 hwd;clear nb8 hop8;have ST8:=Lib.hid st8;clear hb8 st8 st7))
  | (go_at_call 62;go_loud (refine(ZM hwu _).mono ?_;rintro e w9 ⟨rfl,hb9⟩;rw[hun];dsimp only;have hs9:=hb9.size;have st10:FwSt w (w9.alloc (.cells #[.int .i64 (sz:Nat),.int .i64 pt] 47)) _ _ _ _ _ _ _ h x:=(ST8.out.below hb9).below ((Below.refl _ _).alloc (Nat.le_refl _) _);have res10:=st10.res;have y10: ∀j,((w9.alloc (.cells #[.int .i64 (sz:Nat),.int .i64 pt] 47))).cell? ⟨w.heap.size+1,j,none⟩=Z4[j]? :=fun j=>cell_of_row _ _ _ _ _ _ res10;unfold Z4 at y10;have f10: ∀j,((w9.alloc (.cells #[.int .i64 (sz:Nat),.int .i64 pt] 47))).frozen? ⟨w.heap.size+1,j,none⟩=false:=fun j=>Za res10;have nb10:=st10.now.blk;rw[E0.out,E1.out,E2.out,E3.out,E4.out]at nb10;have n10c: ∀j,((w9.alloc (.cells #[.int .i64 (sz:Nat),.int .i64 pt] 47))).cell? ⟨w5.heap.size,j,none⟩=(#[.int .u64 h.base,.int .i64 h.cap,.int .i64 h.to,.bool h.cycle,.int .i64 h.scan,.slice a0 (lsH h 0).length q0,.slice a1 (lsH h 1).length q1,.slice a2 (lsH h 2).length q2,.slice (some ⟨g,0,none⟩) (lsH h 3).length q3,.slice a4 (lsH h 4).length q4]:Array Value)[j]? :=fun j=>cell_of_row _ _ _ _ _ _ nb10;have k10c: ∀j,((w9.alloc (.cells #[.int .i64 (sz:Nat),.int .i64 pt] 47))).cell? ⟨w4.heap.size,j,none⟩=(#[.int .i64 4,.int .i64 (at_:Nat)]:Array Value)[j]? :=fun j=>cell_of_row _ _ _ _ _ _ st10.plc;have m10c: ∀j,((w9.alloc (.cells #[.int .i64 (sz:Nat),.int .i64 pt] 47))).cell? ⟨w1.heap.size,j,none⟩=(#[.int .u64 (layH h).base,.int .i64 (layH h).cap,.int .i64 (layH h).to,.int .i64 (layH h).low,.int .i64 (layH h).high,.int .i64 (layH h).old,.int .i64 (layH h).far]:Array Value)[j]? :=fun j=>cell_of_row _ _ _ _ _ _ st10.lay;have hop10:=st10.now.own.own 3 (by omega);rw[EP.out]at hop10;have c10:=Zm hop10 hwd;clear nb10 hop10;have s10c: ∀j,(w9.alloc (.cells #[.int .i64 (sz:Nat),.int .i64 pt] 47)).cell? ⟨w9.heap.size,j,none⟩=(#[.int .i64 (sz:Nat),.int .i64 pt]:Array Value)[j]? :=fun j=>cell_of_row _ _ _ _ _ _ (heap_alloc_new w9 _);have ST10:=Lib.hid st10;have hml:m≤1000000:=(by have:=YB HH.out 3;omega);have hl10:at_+m=(lsH h 3).length:=(by omega);clear hb9 st10))
  | (go_at_call 51;go_loud (refine(Zo (h:=h) (x:=src) (G:=G) (fun c hc=>by have:=hG c hc;simp;omega) (fun j hj=>(HS.out j hj).keep (fun b hb=>by have:=hG b hb;rw[Below.heap_alloc _ _ _ (by simp;omega),Below.heap_alloc _ _ _ (by omega)]) (fun _ h=>h))).mono ?_;rintro e w1 ⟨rfl,hb1⟩;unfold lyA;have z1:=(hb1.block (w.heap.size+1) (by simp)).trans (ZP w _);have p1:=(hb1.block w.heap.size (by simp;omega)).trans ((Below.heap_alloc (w.alloc (.cells #[.int .u64 h.base,.int .i64 h.cap,.int .i64 h.to,.bool h.cycle,.int .i64 h.scan,src 0,src 1,src 2,src 3,src 4] 25)) _ w.heap.size (by simp)).trans (heap_alloc_new w _));have hs1:=hb1.size;simp at hs1;have HB1:=Lib.hid hb1;clear hb1))
  | (go_at_call 43;go_loud (refine(Zt HH.out.lay _).mono ?_;rintro e w2 ⟨rfl,hb2⟩;rw[hr];have z2:=(hb2.block (w.heap.size+1) (by simp;omega)).trans ((Below.heap_alloc w1 _ (w.heap.size+1) (by omega)).trans z1);have p2:=(hb2.block w.heap.size (by simp;omega)).trans ((Below.heap_alloc w1 _ w.heap.size (by omega)).trans p1);have x2: ∀j,w2.cell? ⟨w.heap.size,j,none⟩=(#[.int .u64 h.base,.int .i64 h.cap,.int .i64 h.to,.bool h.cycle,.int .i64 h.scan,src 0,src 1,src 2,src 3,src 4]:Array Value)[j]? :=fun j=>cell_of_row _ _ _ _ _ _ p2;have hb02:Below w.heap.size w w2:=((((((Below.refl _ _).alloc (Nat.le_refl _) _).alloc (by simp) _).trans (HB1.out.mono (by simp;omega))).alloc (by omega) _).trans (hb2.mono (by simp;omega)));have hs2:=hb2.size;simp at hs2;have m2:=(hb2.block w1.heap.size (by simp)).trans (heap_alloc_new w1 _);have HB02:=Lib.hid hb02;clear hb2 hb02))
  | (go_at_call 59;go_loud (refine(Zk hv _).mono ?_;rintro e w3 ⟨rfl,hb3⟩;have z3:=(hb3.block (w.heap.size+1) (by omega)).trans z2;have p3:=(hb3.block w.heap.size (by omega)).trans p2;have m3:=(hb3.block w1.heap.size (by omega)).trans m2;have l3: ∀j,w3.cell? ⟨w1.heap.size,j,none⟩=(#[.int .u64 (layH h).base,.int .i64 (layH h).cap,.int .i64 (layH h).to,.int .i64 (layH h).low,.int .i64 (layH h).high,.int .i64 (layH h).old,.int .i64 (layH h).far]:Array Value)[j]? :=fun j=>cell_of_row _ _ _ _ _ _ m3;have hs3:=hb3.size;have HB3:=Lib.hid hb3;clear hb3))
  | (go_at_call 60;go_loud (refine(ZI HH.out.lay (VK hv) _).mono ?_;rintro e w4 ⟨rfl,hb4⟩;rw[hf];dsimp only;have hs4:=hb4.size;have z4: ∀o,(w4.alloc o).heap[w.heap.size+1]? =some (.cells Z4 25 (0,0)):=fun o=>(Below.heap_alloc w4 o (w.heap.size+1) (by omega)).trans ((hb4.block (w.heap.size+1) (by omega)).trans z3);have p4: ∀o,(w4.alloc o).heap[w.heap.size]? =some (.cells #[.int .u64 h.base,.int .i64 h.cap,.int .i64 h.to,.bool h.cycle,.int .i64 h.scan,src 0,src 1,src 2,src 3,src 4] 25 (0,0)):=fun o=>(Below.heap_alloc w4 o w.heap.size (by omega)).trans ((hb4.block w.heap.size (by omega)).trans p3);have x4: ∀o j,(w4.alloc o).cell? ⟨w.heap.size,j,none⟩=(#[.int .u64 h.base,.int .i64 h.cap,.int .i64 h.to,.bool h.cycle,.int .i64 h.scan,src 0,src 1,src 2,src 3,src 4]:Array Value)[j]? :=fun o j=>cell_of_row _ _ _ _ _ _ (p4 o);have hb04: ∀o,Below w.heap.size w (w4.alloc o):=fun o=>((HB02.out.trans (HB3.out.mono (by omega))).trans (hb4.mono (by omega))).alloc (by omega) o;have m4: ∀o,(w4.alloc o).heap[w1.heap.size]? =some (.cells #[.int .u64 (layH h).base,.int .i64 (layH h).cap,.int .i64 (layH h).to,.int .i64 (layH h).low,.int .i64 (layH h).high,.int .i64 (layH h).old,.int .i64 (layH h).far] 53 (0,0)):=fun o=>(Below.heap_alloc w4 o w1.heap.size (by omega)).trans ((hb4.block w1.heap.size (by omega)).trans m3);have k4:=heap_alloc_new w4 (.cells #[.int .i64 4,.int .i64 (at_:Nat)] 91);have HB04:=Lib.hid hb04;clear hb4 hb04 z3 p3 m3 l3 z2 p2 x2 m2))
  | (go_at_call 48;go_loud (refine(Yk _ G (fun b hb=>by have:=hG b hb;simp;omega) h HH.out src (fun j hj=>(HS.out j hj).keep (fun b hb=>(HB04.out _).block b (hG b hb)) (fun _ h=>h))).mono ?_;rintro e w5 ⟨x,rfl,hb5,ho5⟩;obtain⟨a0,q0,e0⟩:=Z2 (ho5.own 0 (by omega));obtain⟨a1,q1,e1⟩:=Z2 (ho5.own 1 (by omega));obtain⟨a2,q2,e2⟩:=Z2 (ho5.own 2 (by omega));obtain⟨a3,q3,e3⟩:=Z2 (ho5.own 3 (by omega));obtain⟨a4,q4,e4⟩:=Z2 (ho5.own 4 (by omega));obtain⟨g,hg⟩:=YE (ho5.own 3 (by omega)) e3 (by omega);subst hg;unfold hpA;rw[e0,e1,e2,e3,e4];have hs5:=hb5.size;simp at hs5;have hsz4: ∀o,(w4.alloc o).heap.size=w4.heap.size+1:=fun o=>(by simp);rw[hsz4]at ho5;have hN:=ZX ho5 (by omega);unfold U4 at hN;rw[e0,e1,e2,e3,e4]at hN;have hb05: ∀o,Below w.heap.size w (w5.alloc o):=fun o=>((HB04.out _).trans (hb5.mono (by simp;omega))).alloc (by omega) o;have z6: ∀o,(w5.alloc o).heap[w.heap.size+1]? =some (.cells Z4 25 (0,0)):=fun o=>(Below.heap_alloc w5 o (w.heap.size+1) (by omega)).trans ((hb5.block (w.heap.size+1) (by simp;omega)).trans (z4 _));have k6: ∀o,(w5.alloc o).heap[w4.heap.size]? =some (.cells #[.int .i64 4,.int .i64 (at_:Nat)] 91 (0,0)):=fun o=>(Below.heap_alloc w5 o w4.heap.size (by omega)).trans ((hb5.block w4.heap.size (by simp)).trans k4);have m6: ∀o,(w5.alloc o).heap[w1.heap.size]? =some (.cells #[.int .u64 (layH h).base,.int .i64 (layH h).cap,.int .i64 (layH h).to,.int .i64 (layH h).low,.int .i64 (layH h).high,.int .i64 (layH h).old,.int .i64 (layH h).far] 53 (0,0)):=fun o=>(Below.heap_alloc w5 o w1.heap.size (by omega)).trans ((hb5.block w1.heap.size (by simp;omega)).trans (m4 _));have k6c: ∀o j,(w5.alloc o).cell? ⟨w4.heap.size,j,none⟩=(#[.int .i64 4,.int .i64 (at_:Nat)]:Array Value)[j]? :=fun o j=>cell_of_row _ _ _ _ _ _ (k6 o);have m6c: ∀o j,(w5.alloc o).cell? ⟨w1.heap.size,j,none⟩=(#[.int .u64 (layH h).base,.int .i64 (layH h).cap,.int .i64 (layH h).to,.int .i64 (layH h).low,.int .i64 (layH h).high,.int .i64 (layH h).old,.int .i64 (layH h).far]:Array Value)[j]? :=fun o j=>cell_of_row _ _ _ _ _ _ (m6 o);have nb:=hN.blk;rw[e0,e1,e2,e3,e4]at nb;have n6c: ∀j,(w5.alloc (.cells #[.int .u64 h.base,.int .i64 h.cap,.int .i64 h.to,.bool h.cycle,.int .i64 h.scan,.slice a0 (lsH h 0).length q0,.slice a1 (lsH h 1).length q1,.slice a2 (lsH h 2).length q2,.slice (some ⟨g,0,none⟩) (lsH h 3).length q3,.slice a4 (lsH h 4).length q4] 113)).cell? ⟨w5.heap.size,j,none⟩=(#[.int .u64 h.base,.int .i64 h.cap,.int .i64 h.to,.bool h.cycle,.int .i64 h.scan,.slice a0 (lsH h 0).length q0,.slice a1 (lsH h 1).length q1,.slice a2 (lsH h 2).length q2,.slice (some ⟨g,0,none⟩) (lsH h 3).length q3,.slice a4 (lsH h 4).length q4]:Array Value)[j]? :=fun j=>cell_of_row _ _ _ _ _ _ nb;have y6: ∀o j,(w5.alloc o).cell? ⟨w.heap.size+1,j,none⟩=Z4[j]? :=fun o j=>cell_of_row _ _ _ _ _ _ (z6 o);have f6: ∀o j,(w5.alloc o).frozen? ⟨w.heap.size+1,j,none⟩=false:=fun o j=>Za (z6 o);unfold Z4 at y6;have st6:FwSt w (w5.alloc (.cells #[.int .u64 h.base,.int .i64 h.cap,.int .i64 h.to,.bool h.cycle,.int .i64 h.scan,.slice a0 (lsH h 0).length q0,.slice a1 (lsH h 1).length q1,.slice a2 (lsH h 2).length q2,.slice (some ⟨g,0,none⟩) (lsH h 3).length q3,.slice a4 (lsH h 4).length q4] 113)) (w.heap.size+1) w1.heap.size w4.heap.size w5.heap.size (w4.heap.size+1) 4 (at_:Nat) h x:=⟨z6 _,m6 _,k6 _,hN,hb05 _,by omega,by omega,by omega,by omega,by simp;omega⟩;have ST6:=Lib.hid st6;have EP:=Lib.hid e3;clear st6;have HB05:=Lib.hid hb05;have HN:=Lib.hid hN;have E0:=Lib.hid e0;have E1:=Lib.hid e1;have E2:=Lib.hid e2;have E3:=Lib.hid e3;have E4:=Lib.hid e4;clear hb05 hN nb e0 e1 e2 e3 e4 ho5 hb5 z4 p4 x4 m4 k4)))
 obtain⟨sm,hsm⟩: ∃sm:Nat,sz+1=sm:=⟨_,rfl⟩
 have hwr:IntKind.i64.wrap ((sz:Int)+1)=(sm:Int):=by rw[Z1 ((sz:Int)+1) (by omega) (by omega)];omega
 have hrm2: ¬(Y1 (layH h) < (sm:Int)):=by omega
 have hopc:=ST10.out.now.own.own 3 (by omega)
 rw[EP.out]at hopc
 have hcap:=zT hopc (by omega)
 have hsm1:(sm:Int)≤(qm:Int):=by omega
 have hsm0:(0:Int)≤(sm:Int):=by omega
 clear hopc
 have HSM:=Lib.hid hsm
 have HRM:=Lib.hid hrm
 have HLE:=Lib.hid hle
 clear hsm hrm hle
 have hbs:w9.heap.size< ((w9.alloc (.cells #[.int .i64 (sz:Nat),.int .i64 pt] 47))).heap.size:=by simp
 clear m7c m8c k10c k7c k8c y7 y8 f7 f8 n7c n8c c7 c8
 generalize (w9.alloc (.cells #[.int .i64 (sz:Nat),.int .i64 pt] 47))=w10 at*
 have S10:(fun w'=>w'.cell? ⟨w1.heap.size,0,none⟩=some (.int .u64 (layH h).base)∧w'.cell? ⟨w1.heap.size,1,none⟩=some (.int .i64 (layH h).cap)∧w'.cell? ⟨w1.heap.size,2,none⟩=some (.int .i64 (layH h).to)∧w'.cell? ⟨w1.heap.size,3,none⟩=some (.int .i64 (layH h).low)∧w'.cell? ⟨w1.heap.size,4,none⟩=some (.int .i64 (layH h).high)∧w'.cell? ⟨w1.heap.size,5,none⟩=some (.int .i64 (layH h).old)∧w'.cell? ⟨w1.heap.size,6,none⟩=some (.int .i64 (layH h).far)∧w'.cell? ⟨w9.heap.size,0,none⟩=some (.int .i64 (sz:Nat))∧FwSt w w' (w.heap.size+1) w1.heap.size w4.heap.size w5.heap.size (w4.heap.size+1) 4 (at_:Nat) h x∧w9.heap.size<w'.heap.size) w10.drew:=⟨m10c 0,m10c 1,m10c 2,m10c 3,m10c 4,m10c 5,m10c 6,s10c 0,ST10.out.drew,hbs⟩
 have SBel: ∀(u u':World),(fun w'=>w'.cell? ⟨w1.heap.size,0,none⟩=some (.int .u64 (layH h).base)∧w'.cell? ⟨w1.heap.size,1,none⟩=some (.int .i64 (layH h).cap)∧w'.cell? ⟨w1.heap.size,2,none⟩=some (.int .i64 (layH h).to)∧w'.cell? ⟨w1.heap.size,3,none⟩=some (.int .i64 (layH h).low)∧w'.cell? ⟨w1.heap.size,4,none⟩=some (.int .i64 (layH h).high)∧w'.cell? ⟨w1.heap.size,5,none⟩=some (.int .i64 (layH h).old)∧w'.cell? ⟨w1.heap.size,6,none⟩=some (.int .i64 (layH h).far)∧w'.cell? ⟨w9.heap.size,0,none⟩=some (.int .i64 (sz:Nat))∧FwSt w w' (w.heap.size+1) w1.heap.size w4.heap.size w5.heap.size (w4.heap.size+1) 4 (at_:Nat) h x∧w9.heap.size<w'.heap.size) u→Below u.heap.size u u'→(fun w'=>w'.cell? ⟨w1.heap.size,0,none⟩=some (.int .u64 (layH h).base)∧w'.cell? ⟨w1.heap.size,1,none⟩=some (.int .i64 (layH h).cap)∧w'.cell? ⟨w1.heap.size,2,none⟩=some (.int .i64 (layH h).to)∧w'.cell? ⟨w1.heap.size,3,none⟩=some (.int .i64 (layH h).low)∧w'.cell? ⟨w1.heap.size,4,none⟩=some (.int .i64 (layH h).high)∧w'.cell? ⟨w1.heap.size,5,none⟩=some (.int .i64 (layH h).old)∧w'.cell? ⟨w1.heap.size,6,none⟩=some (.int .i64 (layH h).far)∧w'.cell? ⟨w9.heap.size,0,none⟩=some (.int .i64 (sz:Nat))∧FwSt w w' (w.heap.size+1) w1.heap.size w4.heap.size w5.heap.size (w4.heap.size+1) 4 (at_:Nat) h x∧w9.heap.size<w'.heap.size) u':=by
  rintro u u' ⟨c0,c1,c2,c3,c4,c5,c6,c7,st,hs⟩ hb
  have hl:=st.lbB
  have hz:=st.sz
  exact⟨(hb.cell (by show w1.heap.size<u.heap.size;omega)).trans c0,(hb.cell (by show w1.heap.size<u.heap.size;omega)).trans c1,(hb.cell (by show w1.heap.size<u.heap.size;omega)).trans c2,(hb.cell (by show w1.heap.size<u.heap.size;omega)).trans c3,(hb.cell (by show w1.heap.size<u.heap.size;omega)).trans c4,(hb.cell (by show w1.heap.size<u.heap.size;omega)).trans c5,(hb.cell (by show w1.heap.size<u.heap.size;omega)).trans c6,(hb.cell hs).trans c7,st.below hb,by have:=hb.size;omega⟩
 go_region_held3 (fun w'=>w'.cell? ⟨w1.heap.size,0,none⟩=some (.int .u64 (layH h).base)∧w'.cell? ⟨w1.heap.size,1,none⟩=some (.int .i64 (layH h).cap)∧w'.cell? ⟨w1.heap.size,2,none⟩=some (.int .i64 (layH h).to)∧w'.cell? ⟨w1.heap.size,3,none⟩=some (.int .i64 (layH h).low)∧w'.cell? ⟨w1.heap.size,4,none⟩=some (.int .i64 (layH h).high)∧w'.cell? ⟨w1.heap.size,5,none⟩=some (.int .i64 (layH h).old)∧w'.cell? ⟨w1.heap.size,6,none⟩=some (.int .i64 (layH h).far)∧w'.cell? ⟨w9.heap.size,0,none⟩=some (.int .i64 (sz:Nat))∧FwSt w w' (w.heap.size+1) w1.heap.size w4.heap.size w5.heap.size (w4.heap.size+1) 4 (at_:Nat) h x∧w9.heap.size<w'.heap.size) (first|exact S10|assumption)
  (first| (go_at_call 24;refine(Wf HH.out.lay _).mono ?_;rintro e w11 ⟨rfl,hb11⟩;have S11:=SBel _ _ S10 hb11))
 obtain⟨-,-,-,-,-,-,-,c11,st11,hs11⟩:=S11
 clear S10 SBel s10c y10 f10 n10c m10c hb11 hbs
 rename_i hHeld
 clear hHeld
 have res11:=st11.res
 have y11: ∀j,(w11).cell? ⟨w.heap.size+1,j,none⟩=Z4[j]? :=fun j=>cell_of_row _ _ _ _ _ _ res11
 unfold Z4 at y11
 have f11: ∀j,(w11).frozen? ⟨w.heap.size+1,j,none⟩=false:=fun j=>Za res11
 have nb11:=st11.now.blk
 rw[E0.out,E1.out,E2.out,E3.out,E4.out]at nb11
 have n11c: ∀j,(w11).cell? ⟨w5.heap.size,j,none⟩=(#[.int .u64 h.base,.int .i64 h.cap,.int .i64 h.to,.bool h.cycle,.int .i64 h.scan,.slice a0 (lsH h 0).length q0,.slice a1 (lsH h 1).length q1,.slice a2 (lsH h 2).length q2,.slice (some ⟨g,0,none⟩) (lsH h 3).length q3,.slice a4 (lsH h 4).length q4]:Array Value)[j]? :=fun j=>cell_of_row _ _ _ _ _ _ nb11
 have k11c: ∀j,(w11).cell? ⟨w4.heap.size,j,none⟩=(#[.int .i64 4,.int .i64 (at_:Nat)]:Array Value)[j]? :=fun j=>cell_of_row _ _ _ _ _ _ st11.plc
 have m11c: ∀j,(w11).cell? ⟨w1.heap.size,j,none⟩=(#[.int .u64 (layH h).base,.int .i64 (layH h).cap,.int .i64 (layH h).to,.int .i64 (layH h).low,.int .i64 (layH h).high,.int .i64 (layH h).old,.int .i64 (layH h).far]:Array Value)[j]? :=fun j=>cell_of_row _ _ _ _ _ _ st11.lay
 have hop11:=st11.now.own.own 3 (by omega)
 rw[EP.out]at hop11
 have cw11:=Zm hop11 hwd
 clear nb11 hop11 hm hqm hat2
 have ST11:=Lib.hid st11
 clear st11
 have hsm:=HSM.out
 have hrm:=HRM.out
 have hle:=HLE.out
 have hpH:h.far.getD at_ 0=wd:=by show(lsH h 3).getD at_ 0=wd;simp[List.getD,hwd]
 have hpL:h.far.length=(lsH h 3).length:=rfl
 have hrmz: ¬Y1 (layH h) < (sz:Int)+1:=by omega
 have hfw:fwd h v=(toOf h 4 at_ sm,Ya (ZE h 4 at_ sm) 4 ((zr (lsH h 3) at_ sm).set at_ (toOf h 4 at_ sm)),0):=by
  subst hsm
  simp only[fwd,hr,hv0,h1,hf,if_false,if_true,Bool.true_eq_false,ne_eq,not_true_eq_false]
  simp[-List.getD_eq_getElem?_getD,hpH,hgo,hun,her,fwdC,hpL,Nat.not_lt.2 hle,hrmz]
  exact⟨rfl,rfl⟩
 have HC:=Lib.hid (SU w11 (w4.heap.size+1) w5.heap.size h x ST11.out.now ST11.out.sz HH.out 3 at_ sm (by omega) (by omega) (by omega) (by omega) g q3 EP.out (by omega) qm)
 have HFW:=Lib.hid hfw
 clear hsm hrm hle hfw hpH hpL hrmz
 have HRES:=Lib.hid res11
 go_wp2_with (first| (go_at_call 63;go_loud (refine HC.out.mono ?_;rintro e w12 ⟨x',rfl,hb12,hN12⟩;have res12:=(hb12.block _ ST11.out.rbB).trans HRES.out;have hbel:=ST11.out.bel.trans (hb12.mono (by have:=ST11.out.old;have:=ST11.out.rbB;omega));obtain⟨b0,r0,g0⟩:=Z2 (hN12.own.own 0 (by omega));obtain⟨b1,r1,g1⟩:=Z2 (hN12.own.own 1 (by omega));obtain⟨b2,r2,g2⟩:=Z2 (hN12.own.own 2 (by omega));obtain⟨b3,r3,g3⟩:=Z2 (hN12.own.own 3 (by omega));obtain⟨b4,r4,g4⟩:=Z2 (hN12.own.own 4 (by omega));have nb12:=hN12.blk;have e1:fwd h v=(toOf h 4 at_ sm,_,0):=HFW.out;have e2:toOf h (((3:Nat):Int)+1) at_ sm=toOf h 4 at_ sm:=rfl;rw[e2]at hN12 nb12 g0 g1 g2 g3 g4;rw[e2];generalize hto:toOf h 4 at_ sm=to at*;have e3:Ya (ZE h (((3:Nat):Int)+1) at_ sm) (((3:Nat):Int)+1) ((zr (lsH h 3) at_ sm).set at_ to)=Ya (ZE h 4 at_ sm) 4 ((zr (lsH h 3) at_ sm).set at_ to):=rfl;rw[e3]at hN12 nb12 g0 g1 g2 g3 g4;generalize Ya (ZE h 4 at_ sm) 4 ((zr (lsH h 3) at_ sm).set at_ to)=h' at*;rw[g0,g1,g2,g3,g4]at nb12)))
 have y12: ∀j,w12.cell? ⟨w.heap.size+1,j,none⟩=Z4[j]? :=fun j=>cell_of_row _ _ _ _ _ _ res12
 unfold Z4 at y12
 have f12: ∀j,w12.frozen? ⟨w.heap.size+1,j,none⟩=false:=fun j=>Za res12
 have n12c: ∀j,w12.cell? ⟨w5.heap.size,j,none⟩=(#[.int .u64 h'.base,.int .i64 h'.cap,.int .i64 h'.to,.bool h'.cycle,.int .i64 h'.scan,.slice b0 (lsH h' 0).length r0,.slice b1 (lsH h' 1).length r1,.slice b2 (lsH h' 2).length r2,.slice b3 (lsH h' 3).length r3,.slice b4 (lsH h' 4).length r4]:Array Value)[j]? :=fun j=>cell_of_row _ _ _ _ _ _ nb12
 have hs12:=hbel.size
 have hB12:w4.heap.size+1≤w12.heap.size:=by have:=hb12.size;have:=ST11.out.sz;omega
 have HN12:=Lib.hid hN12
 have HBEL:=Lib.hid hbel
 have RES12:=Lib.hid res12
 have G0:=Lib.hid g0
 have G1:=Lib.hid g1
 have G2:=Lib.hid g2
 have G3:=Lib.hid g3
 have G4:=Lib.hid g4
 clear nb12 hN12 hbel hb12 res12 g0 g1 g2 g3 g4 y11 f11 n11c k11c m11c
 go_region
 all_goals
  go_wp2
  try simp only[Exit.inBlock,Exit.then]
  have y:=Zn RES12.out (.int .u64 h'.base) (.int .i64 h'.cap) (.int .i64 h'.to) (.bool h'.cycle) (.int .i64 h'.scan) (.slice b0 (lsH h' 0).length r0) (.slice b1 (lsH h' 1).length r1) (.slice b2 (lsH h' 2).length r2) (.slice b3 (lsH h' 3).length r3) (.slice b4 (lsH h' 4).length r4)
  rw[HFW.out]
  refine bodyPost_ret (v:= .tuple #[.int .u64 to,hpA h' x',.int .i64 0]) ?_ rfl ?_
  ·unfold hpA;rw[G0.out,G1.out,G2.out,G3.out,G4.out];simp[results,Try.results39,go_sem,y]
  ·refine⟨x',rfl,?_,?_⟩
   ·exact(Zi HBEL.out (by omega) _ _ _ _ _ _ _ _ _ _).drew
   ·refine⟨fun j hj=> ?_,HN12.out.own.apart⟩
    have ho:=HN12.out.own.own j hj
    refine Uv (Zp ho ?_) ?_
    ·intro c hc
     have hc1:=(ho.lt c hc).1
     exact Yw (by omega) _ _ _ _ _ _ _ _ _ _
    ·intro c h1 h2
     exact⟨by omega,h2⟩
theorem Ru(w:World)(G:Nat→Prop)(hG: ∀b,G b→b<w.heap.size)(h:Hp)(hh:h.ok)(src:Nat→Value)(hs: ∀j,j<5→Rd w G (.sl ((lsH h j).map vu)) (src j))(v:Int)(hv:U64 v)
  (hr:Z8 (layH h)=true) (hv0: ¬v=0) (h1:(adr v).2=0) (h2:(Zx (layH h) (adr v).1).2.2=0):
  Calls Try.prog 39 #[hpA h src,.int .u64 v] w (Yr w (fwd h v)):=by
 obtain⟨_,f1,f2,f3,f4,_⟩:=KX h2
 rw[Yo ⟨f1,f2⟩]at f4
 obtain⟨k,hk⟩:=Int.eq_ofNat_of_zero_le f3
 have hf:Zx (layH h) (adr v).1=((Zx (layH h) (adr v).1).1,(k:Int),0):=by rw[←hk,←h2]
 rw[hk]at f4
 generalize (Zx (layH h) (adr v).1).1=part at*
 have:part=1∨part=2∨part=3∨part=4:=by omega
 rcases this with hp|hp|hp|hp
 ·exact Ro w G hG h hh src hs v hv hr hv0 h1 part k hf hp
 ·exact R9 w G hG h hh src hs v hv hr hv0 h1 part k hf hp
 ·subst hp
  have hat:k< (lsH h 2).length:=by
   have:((Z9 h 3).length:Int)=(lsH h 2).length:=rfl
   omega
  have hwd:(lsH h 2)[k]? =some (lsH h 2)[k]:=List.getElem?_eq_getElem hat
  have hwu:U64 (lsH h 2)[k]:=(Zg hh 3).1 _ (List.getElem_mem hat)
  generalize (lsH h 2)[k]=wd at*
  by_cases hgo:(adr wd).2=0
  ·exact SY w G hG h hh src hs v hv hr hv0 h1 3 k hf rfl wd hwd hat hwu hgo
  obtain⟨sz,pt,er,hun⟩: ∃sz pt er,unpk wd=(sz,pt,er):=⟨_,_,_,rfl⟩
  by_cases her:er=0
  ·have hu:=Z6.1 (Vk (w:=wd) (by rw[hun];exact her))
   rw[hun]at hu
   obtain⟨n,hn⟩:=Int.eq_ofNat_of_zero_le hu.1
   simp only at hn
   subst hn
   have hn5:n≤255:=by have:=hu.2.1;simp only at this;omega
   by_cases hlt:(lsH h 2).length<k+(n+1)
   ·exact Sk w G hG h hh src hs v hv hr hv0 h1 3 k hf rfl wd hwd hat hwu hgo n pt er hun hn5 her hlt
   by_cases hrm:Y1 (layH h) < ((n+1:Nat):Int)
   ·exact Ji w G hG h hh src hs v hv hr hv0 h1 3 k hf rfl wd hwd hat hwu hgo n pt er hun hn5 her (by omega) hrm
   ·exact Sd w G hG h hh src hs v hv hr hv0 h1 3 k hf rfl wd hwd hat hwu hgo n pt er hun hn5 her (by omega) hrm
  ·exact RP w G hG h hh src hs v hv hr hv0 h1 3 k hf rfl wd hwd hat hwu hgo sz pt er hun her
 ·subst hp
  have hat:k< (lsH h 3).length:=by
   have:((Z9 h 4).length:Int)=(lsH h 3).length:=rfl
   omega
  have hwd:(lsH h 3)[k]? =some (lsH h 3)[k]:=List.getElem?_eq_getElem hat
  have hwu:U64 (lsH h 3)[k]:=(Zg hh 4).1 _ (List.getElem_mem hat)
  generalize (lsH h 3)[k]=wd at*
  by_cases hgo:(adr wd).2=0
  ·exact R1 w G hG h hh src hs v hv hr hv0 h1 4 k hf rfl wd hwd hat hwu hgo
  obtain⟨sz,pt,er,hun⟩: ∃sz pt er,unpk wd=(sz,pt,er):=⟨_,_,_,rfl⟩
  by_cases her:er=0
  ·have hu:=Z6.1 (Vk (w:=wd) (by rw[hun];exact her))
   rw[hun]at hu
   obtain⟨n,hn⟩:=Int.eq_ofNat_of_zero_le hu.1
   simp only at hn
   subst hn
   have hn5:n≤255:=by have:=hu.2.1;simp only at this;omega
   by_cases hlt:(lsH h 3).length<k+(n+1)
   ·exact Sh w G hG h hh src hs v hv hr hv0 h1 4 k hf rfl wd hwd hat hwu hgo n pt er hun hn5 her hlt
   by_cases hrm:Y1 (layH h) < ((n+1:Nat):Int)
   ·exact Jd w G hG h hh src hs v hv hr hv0 h1 4 k hf rfl wd hwd hat hwu hgo n pt er hun hn5 her (by omega) hrm
   ·exact Si w G hG h hh src hs v hv hr hv0 h1 4 k hf rfl wd hwd hat hwu hgo n pt er hun hn5 her (by omega) hrm
  ·exact Rh w G hG h hh src hs v hv hr hv0 h1 4 k hf rfl wd hwd hat hwu hgo sz pt er hun her
end Vm
namespace Vm
open Go Go.Proofs Go.RowKit
set_option maxHeartbeats 4000000
set_option maxRecDepth 100000
theorem Q0(w:World)(G:Nat→Prop)(hG: ∀b,G b→b<w.heap.size)(h:Hp)(hh:h.ok)(src:Nat→Value)(hs: ∀j,j<5→Rd w G (.sl ((lsH h j).map vu)) (src j))(v:Int)(hv:U64 v):
  Calls Try.prog 39 #[hpA h src,.int .u64 v] w (Yr w (fwd h v)):=by
 have HS:=Lib.hid hs
 have HH:=Lib.hid hh
 clear hs hh
 by_cases hfo:Z8 (layH h)=true∧ ¬v=0∧(adr v).2=0∧(Zx (layH h) (adr v).1).2.2=0
 ·exact Ru w G hG h HH.out src HS.out v hv hfo.1 hfo.2.1 hfo.2.2.1 hfo.2.2.2
 unfold hpA
 go_enter Try.func39,Try.ntmps39
 cases hr:Z8 (layH h)
 ·go_wp2_with (first
   | (go_at_call 51;refine(Zo (h:=h) (x:=src) (G:=G) (fun c hc=>by have:=hG c hc;simp;omega) (fun j hj=>(HS.out j hj).keep (fun b hb=>by have:=hG b hb;rw[Below.heap_alloc _ _ _ (by simp;omega),Below.heap_alloc _ _ _ (by omega)]) (fun _ h=>h))).mono ?_;rintro e w1 ⟨rfl,hb1⟩;unfold lyA;have z1:=(hb1.block (w.heap.size+1) (by simp)).trans (ZP w _);have hs1:=hb1.size;simp at hs1;have HB1:=Lib.hid hb1;clear hb1)
   | (go_at_call 43;refine(Zt HH.out.lay _).mono ?_;rintro e w2 ⟨rfl,hb2⟩;rw[hr];have z2:=(hb2.block (w.heap.size+1) (by simp;omega)).trans ((Below.heap_alloc w1 _ (w.heap.size+1) (by omega)).trans z1);have y2: ∀j,w2.cell? ⟨w.heap.size+1,j,none⟩=Z4[j]? :=fun j=>cell_of_row _ _ _ _ _ _ z2;have f2: ∀j,w2.frozen? ⟨w.heap.size+1,j,none⟩=false:=fun j=>Za z2;unfold Z4 at y2;have HB2:=Lib.hid hb2;clear hb2))
  have y:=Zn z2 (.int .u64 0) (.int .i64 0) (.int .i64 0) (.bool false) (.int .i64 0) (.slice none 0 0) (.slice none 0 0) (.slice none 0 0) (.slice none 0 0) (.slice none 0 0)
  refine bodyPost_ret (v:= .tuple #[.int .u64 0,.agg Z4,.int .i64 1]) (by simp[results,Try.results39,go_sem,y,Z4]) rfl ⟨fun _=> .slice none 0 0,?_,Zi ?_ (by omega) _ _ _ _ _ _ _ _ _ _,?_⟩
  ·simp[fwd,hr,hpA,Hp.zero,Z4]
  ·exact((((((Below.refl _ _).alloc (Nat.le_refl _) _).alloc (by simp) _).trans (HB1.out.mono (by simp;omega))).alloc (by omega) _).trans (HB2.out.mono (by simp;omega)))
  ·have:(fwd h v).2.1=Hp.zero:=by simp[fwd,hr]
   rw[this]
   exact X5 _ _
 ·by_cases h0:v=0
  ·subst h0
   go_wp2_with (first
    | (go_at_call 51;refine(Zo (h:=h) (x:=src) (G:=G) (fun c hc=>by have:=hG c hc;simp;omega) (fun j hj=>(HS.out j hj).keep (fun b hb=>by have:=hG b hb;rw[Below.heap_alloc _ _ _ (by simp;omega),Below.heap_alloc _ _ _ (by omega)]) (fun _ h=>h))).mono ?_;rintro e w1 ⟨rfl,hb1⟩;unfold lyA;have z1:=(hb1.block (w.heap.size+1) (by simp)).trans (ZP w _);have p1:=(hb1.block w.heap.size (by simp;omega)).trans ((Below.heap_alloc (w.alloc (.cells #[.int .u64 h.base,.int .i64 h.cap,.int .i64 h.to,.bool h.cycle,.int .i64 h.scan,src 0,src 1,src 2,src 3,src 4] 25)) _ w.heap.size (by simp)).trans (heap_alloc_new w _));have hs1:=hb1.size;simp at hs1;have HB1:=Lib.hid hb1;clear hb1)
    | (go_at_call 43;refine(Zt HH.out.lay _).mono ?_;rintro e w2 ⟨rfl,hb2⟩;rw[hr];have z2:=(hb2.block (w.heap.size+1) (by simp;omega)).trans ((Below.heap_alloc w1 _ (w.heap.size+1) (by omega)).trans z1);have p2:=(hb2.block w.heap.size (by simp;omega)).trans ((Below.heap_alloc w1 _ w.heap.size (by omega)).trans p1);have x2: ∀j,w2.cell? ⟨w.heap.size,j,none⟩=(#[.int .u64 h.base,.int .i64 h.cap,.int .i64 h.to,.bool h.cycle,.int .i64 h.scan,src 0,src 1,src 2,src 3,src 4]:Array Value)[j]? :=fun j=>cell_of_row _ _ _ _ _ _ p2;have hb02:Below w.heap.size w w2:=((((((Below.refl _ _).alloc (Nat.le_refl _) _).alloc (by simp) _).trans (HB1.out.mono (by simp;omega))).alloc (by omega) _).trans (hb2.mono (by simp;omega)));have hs2:=hb2.size;simp at hs2;have HB02:=Lib.hid hb02;clear hb2 hb02)
    | (go_at_call 48;refine(Yk _ G (fun b hb=>by have:=hG b hb;omega) h HH.out src (fun j hj=>(HS.out j hj).keep (fun b hb=>HB02.out.block b (hG b hb)) (fun _ h=>h))).mono ?_;rintro e w3 ⟨x,rfl,hb3,ho3⟩;obtain⟨a0,q0,e0⟩:=Z2 (ho3.own 0 (by omega));obtain⟨a1,q1,e1⟩:=Z2 (ho3.own 1 (by omega));obtain⟨a2,q2,e2⟩:=Z2 (ho3.own 2 (by omega));obtain⟨a3,q3,e3⟩:=Z2 (ho3.own 3 (by omega));obtain⟨a4,q4,e4⟩:=Z2 (ho3.own 4 (by omega));unfold hpA;rw[e0,e1,e2,e3,e4];have z3:=(hb3.block (w.heap.size+1) (by omega)).trans z2;have y3: ∀j,w3.cell? ⟨w.heap.size+1,j,none⟩=Z4[j]? :=fun j=>cell_of_row _ _ _ _ _ _ z3;have f3: ∀j,w3.frozen? ⟨w.heap.size+1,j,none⟩=false:=fun j=>Za z3;unfold Z4 at y3;have HB3:=Lib.hid hb3;have HO3:=Lib.hid ho3;clear hb3 ho3))
   have y:=Zn z3 (.int .u64 h.base) (.int .i64 h.cap) (.int .i64 h.to) (.bool h.cycle) (.int .i64 h.scan) (.slice a0 (lsH h 0).length q0) (.slice a1 (lsH h 1).length q1) (.slice a2 (lsH h 2).length q2) (.slice a3 (lsH h 3).length q3) (.slice a4 (lsH h 4).length q4)
   have hf:fwd h 0=(0,h,0):=by simp[fwd,hr]
   refine bodyPost_ret (v:= .tuple #[.int .u64 0,hpA h x,.int .i64 0]) (by unfold hpA;rw[e0,e1,e2,e3,e4];simp[results,Try.results39,go_sem,y]) rfl ⟨x,?_,Zi (HB02.out.trans (HB3.out.mono (by omega))) (by omega) _ _ _ _ _ _ _ _ _ _,?_⟩
   ·rw[hf]
   ·rw[hf]
    refine⟨fun j hj=> ?_,HO3.out.apart⟩
    have ho:=HO3.out.own j hj
    refine Uv (B':=w2.heap.size) (Zp ho fun c hc=>Yu (by have:=(ho.lt c hc).1;omega) _ _ _ _ _ _ _ _ _ _) (fun c h1 h2=>⟨by omega,h2⟩)
  ·have hv0: ¬(v=0):=h0
   by_cases h1:(adr v).2=0
   ·by_cases h2:(Zx (layH h) (adr v).1).2.2=0
    ·exact(hfo ⟨hr,hv0,h1,h2⟩).elim
    ·go_wp2_with (first
     | (go_at_call 51;refine(Zo (h:=h) (x:=src) (G:=G) (fun c hc=>by have:=hG c hc;simp;omega) (fun j hj=>(HS.out j hj).keep (fun b hb=>by have:=hG b hb;rw[Below.heap_alloc _ _ _ (by simp;omega),Below.heap_alloc _ _ _ (by omega)]) (fun _ h=>h))).mono ?_;rintro e w1 ⟨rfl,hb1⟩;unfold lyA;have z1:=(hb1.block (w.heap.size+1) (by simp)).trans (ZP w _);have p1:=(hb1.block w.heap.size (by simp;omega)).trans ((Below.heap_alloc (w.alloc (.cells #[.int .u64 h.base,.int .i64 h.cap,.int .i64 h.to,.bool h.cycle,.int .i64 h.scan,src 0,src 1,src 2,src 3,src 4] 25)) _ w.heap.size (by simp)).trans (heap_alloc_new w _));have hs1:=hb1.size;simp at hs1;have HB1:=Lib.hid hb1;clear hb1)
     | (go_at_call 43;refine(Zt HH.out.lay _).mono ?_;rintro e w2 ⟨rfl,hb2⟩;rw[hr];have z2:=(hb2.block (w.heap.size+1) (by simp;omega)).trans ((Below.heap_alloc w1 _ (w.heap.size+1) (by omega)).trans z1);have p2:=(hb2.block w.heap.size (by simp;omega)).trans ((Below.heap_alloc w1 _ w.heap.size (by omega)).trans p1);have x2: ∀j,w2.cell? ⟨w.heap.size,j,none⟩=(#[.int .u64 h.base,.int .i64 h.cap,.int .i64 h.to,.bool h.cycle,.int .i64 h.scan,src 0,src 1,src 2,src 3,src 4]:Array Value)[j]? :=fun j=>cell_of_row _ _ _ _ _ _ p2;have hb02:Below w.heap.size w w2:=((((((Below.refl _ _).alloc (Nat.le_refl _) _).alloc (by simp) _).trans (HB1.out.mono (by simp;omega))).alloc (by omega) _).trans (hb2.mono (by simp;omega)));have hs2:=hb2.size;simp at hs2;have m2:=(hb2.block w1.heap.size (by simp)).trans (heap_alloc_new w1 _);have HB02:=Lib.hid hb02;clear hb2 hb02)
     | (go_at_call 59;refine(Zk hv _).mono ?_;rintro e w3 ⟨rfl,hb3⟩;have z3:=(hb3.block (w.heap.size+1) (by omega)).trans z2;have y3: ∀j,w3.cell? ⟨w.heap.size+1,j,none⟩=Z4[j]? :=fun j=>cell_of_row _ _ _ _ _ _ z3;have f3: ∀j,w3.frozen? ⟨w.heap.size+1,j,none⟩=false:=fun j=>Za z3;unfold Z4 at y3;have m3:=(hb3.block w1.heap.size (by omega)).trans m2;have l3: ∀j,w3.cell? ⟨w1.heap.size,j,none⟩=(#[.int .u64 (layH h).base,.int .i64 (layH h).cap,.int .i64 (layH h).to,.int .i64 (layH h).low,.int .i64 (layH h).high,.int .i64 (layH h).old,.int .i64 (layH h).far]:Array Value)[j]? :=fun j=>cell_of_row _ _ _ _ _ _ m3;have hs3:=hb3.size;have HB3:=Lib.hid hb3;clear hb3)
     | (go_at_call 60;refine(ZI HH.out.lay (VK hv) _).mono ?_;rintro e w4 ⟨rfl,hb4⟩;have hs4:=hb4.size;have z4: ∀o,(w4.alloc o).heap[w.heap.size+1]? =some (.cells Z4 25 (0,0)):=fun o=>(Below.heap_alloc w4 o (w.heap.size+1) (by omega)).trans ((hb4.block (w.heap.size+1) (by omega)).trans z3);have y4: ∀o j,(w4.alloc o).cell? ⟨w.heap.size+1,j,none⟩=Z4[j]? :=fun o j=>cell_of_row _ _ _ _ _ _ (z4 o);have f4: ∀o j,(w4.alloc o).frozen? ⟨w.heap.size+1,j,none⟩=false:=fun o j=>Za (z4 o);unfold Z4 at y4;have HB4:=Lib.hid hb4;clear hb4))
     have y:=Zn (z4 (.cells #[.int .i64 (Zx (layH h) (adr v).1).1,.int .i64 (Zx (layH h) (adr v).1).2.1] 91)) (.int .u64 0) (.int .i64 0) (.int .i64 0) (.bool false) (.int .i64 0) (.slice none 0 0) (.slice none 0 0) (.slice none 0 0) (.slice none 0 0) (.slice none 0 0)
     have hf:fwd h v=(0,Hp.zero,6):=by simp[fwd,hr,h0,h1,h2]
     refine bodyPost_ret (v:= .tuple #[.int .u64 0,.agg Z4,.int .i64 6]) (by simp[results,Try.results39,go_sem,y,Z4]) rfl ⟨fun _=> .slice none 0 0,?_,Zi (((HB02.out.trans (HB3.out.mono (by omega))).trans (HB4.out.mono (by omega))).alloc (by omega) _) (by omega) _ _ _ _ _ _ _ _ _ _,?_⟩
     ·rw[hf];simp[hpA,Hp.zero,Z4]
     ·rw[hf]
      exact X5 _ _
   ·go_wp2_with (first
    | (go_at_call 51;refine(Zo (h:=h) (x:=src) (G:=G) (fun c hc=>by have:=hG c hc;simp;omega) (fun j hj=>(HS.out j hj).keep (fun b hb=>by have:=hG b hb;rw[Below.heap_alloc _ _ _ (by simp;omega),Below.heap_alloc _ _ _ (by omega)]) (fun _ h=>h))).mono ?_;rintro e w1 ⟨rfl,hb1⟩;unfold lyA;have z1:=(hb1.block (w.heap.size+1) (by simp)).trans (ZP w _);have p1:=(hb1.block w.heap.size (by simp;omega)).trans ((Below.heap_alloc (w.alloc (.cells #[.int .u64 h.base,.int .i64 h.cap,.int .i64 h.to,.bool h.cycle,.int .i64 h.scan,src 0,src 1,src 2,src 3,src 4] 25)) _ w.heap.size (by simp)).trans (heap_alloc_new w _));have hs1:=hb1.size;simp at hs1;have HB1:=Lib.hid hb1;clear hb1)
    | (go_at_call 43;refine(Zt HH.out.lay _).mono ?_;rintro e w2 ⟨rfl,hb2⟩;rw[hr];have z2:=(hb2.block (w.heap.size+1) (by simp;omega)).trans ((Below.heap_alloc w1 _ (w.heap.size+1) (by omega)).trans z1);have p2:=(hb2.block w.heap.size (by simp;omega)).trans ((Below.heap_alloc w1 _ w.heap.size (by omega)).trans p1);have x2: ∀j,w2.cell? ⟨w.heap.size,j,none⟩=(#[.int .u64 h.base,.int .i64 h.cap,.int .i64 h.to,.bool h.cycle,.int .i64 h.scan,src 0,src 1,src 2,src 3,src 4]:Array Value)[j]? :=fun j=>cell_of_row _ _ _ _ _ _ p2;have hb02:Below w.heap.size w w2:=((((((Below.refl _ _).alloc (Nat.le_refl _) _).alloc (by simp) _).trans (HB1.out.mono (by simp;omega))).alloc (by omega) _).trans (hb2.mono (by simp;omega)));have hs2:=hb2.size;simp at hs2;have HB02:=Lib.hid hb02;clear hb2 hb02)
      | (go_at_call 59;refine(Zk hv _).mono ?_;rintro e w3 ⟨rfl,hb3⟩;have z3:=(hb3.block (w.heap.size+1) (by omega)).trans z2;have y3: ∀j,w3.cell? ⟨w.heap.size+1,j,none⟩=Z4[j]? :=fun j=>cell_of_row _ _ _ _ _ _ z3;have f3: ∀j,w3.frozen? ⟨w.heap.size+1,j,none⟩=false:=fun j=>Za z3;unfold Z4 at y3;have HB3:=Lib.hid hb3;clear hb3))
    have y:=Zn z3 (.int .u64 0) (.int .i64 0) (.int .i64 0) (.bool false) (.int .i64 0) (.slice none 0 0) (.slice none 0 0) (.slice none 0 0) (.slice none 0 0) (.slice none 0 0)
    have hf:fwd h v=(0,Hp.zero,3):=by simp[fwd,hr,h0,h1]
    refine bodyPost_ret (v:= .tuple #[.int .u64 0,.agg Z4,.int .i64 3]) (by simp[results,Try.results39,go_sem,y,Z4]) rfl ⟨fun _=> .slice none 0 0,?_,Zi (HB02.out.trans (HB3.out.mono (by omega))) (by omega) _ _ _ _ _ _ _ _ _ _,?_⟩
    ·rw[hf];simp[hpA,Hp.zero,Z4]
    ·rw[hf]
     exact X5 _ _
end Vm
namespace Vm
open Go Go.Proofs Go.RowKit
set_option maxHeartbeats 1000000
set_option maxRecDepth 100000
theorem XP{w:World}{G:Nat→Prop}{k:IntKind}{n:Int}{v:Value}(r:Rd w G (.int k n) v):v= .int k n:=by cases r;rfl
theorem TJ{w:World}{G:Nat→Prop}{b:Bool}{v:Value}(r:Rd w G (.bool b) v):v= .bool b:=by cases r;rfl
theorem Z1d{w:World}{G:Nat→Prop}{h:Hp}{v:Value}(r:Rd w G (hpV h) v): ∃src,v=hpA h src∧ ∀j,j<5→Rd w G (.sl ((lsH h j).map vu)) (src j):=by
 cases r with
 |agg _ vs hl _ hr=>
  refine⟨fun j=>vs.getD (5+j) undef,?_,?_⟩
  ·have e0:=XP (hr 0 _ rfl)
   have e1:=XP (hr 1 _ rfl)
   have e2:=XP (hr 2 _ rfl)
   have e3:=TJ (hr 3 _ rfl)
   have e4:=XP (hr 4 _ rfl)
   have hl':vs.size=10:=hl
   unfold hpA
   rw[←e0,←e1,←e2,←e3,←e4]
   congr 1
   apply Array.ext
   ·simp[hl']
   ·intro i h1 h2
    have hi:i<10:=by omega
    match i,hi with
    |0,_|1,_|2,_|3,_|4,_|5,_|6,_|7,_|8,_|9,_=>simp[Array.getD,hl']
  ·intro j hj
   match j,hj with
   |0,_=>exact hr 5 _ rfl
   |1,_=>exact hr 6 _ rfl
   |2,_=>exact hr 7 _ rfl
   |3,_=>exact hr 8 _ rfl
   |4,_=>exact hr 9 _ rfl
theorem Z2S{w:World}{G:Nat→Prop}{h:Hp}{x:Nat→Value}(hr: ∀j,j<5→Rd w G (.sl ((lsH h j).map vu)) (x j)):Rd w G (hpV h) (hpA h x):=by
 refine .agg _ _ rfl (by simp[V.one]) ?_
 intro i y hy
 match i,hy with
 |0,hy=>cases hy;exact .int _ _
 |1,hy=>cases hy;exact .int _ _
 |2,hy=>cases hy;exact .int _ _
 |3,hy=>cases hy;exact .bool _
 |4,hy=>cases hy;exact .int _ _
 |5,hy=>cases hy;exact hr 0 (by omega)
 |6,hy=>cases hy;exact hr 1 (by omega)
 |7,hy=>cases hy;exact hr 2 (by omega)
 |8,hy=>cases hy;exact hr 3 (by omega)
 |9,hy=>cases hy;exact hr 4 (by omega)
end Vm
end
section
namespace Vm
open Go Go.Proofs Go.RowKit
set_option maxHeartbeats 1000000
set_option maxRecDepth 100000
theorem Rd.slfT{w:World}{G:Nat→Prop}{l:List V}{v:Value}(h:Rd w G (.sl l) v): ∃a c,v= .slice a l.length c:=by
 cases h with
 |nil a cap _=>exact⟨a,cap,rfl⟩
 |sl l b o cap k vs=>exact⟨_,cap,rfl⟩
theorem append_empty{P:Program}{w:World}{t ty e:TypeId}(ht:P.underlying t=some (.slice e))(hel:elOk P e=true)(ad a:Addr)(n c:Nat)(news:List Value)(hl:news.length=n*P.cellsOf e)(hnews: ∀j v,news[j]? =some v→w.cell? (a.add j)=some v)(h0:0<n)(hlim:n≤lim):
  (Builtin.append_ #[t,t] ty #[.slice (some ad) 0 0,.slice (some a) n c]).run P w=(Builtin.append_ #[t,t] ty #[.slice none 0 0,.slice (some a) n c]).run P w:=by
 obtain⟨i,z,hi,hz,hzs,h1,hby,hcs⟩:=Xi hel
 simp only[lim]at hlim
 have hbytes:n*i.bytes≤140737488355328:=by
  have:n*i.bytes≤4294967296*32768:=Nat.mul_le_mul hlim hby
  omega
 rw[run_append_nil (P:=P) w t ty e i z ht hi hz a n c news (by rw[hl,hcs]) hnews h0 (by omega) (by omega)]
 have hr:=run_append_grow (P:=P) w t ty e i z ht hi hz ad 0 0 [] (by simp) (fun j v hv=>by simp at hv) a n c news (by rw[hl,hcs]) hnews (by omega) (by omega) (growslice_fits (by omega) (by simpa using hbytes))
 simpa using hr
theorem Qb{w:World}(ad:Option Addr){ty:TypeId}{G:Nat→Prop}{l:List Int}{y:Value}(hl:l.length≤1000000)(hy:Rd w G (.sl (l.map vu)) y):
  ∃v' w',(Builtin.append_ #[23,23] ty #[.slice ad 0 0,y]).run Try.prog w= .ok v' w'∧Below w.heap.size w w'∧Rd w' (fun c=>w.heap.size≤c∧c<w'.heap.size) (.sl (l.map vu)) v':=by
 have hT:=Try.underlying23
 have nilOk: ∀(w:World),Rd w (fun c=>w.heap.size≤c∧c<w.heap.size) (.sl ([]:List V)) (.slice ad 0 0):=fun w=> .nil _ _ (by unfold maxLen;omega)
 by_cases h0:l= []
 ·subst h0
  obtain⟨i,z,hi,hz,hzs,h1,hby,hcs⟩:=Xi (P:=Try.prog) elU
  have hv: ∃a c,y= .slice a 0 c:=by
   obtain⟨a,c,e⟩:=Rd.slfT hy
   exact⟨a,c,by simpa using e⟩
  obtain⟨a,c,rfl⟩:=hv
  refine⟨.slice ad 0 0,w,?_,Below.refl _ _,nilOk w⟩
  cases a<;>cases ad<;>simp[Builtin.append_,run_underlying hT,Go.sizeOf,typeInfo,hi,Builtin.lenOf,Builtin.firstCells,loadCells,loadCellsFrom,storeCells]
 ·have hpos:0<l.length:=List.length_pos_iff.2 h0
  have key:(Builtin.append_ #[23,23] ty #[.slice ad 0 0,y]).run Try.prog w=(Builtin.append_ #[23,23] ty #[.slice none 0 0,y]).run Try.prog w:=by
   cases ad with
   |none=>rfl
   |some ad=>
    have hy':=hy
    generalize hL:l.map vu=L at hy'
    cases hy' with
    |nil=>simp at hL;exact absurd hL h0
    |sl _ b o cap kk vs h1 h2 h3 h4 h5 h6=>
     have hlen:L.length=l.length:=by rw[←hL,List.length_map]
     have hkk:kk=1:=by
      obtain⟨x,hx⟩:=List.exists_mem_of_ne_nil l h0
      have:=(h4 (vu x) (by rw[←hL];exact List.mem_map_of_mem hx)).1
      simpa using this.symm
     subst hkk
     refine append_empty hT elU ad ⟨b,o,none⟩ _ cap ((List.range L.length).map vs) (by rw[ceU];simp) (fun j u hj=> ?_) (by omega) (by simp only[lim];omega)
     have hlt:j<L.length:=by simpa using(List.getElem?_eq_some_iff.1 hj).1
     have hvs:vs j=u:=by simpa[hlt]using hj
     rw[Addr.add_lit,←hvs]
     exact h5 j (by omega)
  obtain⟨v',w',news,hr,h1,h2,h3,_,h5⟩:=XY (ty:=ty) (B:=w.heap.size) (n:=0) (xs:= []) hT elU (World.ownsRow_nil w _ _ _) (Nat.le_refl _) hy (by rw[ceU];exact XT _) (by simp only[lim,List.length_map];omega)
  rw[ceU]at h1
  have hl6:news.length=l.length:=by have:=h1.1;simpa using this
  have h6:=TI h5 hl6
  rw[h6]at h1
  simp only[List.length_map,Nat.zero_add,List.nil_append]at h1
  refine⟨v',w',key.trans hr,?_,KP h1 fun c h1 h2=>⟨h1,h2⟩⟩
  have hn:(Value.slice none 0 0).ownBlock=none:=rfl
  rw[hn]at h2
  exact Below.grown (Below.refl _ _) h2 (Nat.le_refl _) (fun r hr=>by cases hr)
theorem qA{w:World}{o:Oper}{a:Act}{K:Act→World→Prop}{Q:Exit→Act→World→Prop}(s x:Operand)
  (ho:o.op= .call {callee:= .builtin .append,args:= #[s,x],argTypes:= #[23,23]}) {ad:Option Addr} {y:Value} (hs:a.eval s= .slice ad 0 0) (hx:a.eval x=y)
  {G:Nat→Prop} {l:List Int} (hl:l.length≤1000000) (hy:Rd w G (.sl (l.map vu)) y)
  (h: ∀v' w',Below w.heap.size w w'→Rd w' (fun c=>w.heap.size≤c∧c<w'.heap.size) (.sl (l.map vu)) v'→K (a.put o.dst v') w'):o.wp Try.prog a w K Q:=by
 obtain⟨v',w',hr,h1,h2⟩:=Qb ad (ty:=o.type) hl hy
 unfold Oper.wp execOp
 simp only[ho,resolve,invoke,builtin,Sem.run_bind,Sem.run_pure,Result.andThen_ok,List.map_toArray,List.map_cons,List.map_nil,hs,hx,hr]
 exact h v' w' h1 h2
theorem Qa{w:World}{ops:Array Oper}{rest:List Oper}{o:Oper}{a:Act}{Q:Exit→Act→World→Prop}(hgd:o.guard=none)(s x:Operand)
  (ho:o.op= .call {callee:= .builtin .append,args:= #[s,x],argTypes:= #[23,23]}) {ad:Option Addr} {y:Value} (hs:a.eval s= .slice ad 0 0) (hx:a.eval x=y)
  {G:Nat→Prop} {l:List Int} (hl:l.length≤1000000) (hy:Rd w G (.sl (l.map vu)) y)
  (h: ∀v' w',Below w.heap.size w w'→Rd w' (fun c=>w.heap.size≤c∧c<w'.heap.size) (.sl (l.map vu)) v'→wpList Try.prog ops Q rest (a.put o.dst v') w'):wpList Try.prog ops Q (o::rest) a w:=
 wpList_plain hgd fun _ hK=>qA s x ho hs hx hl hy fun v' w' h1 h2=>hK _ _ (h v' w' h1 h2)
theorem W8(w:World){G:Nat→Prop}{l:List Int}{y:Value}(hl:l.length≤1000000)(hy:Rd w G (.sl (l.map vu)) y):
  Calls Try.prog 38 #[y] w fun e w'=> ∃v,e= .returned v∧Below w.heap.size w w'∧Rd w' (fun c=>w.heap.size≤c∧c<w'.heap.size) (.sl (l.map vu)) v:=by
 obtain⟨a,c,rfl⟩:=Rd.slfT hy
 go_enter Try.func38,Try.ntmps38
 go_wp2_with (at_builtin;refine Qa rfl _ _ rfl rfl rfl hl hy ?_;intro v' w' hb hr)
 exact bodyPost_ret (v:=v') (by simp[results,Try.results38,go_sem]) rfl ⟨v',rfl,hb,hr⟩
end Vm
end
section
namespace Vm
open Go Go.Proofs Go.RowKit
set_option maxHeartbeats 1000000
set_option maxRecDepth 100000
def QN(K:Act→World→Prop)(Q:Exit→Act→World→Prop):Exit→Act→World→Prop
 | .normal,a,w=>K a w
 | .ret,a,w=>Q .ret a w
 | .outgrown,a,w=>Q .outgrown a w
 |e,a,w=>Q e a w
section
variable {P:Program} {ops:Array Oper} {Q:Exit→Act→World→Prop}
theorem yk{i:Nat}{o:Oper}{K:Act→World→Prop}{a:Act}{w:World}(hi:ops[i]? =some o)(h:wpList P ops (QN K Q) [o] a w):wpOp P ops Q i K a w:=by
 unfold wpOp
 rw[hi]
 simp only
 unfold wpList at h
 split at h
 ·rename_i hw
  rw[if_pos hw]
  rcases h with h| ⟨h1,h2⟩
  ·left
   unfold Oper.wp at*
   generalize (execOp a.eval o).run P w=r at*
   cases r with
   |ok n w'=>
    cases n<;>simp only[Oper.upon]at h⊢ <;>
     first
      |exact h
      |exact Calls.mono h (fun e w'' he=>by cases e<;>exact he)
      |exact Rows.mono h (fun _ _ he=>he)
   |halt x w'=>cases x<;>simp only[Oper.upon]at h⊢ <;>exact h
  ·exact .inr ⟨h1,h2⟩
 ·rename_i hw
  rw[if_neg hw]
  exact h
theorem LO{id:Nat}{a0:Act}{w0:World}(hm:P.follows .mixedOrders=true)(hord: ∀(i:Nat) (o:Oper),ops[i]? =some o→ ∀e∈YP o,e<i)(I:(Nat→Bool)→Act→World→Prop)
  (h0:I (fun _=>false) a0 {w0 with drawn:=w0.drawn+1})
  (hst: ∀(L:Nat→Bool) (i:Nat) (o:Oper) (a:Act) (w:World),ops[i]? =some o→L i=false→(∀j∈YP o,L j=true)→I L a w→wpList P ops (QN (I (add L i)) Q) [o] a w)
  (hQ: ∀(L:Nat→Bool) (a:Act) (w:World),(∀i,i<ops.size→L i=true)→I L a w→Q .normal a w):(Code.region id ops true).wp P Q a0 w0:=by
 have hgd: ∀(listed:Array Bool) (i:Nat),listed.size=ops.size→i<ops.size→listed.getD i true=listed.getD i false:=by
  intro listed i h1 h2
  simp[Array.getD_eq_getD_getElem?,h1,h2]
 have hempty: ∀(listed:Array Bool),listed.size=ops.size→Region.ready .any ops listed= []→ ∀i,i<ops.size→listed.getD i false=true:=by
  intro listed hsz hr i
  induction i using Nat.strongRecOn with
  |_ i ih=>
   intro hi
   cases hl:listed.getD i false with
   |true=>rfl
   |false=>
    have:i∈Region.ready .any ops listed:=mem_ready.2 ⟨by rw[hgd listed i hsz hi];exact hl,ops[i],Array.getElem?_eq_getElem hi,fun e he hb=>by
     have hlt:=hord i ops[i] (Array.getElem?_eq_getElem hi) e.on (QQ he hb)
     exact ih e.on hlt (by omega)⟩
    rw[hr]at this;simp at this
 refine wp_region_any hm ?_
 have main: ∀(fuel:Nat) (listed:Array Bool) (a:Act) (w:World),listed.size=ops.size→unl ops.size (fun i=>listed.getD i false)≤fuel→I (fun i=>listed.getD i false) a w→wpAny P .any ops Q fuel listed a w:=by
  intro fuel
  induction fuel with
  |zero=>
   intro listed a w hsz hu hI
   have hall:=KY (Nat.le_zero.1 hu)
   refine⟨?_,hQ _ a w hall hI⟩
   cases hr:Region.ready .any ops listed with
   |nil=>rfl
   |cons i r=>
    have:i∈Region.ready .any ops listed:=by rw[hr];simp
    obtain⟨h1,o,ho,_⟩:=mem_ready.1 this
    have hi:i<ops.size:=(Array.getElem?_eq_some_iff.1 ho).1
    rw[hgd listed i hsz hi,hall i hi]at h1
    cases h1
  |succ fuel ih=>
   intro listed a w hsz hu hI
   refine⟨fun hr=>hQ _ a w (hempty listed hsz hr) hI,fun i hi=> ?_⟩
   obtain⟨h1,o,ho,hall⟩:=mem_ready.1 hi
   have hlt:i<ops.size:=(Array.getElem?_eq_some_iff.1 ho).1
   rw[hgd listed i hsz hlt]at h1
   have hadd:(fun j=>(listed.setIfInBounds i true).getD j false)=add (fun i=>listed.getD i false) i:=by
    funext j
    simp only[add]
    by_cases hji:j=i
    ·subst hji
     have:j<listed.size:=by omega
     simp[Array.getD_eq_getD_getElem?,this]
    ·have:(listed.setIfInBounds i true).getD j false=listed.getD j false:=getD_set_ne false (Ne.symm hji)
     rw[this];simp[hji]
   have hs:=yk ho (hst _ i o a w ho h1 (fun j hj=>by
    obtain⟨ed,h2,h3,rfl⟩:=QU hj
    exact hall ed h2 h3) hI)
   refine wpOp_mono (fun a' w' hI'=>ih _ a' w' (by simpa using hsz) ?_ (by rw[hadd];exact hI')) hs
   rw[hadd]
   have:=yA (n:=ops.size) (L:=fun i=>listed.getD i false) hlt h1
   omega
 have hL0:(fun i=>(Array.replicate ops.size false).getD i false)=fun _=>false:=by
  funext i
  simp only[Array.getD_eq_getD_getElem?,Array.getElem?_replicate]
  split<;>rfl
 refine main _ _ a0 _ (by simp) ?_ (by rw[hL0];exact h0)
 exact Nat.le_trans (List.length_filter_le _ _) (by simp)
end
def putL(a:Act)(l:List (Nat×Value)):Act:= {a with tmps:=l.foldl (fun t p=>t.setIfInBounds p.1 p.2) a.tmps}
def Z0G(ops:Array Oper):Bool:=(List.range ops.size).all fun i=>match ops[i]? with|some o=>(YP o).all fun e=>decide (e<i) |none=>true
theorem Z1E{ops:Array Oper}(h:Z0G ops=true): ∀(i:Nat) (o:Oper),ops[i]? =some o→ ∀e∈YP o,e<i:=by
 intro i o ho e he
 unfold Z0G at h
 rw[List.all_eq_true]at h
 have:=h i (by simpa using(Array.getElem?_eq_some_iff.1 ho).1)
 rw[ho]at this
 simp only[List.all_eq_true,decide_eq_true_eq]at this
 exact this e he
def putF(a:Act)(ss:List Nat)(v:Nat→Value):Act:=putL a (ss.map fun s=>(s,v s))
def setV(v:Nat→Value)(s:Nat)(x:Value):Nat→Value:=fun t=>if t=s then x else v t
theorem YQ(v:Nat→Value)(s:Nat)(x:Value):setV v s x s=x:=if_pos rfl
theorem XF(v:Nat→Value){s t:Nat}(x:Value)(h:t≠s):setV v s x t=v t:=if_neg h
theorem To{P:Program}{ops:Array Oper}{Q:Exit→Act→World→Prop}{id:Nat}{a0:Act}{w0:World}(ss:List Nat)(C:(Nat→Bool)→(Nat→Value)→World→Prop)
  (hm:P.follows .mixedOrders=true) (hord:Z0G ops=true) (h0: ∃v,a0=putF a0 ss v∧C (fun _=>false) v {w0 with drawn:=w0.drawn+1})
  (hst: ∀(L:Nat→Bool) (i:Nat) (o:Oper) (v:Nat→Value) (w:World),ops[i]? =some o→L i=false→(∀j∈YP o,L j=true)→C L v w→
   wpList P ops (QN (fun a w=> ∃v,a=putF a0 ss v∧C (add L i) v w) Q) [o] (putF a0 ss v) w)
  (hQ: ∀(L:Nat→Bool) (v:Nat→Value) (w:World),(∀i,i<ops.size→L i=true)→C L v w→Q .normal (putF a0 ss v) w):(Code.region id ops true).wp P Q a0 w0:=by
 refine LO hm (Z1E hord) (fun L a w=> ∃v,a=putF a0 ss v∧C L v w) h0 ?_ ?_
 ·rintro L i o _ w ho hi hj ⟨v,rfl,hC⟩
  exact hst L i o v w ho hi hj hC
 ·rintro L _ w hL ⟨v,rfl,hC⟩
  exact hQ L v w hL hC
theorem T7(L:Nat→Bool)(i:Nat):add L i i=true:=by simp[add]
theorem YC{L:Nat→Bool}{i j:Nat}(h:j≠i):add L i j=L j:=by simp[add,h]
end Vm
end
section
namespace Vm
open Go Go.Proofs Go.RowKit
set_option maxHeartbeats 1000000
set_option maxRecDepth 100000
theorem Zh{v:Nat→Value}{s:Nat}{x:Value}(h:v s=x):setV v s x=v:=by
 funext t
 unfold setV
 by_cases e:t=s
 ·rw[if_pos e,e,h]
 ·rw[if_neg e]
def flX(h:Hp)(i:Nat):List Int:=if i=9 then h.low else if i=12 then h.high else h.roots
def flA(h:Hp)(y:Nat→Value):Array Value:= #[.int .u64 h.base,.int .i64 h.cap,.int .i64 (1-h.to),.bool false,.int .i64 0,.slice none 0 0,.slice none 0 0,y 9,y 12,y 15]
def flEx(bh:Nat)(h:Hp)(src:Nat→Value):Nat→Value
 |0=> .pointer (some ⟨bh,0,none⟩)
 |1=> .int .u64 h.base
 |2=> .pointer (some ⟨bh,1,none⟩)
 |3=> .int .i64 h.cap
 |4=> .pointer (some ⟨bh,2,none⟩)
 |5=> .int .i64 h.to
 |6=> .int .i64 (1-h.to)
 |7=> .pointer (some ⟨bh,5,none⟩)
 |8=>src 0
 |10=> .pointer (some ⟨bh,6,none⟩)
 |11=>src 1
 |13=> .pointer (some ⟨bh,9,none⟩)
 |14=>src 4
 |_=>undef
def flS(i:Nat):Prop:=i<15∧i≠9∧i≠12
def flR(i:Nat):Prop:=i=9∨i=12∨i=15
def flG(W0 W:World)(L:Nat→Bool)(v:Nat→Value)(b:Nat):Prop:=W0.heap.size≤b∧b<W.heap.size∧(L 17=true→v 4≠ .pointer (some ⟨b,0,none⟩))
structure FlC (W0:World) (bh:Nat) (h:Hp) (src:Nat→Value) (L:Nat→Bool) (v:Nat→Value) (W:World):Prop where
 b:Below W0.heap.size W0 W
 eq: ∀i,flS i→L i=true→v (16+i)=flEx bh h src i
 rd: ∀i,flR i→L i=true→Rd W (flG W0 W L v) (.sl ((flX h i).map vu)) (v (16+i))
 agg:L 16=true→ ∃y,v 32= .agg (flA h y)∧ ∀i,flR i→Rd W (flG W0 W L v) (.sl ((flX h i).map vu)) (y i)
 new:L 17=true→ ∃c,v 4= .pointer (some ⟨c,0,none⟩)∧W0.heap.size≤c∧c<W.heap.size∧(L 18=false→W.heap[c]? =some (.cells Z4 25 (0,0)))
 put:L 18=true→ ∃c y,v 4= .pointer (some ⟨c,0,none⟩)∧W0.heap.size≤c∧W.heap[c]? =some (.cells (flA h y) 25 (0,0))∧ ∀i,flR i→Rd W (flG W0 W L v) (.sl ((flX h i).map vu)) (y i)
 c18:L 18=true→L 17=true
section
variable {W0 W W':World} {bh:Nat} {h:Hp} {src:Nat→Value} {L:Nat→Bool} {v:Nat→Value}
theorem FlC.step(C:FlC W0 bh h src L v W){i s:Nat}(hi:i<17)(hs:s=16+i){x:Value}(hb:Below W.heap.size W W')(he:flS i→x=flEx bh h src i)
  (hr:flR i→Rd W' (fun b=>W.heap.size≤b∧b<W'.heap.size) (.sl ((flX h i).map vu)) x) (ha:i=16→ ∃y,x= .agg (flA h y)∧ ∀j,flR j→Rd W (flG W0 W L v) (.sl ((flX h j).map vu)) (y j)):FlC W0 bh h src (add L i) (setV v s x) W':=by
 subst hs
 have h18:add L i 18=L 18:=YC (by omega)
 have h17:add L i 17=L 17:=YC (by omega)
 have v4:setV v (16+i) x 4=v 4:=XF v x (by omega)
 have hG: ∀b,flG W0 W L v b→b<W.heap.size∧flG W0 W' (add L i) (setV v (16+i) x) b:=fun b hb'=>by
  obtain⟨h1,h2,h3⟩:=hb'
  refine⟨h2,h1,Nat.lt_of_lt_of_le h2 hb.size,?_⟩
  rw[h17,v4]
  exact h3
 have kp: ∀ {u:V} {z:Value},Rd W (flG W0 W L v) u z→Rd W' (flG W0 W' (add L i) (setV v (16+i) x)) u z:=fun hz=>hz.keep (fun b hb'=>hb.block b (hG b hb').1) fun b hb'=>(hG b hb').2
 refine⟨C.b.trans (hb.mono C.b.size),fun j hj hL=> ?_,fun j hj hL=> ?_,fun hL=> ?_,fun hL=> ?_,fun hL=> ?_,fun hL=> ?_⟩
 ·by_cases e:j=i
  ·subst e
   rw[YQ]
   exact he hj
  ·rw[YC e]at hL
   rw[XF v x (by omega)]
   exact C.eq j hj hL
 ·by_cases e:j=i
  ·subst e
   rw[YQ]
   refine(hr hj).mono fun b hb'=> ?_
   refine⟨Nat.le_trans C.b.size hb'.1,hb'.2,fun hL17=> ?_⟩
   rw[h17]at hL17
   rw[v4]
   obtain⟨c,e1,_,e3,_⟩:=C.new hL17
   rw[e1]
   intro e4
   cases e4
   omega
  ·rw[YC e]at hL
   rw[XF v x (by omega)]
   exact kp (C.rd j hj hL)
 ·by_cases e:i=16
  ·subst e
   obtain⟨y,e1,e2⟩:=ha rfl
   exact⟨y,by rw[←e1];exact YQ _ _ _,fun j hj=>kp (e2 j hj)⟩
  ·rw[YC (Ne.symm e)]at hL
   obtain⟨y,e1,e2⟩:=C.agg hL
   exact⟨y,by rw[XF v x (by omega)];exact e1,fun j hj=>kp (e2 j hj)⟩
 ·rw[h17]at hL
  obtain⟨c,e1,e2,e3,e4⟩:=C.new hL
  refine⟨c,by rw[v4];exact e1,e2,Nat.lt_of_lt_of_le e3 hb.size,fun h0=> ?_⟩
  rw[h18]at h0
  exact(hb.block c e3).trans (e4 h0)
 ·rw[h18]at hL
  obtain⟨c,y,e1,e2,e3,e4⟩:=C.put hL
  exact⟨c,y,by rw[v4];exact e1,e2,(hb.block c (Zz e3)).trans e3,fun j hj=>kp (e4 j hj)⟩
 ·rw[h18]at hL
  rw[h17]
  exact C.c18 hL
theorem FlC.pure(C:FlC W0 bh h src L v W){i s:Nat}(hi:flS i)(hs:s=16+i){x:Value}(he:x=flEx bh h src i):FlC W0 bh h src (add L i) (setV v s x) W:=
 C.step (by unfold flS at hi;omega) hs (Below.refl _ _) (fun _=>he) (fun h1=>by unfold flS at hi;unfold flR at h1;omega) (fun e=>by unfold flS at hi;omega)
theorem FlC.call(C:FlC W0 bh h src L v W){i s:Nat}(hi:flR i)(hs:s=16+i){x:Value}(hb:Below W.heap.size W W')(hr:Rd W' (fun b=>W.heap.size≤b∧b<W'.heap.size) (.sl ((flX h i).map vu)) x):FlC W0 bh h src (add L i) (setV v s x) W':=
 C.step (by unfold flR at hi;omega) hs hb (fun h1=>by unfold flS at h1;unfold flR at hi;omega) (fun _=>hr) (fun e=>by unfold flR at hi;omega)
theorem FlC.built(C:FlC W0 bh h src L v W)(h9:L 9=true)(h12:L 12=true)(h15:L 15=true):FlC W0 bh h src (add L 16) (setV v 32 (.agg (flA h fun i=>v (16+i)))) W:=
 C.step (by omega) rfl (Below.refl _ _) (fun h1=>by unfold flS at h1;omega) (fun h1=>by unfold flR at h1;omega) fun _=>⟨_,rfl,fun j hj=>C.rd j hj (by unfold flR at hj;rcases hj with rfl|rfl|rfl<;>assumption)⟩
theorem FlC.alloc(C:FlC W0 bh h src L v W)(h17:L 17=false):FlC W0 bh h src (add L 17) (setV v 4 (.pointer (some ⟨W.heap.size,0,none⟩))) (W.alloc (.cells Z4 25)):=by
 have h18:L 18=false:=by
  cases e:L 18 with
  |false=>rfl
  |true=>have:=C.c18 e;rw[h17]at this;cases this
 have hb:Below W.heap.size W (W.alloc (.cells Z4 25)):=(Below.refl _ _).alloc (Nat.le_refl _) _
 have hz:(W.alloc (.cells Z4 25)).heap.size=W.heap.size+1:=by simp
 have hG: ∀b,flG W0 W L v b→b<W.heap.size∧flG W0 (W.alloc (.cells Z4 25)) (add L 17) (setV v 4 (.pointer (some ⟨W.heap.size,0,none⟩))) b:=fun b hb'=>by
  obtain⟨h1,h2,h3⟩:=hb'
  refine⟨h2,h1,by omega,fun _=> ?_⟩
  rw[YQ]
  intro e
  cases e
  omega
 have kp: ∀ {u:V} {z:Value},Rd W (flG W0 W L v) u z→Rd (W.alloc (.cells Z4 25)) (flG W0 (W.alloc (.cells Z4 25)) (add L 17) (setV v 4 (.pointer (some ⟨W.heap.size,0,none⟩)))) u z:=fun hz=>hz.keep (fun b hb'=>hb.block b (hG b hb').1) fun b hb'=>(hG b hb').2
 refine⟨C.b.trans (hb.mono C.b.size),fun j hj hL=> ?_,fun j hj hL=> ?_,fun hL=> ?_,fun hL=> ?_,fun hL=> ?_,fun hL=> ?_⟩
 ·have hj':j<15:=hj.1
  rw[YC (by omega)]at hL
  rw[XF _ _ (by omega)]
  exact C.eq j hj hL
 ·have hj':j<17:=by unfold flR at hj;omega
  rw[YC (by omega)]at hL
  rw[XF _ _ (by omega)]
  exact kp (C.rd j hj hL)
 ·rw[YC (by omega)]at hL
  obtain⟨y,e1,e2⟩:=C.agg hL
  exact⟨y,by rw[XF _ _ (by omega)];exact e1,fun j hj=>kp (e2 j hj)⟩
 ·exact⟨W.heap.size,YQ _ _ _,C.b.size,by omega,fun _=>heap_alloc_new W _⟩
 ·rw[YC (by omega),h18]at hL
  cases hL
 ·exact T7 _ _
theorem FlC.store(C:FlC W0 bh h src L v W){c:Nat}(hc:v 4= .pointer (some ⟨c,0,none⟩)){y:Nat→Value}(hy:v 32= .agg (flA h y))(h17:L 17=true)(h16:L 16=true)(hn:L 18=false)(hz:W.heap[c]? =some (.cells Z4 25 (0,0)))
  (hW: ∀b,b≠c→W'.heap[b]? =W.heap[b]?) (hs:W'.heap.size=W.heap.size) (hp:W'.heap[c]? =some (.cells (flA h y) 25 (0,0))) (hb:Below W0.heap.size W W'):FlC W0 bh h src (add L 18) v W':=by
 have a17:add L 18 17=L 17:=YC (by omega)
 have hG: ∀b,flG W0 W L v b→b≠c∧flG W0 W' (add L 18) v b:=fun b hb'=>by
  obtain⟨h1,h2,h3⟩:=hb'
  refine⟨fun e=> ?_,h1,by omega,by rw[a17];exact h3⟩
  subst e
  exact h3 h17 hc
 have kp: ∀ {u:V} {z:Value},Rd W (flG W0 W L v) u z→Rd W' (flG W0 W' (add L 18) v) u z:=fun hz=>hz.keep (fun b hb'=>hW b (hG b hb').1) fun b hb'=>(hG b hb').2
 obtain⟨c',e1,e2,e3,_⟩:=C.new h17
 rw[hc]at e1
 cases e1
 refine⟨C.b.trans hb,fun j hj hL=> ?_,fun j hj hL=> ?_,fun hL=> ?_,fun hL=> ?_,fun hL=> ?_,fun hL=>by rw[a17];exact h17⟩
 ·have hj':j<15:=hj.1
  rw[YC (by omega)]at hL
  exact C.eq j hj hL
 ·have hj':j<17:=by unfold flR at hj;omega
  rw[YC (by omega)]at hL
  exact kp (C.rd j hj hL)
 ·obtain⟨y,e1,e2⟩:=C.agg h16
  exact⟨y,e1,fun j hj=>kp (e2 j hj)⟩
 ·refine⟨c,hc,e2,by omega,fun h0=> ?_⟩
  rw[T7]at h0
  cases h0
 ·obtain⟨y',f1,f2⟩:=C.agg h16
  rw[hy]at f1
  have hyy: ∀i,flR i→y' i=y i:=fun i hi=>by
   have e:flA h y=flA h y':=by injection f1
   unfold flA at e
   unfold flR at hi
   simp at e
   rcases hi with rfl|rfl|rfl
   ·exact e.1.symm
   ·exact e.2.1.symm
   ·exact e.2.2.symm
  exact⟨c,y,hc,e2,hp,fun j hj=>by rw[←hyy j hj];exact kp (f2 j hj)⟩
end
end Vm
end
section
namespace Vm
open Go Go.Proofs
set_option maxRecDepth 100000
def XL(l:List Ob):List (Int×Int):=(l.filter fun o=>o.gone).map fun o=>(o.size,o.ptrs)
theorem L2{ws:List Int}{shs:List (Int×Int)}{old:Bool}: ∀(l:List Ob) (f a tk:Nat) (acc:List Ob),Tiles ws old a l→ws.length<f+a→0<f→shs.drop tk=XL l→Ys ws shs old f a tk acc=(acc++l,0)
 | [],f,a,tk,acc,ht,hf,h0,hs=>by
   obtain⟨f,rfl⟩: ∃f',f=f'+1:=⟨f-1,by omega⟩
   have:ws.length≤a:=ht
   have h2:shs.length≤tk:=List.drop_eq_nil_iff.1 hs
   rw[Ys,List.getElem?_eq_none this]
   simp only
   rw[if_neg (by omega),List.append_nil]
 |o::l,f,a,tk,acc,ht,hf,h0,hs=>by
  obtain⟨f,rfl⟩: ∃f',f=f'+1:=⟨f-1,by omega⟩
  obtain⟨h1,h2,h3⟩:=ht
  obtain⟨w,hw,hc⟩:=h2.word
  have hsh:=Z6.1 h2.shape
  have hfit:=h2.fits
  have hsl:=h2.slots
  rw[h1]at hw hfit hsl
  simp only[Int.toNat_natCast]at hw hsl
  have hrec: ∀tk':Nat,shs.drop tk'=XL l→Ys ws shs old f (a+1+o.size.toNat) tk' (acc++ [o])=(acc++o::l,0):=fun tk' hs'=>by
   rw[L2 l f _ tk' _ h3 (by omega) (by omega) hs']
   simp
  have hobj: ∃tk',objR shs old a tk w=some (o,tk')∧shs.drop tk'=XL l:=by
   unfold objR
   cases hg:o.gone
   ·rw[hg]at hc
    simp only[Bool.false_eq_true,if_false]at hc
    rw[if_neg (fun h=>hc.1 h.1 h.2),hc.2.1]
    refine⟨tk,?_,?_⟩
    ·simp only[if_true]
     obtain⟨oa,os,op,og,ot⟩:=o
     simp only at hg h1 hc⊢
     rw[hg,h1,hc.2.2]
    ·rw[hs]
     simp[XL,hg]
   ·rw[hg]at hc
    simp only[if_true]at hc
    rw[if_pos ⟨hc.1,hc.2.1⟩]
    have hd:shs.drop tk=(o.size,o.ptrs)::XL l:=by rw[hs];simp[XL,hg]
    have hlt:tk<shs.length:=by
     have:=congrArg List.length hd
     simp at this
     omega
    rw[List.drop_eq_getElem_cons hlt]at hd
    have e1:=(List.cons.inj hd).1
    have e2:=(List.cons.inj hd).2
    rw[List.getElem?_eq_getElem hlt,e1]
    simp only[h2.shape,if_true]
    refine⟨tk+1,?_,e2⟩
    obtain⟨oa,os,op,og,ot⟩:=o
    simp only at hg h1 hc⊢
    rw[hg,h1,hc.2.2]
  obtain⟨tk',ho,hs'⟩:=hobj
  rw[Ys,hw]
  simp only
  rw[ho]
  simp only
  rw[if_neg (by omega),if_neg (by rw[hsl];simp)]
  exact hrec tk' hs'
theorem UV{ws:List Int}{shs:List (Int×Int)}{old:Bool}{l:List Ob}(ht:Tiles ws old 0 l)(hs:shs=XL l):Zl ws shs old=(l,0):=by
 unfold Zl
 rw[L2 l (ws.length+1) 0 0 [] ht (by omega) (by omega) (by simpa using hs),List.nil_append]
def RS(h:Hp)(low l:List Ob):Prop:= ∀o∈l,o.gone=true→ ∃q,atR h 1 low o.target=some q∧q.size=o.size∧q.ptrs=o.ptrs
theorem WQ{h:Hp}{ws:List Int}{low:List Ob}: ∀(l:List Ob) (f i:Nat) (acc:List (Int×Int)),Tiles ws true i l→ws.length<f+i→0<f→RS h low l→ZR h ws low f i acc=some (acc++XL l)
 | [],f,i,acc,ht,hf,h0,hg=>by
   obtain⟨f,rfl⟩: ∃f',f=f'+1:=⟨f-1,by omega⟩
   have:ws.length≤i:=ht
   rw[ZR,List.getElem?_eq_none this]
   simp[XL]
 |o::l,f,i,acc,ht,hf,h0,hg=>by
  obtain⟨f,rfl⟩: ∃f',f=f'+1:=⟨f-1,by omega⟩
  obtain⟨h1,h2,h3⟩:=ht
  obtain⟨w,hw,hc⟩:=h2.word
  have hsh:=Z6.1 h2.shape
  have hfit:=h2.fits
  rw[h1]at hw hfit
  simp only[Int.toNat_natCast]at hw
  have hg':RS h low l:=fun q hq=>hg q (List.mem_cons_of_mem _ hq)
  rw[ZR,hw]
  simp only
  cases hgo:o.gone
  ·rw[hgo]at hc
   simp only[Bool.false_eq_true,if_false,true_implies]at hc
   rw[if_neg hc.1,hc.2.1]
   simp only[if_true]
   rw[WQ l f _ acc h3 (by omega) (by omega) hg']
   simp[XL,hgo]
  ·rw[hgo]at hc
   simp only[if_true,true_and]at hc
   rw[if_pos hc.1]
   obtain⟨q,hq,e1,e2⟩:=hg o (.head _) hgo
   rw[←hc.2,hq]
   simp only
   rw[e1,e2,WQ l f _ _ h3 (by omega) (by omega) hg']
   simp[XL,hgo]
theorem je{h:Hp}{p:Pts}(h1:Tiles h.low false 0 p.low)(h2:Tiles h.high false 0 p.high)(h3:Tiles h.old true 0 p.old)(h4:Tiles h.far true 0 p.far)(g3:RS h p.low p.old)(g4:RS h p.low p.far):ZY h=some p:=by
 have ng: ∀ {ws:List Int} {a:Nat} {l:List Ob},Tiles ws false a l→XL l= []:=fun {ws a l} ht=>by
  unfold XL
  rw[List.map_eq_nil_iff,List.filter_eq_nil_iff]
  intro o ho hg
  obtain⟨w,_,hc⟩:=(ht.stands o ho).1.word
  rw[if_pos hg]at hc
  cases hc.1
 unfold ZY
 rw[UV h1 (ng h1).symm,UV h2 (ng h2).symm]
 unfold ZU
 simp only[ne_eq,not_true_eq_false,or_self,if_false]
 rw[WQ p.old _ 0 [] h3 (by omega) (by omega) g3,WQ p.far _ 0 [] h4 (by omega) (by omega) g4]
 simp only[List.nil_append,Option.getD_some]
 rw[UV h3 rfl,UV h4 rfl]
 simp
theorem ju{h:Hp}{p:Pts}(hn:numR h=true)(hp:ZY h=some p)(hr:Vw h p=true):Yb h=true:=by
 unfold Yb
 rw[hn,hp]
 simpa using hr
theorem Z2O{h:Hp}{k:Int}{l:List Ob}{o:Ob}(ho:o∈l)(hd: ∀q∈l,ZA h k q.at_=ZA h k o.at_→q=o):atR h k l (ZA h k o.at_)=some o:=by
 unfold atR
 induction l with
 |nil=>simp at ho
 |cons x l ih=>
  rw[List.find?_cons]
  by_cases hx:ZA h k x.at_=ZA h k o.at_
  ·rw[hd x (.head _) hx]
   simp
  ·have:(ZA h k x.at_==ZA h k o.at_)=false:=by simpa using hx
   rw[this]
   rcases List.mem_cons.1 ho with rfl|ho
   ·exact absurd rfl hx
   ·exact ih ho fun q hq=>hd q (List.mem_cons_of_mem _ hq)
theorem Lm{h:Hp}{k:Int}{l:List Ob}{a:Int}:(atR h k l a).isSome=true↔ ∃o∈l,ZA h k o.at_=a:=by
 unfold atR
 rw[List.find?_isSome]
 simp
end Vm
end
section
namespace Vm
open Go Go.Proofs
set_option maxRecDepth 100000
structure Tld (h:Hp) (p:Pts):Prop where
 lay:Z8 (layH h)=true
 tiles: ∀k:Int,1≤k∧k≤4→Tiles (Z9 h k) (decide (2<k)) 0 (p.at k)
def Gos(h:Hp)(p:Pts)(w one two:Int):Prop:=w=0∨ ∃k o,(k=one∨k=two)∧o∈p.at k∧w=refR (layH h) k o.at_
def UE(h:Hp)(p:Pts)(k:Int)(i:Nat)(w:Int):Prop:=if 2<k then Gos h p w 3 4 else if k=1∧h.scan≤i then Gos h p w 1 2∨Gos h p w 3 4 else Gos h p w 1 2
section
variable {h:Hp} {p:Pts}
theorem Tld.ob(t:Tld h p){k:Int}(hk:1≤k∧k≤4){o:Ob}(ho:o∈p.at k): ∃a n m:Nat,o.at_=a∧o.size=n∧o.ptrs=m∧a+(n+1)≤(Z9 h k).length∧n≤255∧m≤n:=by
 have hs:=((t.tiles k hk).stands o ho).1
 have h1:=Z6.1 hs.shape
 obtain⟨a,ha⟩:=Int.eq_ofNat_of_zero_le hs.nat
 obtain⟨n,hn⟩:=Int.eq_ofNat_of_zero_le h1.1
 obtain⟨m,hm⟩:=Int.eq_ofNat_of_zero_le h1.2.2.1
 have:=hs.fits
 exact⟨a,n,m,ha,hn,hm,by omega,by omega,by omega⟩
theorem Tld.start(t:Tld h p){k:Int}(hk:1≤k∧k≤4){o:Ob}(ho:o∈p.at k):ZA h k o.at_=fstL (layH h) k+o.at_:=by
 obtain⟨a,n,m,ha,_,_,hl,_⟩:=t.ob hk ho
 unfold ZA
 rw[Kj t.lay hk (by rw[Yo hk];omega)]
theorem Tld.same_at(t:Tld h p){k:Int}(hk:1≤k∧k≤4){o q:Ob}(ho:o∈p.at k)(hq:q∈p.at k)(e:q.at_=o.at_):q=o:=by
 rcases(t.tiles k hk).apart q hq o ho with h1|h1|h1
 ·exact h1
 ·have:=Z6.1 ((t.tiles k hk).stands q hq).1.shape;omega
 ·have:=Z6.1 ((t.tiles k hk).stands o ho).1.shape;omega
theorem Tld.find(t:Tld h p){k:Int}(hk:1≤k∧k≤4){o:Ob}(ho:o∈p.at k):atR h k (p.at k) (fstL (layH h) k+o.at_)=some o:=by
 rw[←t.start hk ho]
 refine Z2O ho fun q hq e=>t.same_at hk ho hq ?_
 rw[t.start hk ho,t.start hk hq]at e
 omega
theorem Tld.inj(t:Tld h p){k j:Int}(hk:1≤k∧k≤4)(hj:1≤j∧j≤4){o q:Ob}(ho:o∈p.at k)(hq:q∈p.at j)(e:refR (layH h) k o.at_=refR (layH h) j q.at_):k=j∧o=q:=by
 obtain⟨a,n,m,ha,_,_,hl,_⟩:=t.ob hk ho
 obtain⟨b,n',m',hb,_,_,hl',_⟩:=t.ob hj hq
 obtain⟨e1,e2⟩:=qS t.lay hk hj (by rw[Yo hk];omega) (by rw[Yo hj];omega) e
 subst e1
 exact⟨rfl,t.same_at hk hq ho e2⟩
theorem Tld.adr(t:Tld h p){k:Int}(hk:1≤k∧k≤4){o:Ob}(ho:o∈p.at k):adr (refR (layH h) k o.at_)=(fstL (layH h) k+o.at_,0):=by
 obtain⟨a,n,m,ha,_⟩:=t.ob hk ho
 exact TS t.lay (by omega)
theorem Tld.at_iff(t:Tld h p){k:Int}(hk:1≤k∧k≤4){w:Int}(h0:(Vm.adr w).2=0):(atR h k (p.at k) (Vm.adr w).1).isSome=true↔ ∃o∈p.at k,w=refR (layH h) k o.at_:=by
 rw[Lm]
 constructor
 ·rintro⟨o,ho,e⟩
  rw[t.start hk ho]at e
  exact⟨o,ho,zS h0 e.symm⟩
 ·rintro⟨o,ho,rfl⟩
  exact⟨o,ho,by rw[t.adr hk ho,t.start hk ho]⟩
theorem Tld.goes_iff(t:Tld h p){i j:Int}(hi:1≤i∧i≤4)(hj:1≤j∧j≤4){w:Int}:Ym h p w i j=true↔Gos h p w i j:=by
 unfold Ym Gos
 by_cases h0:w=0
 ·simp[h0]
 by_cases h1:(Vm.adr w).2=0
 ·simp only[h0,h1,decide_true,decide_false,Bool.false_or,Bool.true_and,Bool.or_eq_true,false_or,t.at_iff hi h1,t.at_iff hj h1]
  constructor
  ·rintro(⟨o,ho,e⟩ | ⟨o,ho,e⟩)
   ·exact⟨i,o,.inl rfl,ho,e⟩
   ·exact⟨j,o,.inr rfl,ho,e⟩
  ·rintro⟨k,o,rfl|rfl,ho,e⟩
   ·exact .inl ⟨o,ho,e⟩
   ·exact .inr ⟨o,ho,e⟩
 ·simp only[h0,h1,decide_false,Bool.false_and,Bool.or_self,Bool.false_eq_true,false_or,false_iff]
  rintro⟨k,o,hk,ho,rfl⟩
  have hk4:1≤k∧k≤4:=by rcases hk with rfl|rfl<;>assumption
  exact h1 (by rw[t.adr hk4 ho])
theorem UC: ∀ {l:List Int} {ptrs:Int} {i:Nat},ZB l true ptrs i=true→ ∀w∈l,w=0
 | [],_,_,_,w,hw=>by simp at hw
 |y::l,ptrs,i,hs,w,hw=>by
  simp only[ZB,Bool.and_eq_true]at hs
  rcases List.mem_cons.1 hw with rfl|hw
  ·have h1:=hs.1
   simp at h1
   exact h1.1
  ·exact UC hs.2 w hw
theorem Tld.slot(t:Tld h p){k:Int}(hk:1≤k∧k≤4){o:Ob}(ho:o∈p.at k){j:Nat}(hj:(j:Int) <o.size): ∃w,(Z9 h k)[o.at_.toNat+1+j]? =some w∧(o.gone=true→w=0):=by
 obtain⟨a,n,m,ha,hn,hm,hl,_⟩:=t.ob hk ho
 have hlt:a+1+j< (Z9 h k).length:=by omega
 refine⟨(Z9 h k)[a+1+j],by rw[ha,Int.toNat_natCast];exact List.getElem?_eq_getElem hlt,fun hg=> ?_⟩
 have hs:=((t.tiles k hk).stands o ho).1.slots
 rw[hg]at hs
 refine UC hs _ ?_
 rw[ha,hn,Int.toNat_natCast,Int.toNat_natCast]
 refine List.mem_of_getElem? (i:=j) ?_
 rw[List.getElem?_take_of_lt (by omega),List.getElem?_drop]
 exact List.getElem?_eq_getElem hlt
end
structure Body (h:Hp) (p:Pts):Prop extends Tld h p where
 gone: ∀k:Int,3≤k∧k≤4→ ∀o∈p.at k,o.gone=true→ ∃q∈p.low,o.target=fstL (layH h) 1+q.at_∧q.size=o.size∧q.ptrs=o.ptrs
 ptr: ∀k:Int,1≤k∧k≤4→ ∀o∈p.at k,o.gone=false→ ∀j:Nat,(j:Int) <o.ptrs→ ∀w,(Z9 h k)[o.at_.toNat+1+j]? =some w→UE h p k (o.at_.toNat+1+j) w
 room:(h.low.length:Int)+h.high.length+Wk p≤h.cap
structure Rt (h:Hp) (p:Pts):Prop extends Body h p where
 nroots:h.roots.length≤16
 scan0:0≤h.scan
 scanL:h.scan≤h.low.length
 cyc:h.cycle=true→h.scan<h.low.length
 rest:h.cycle=false→h.scan=h.low.length∧h.old= []∧h.far= []
 once:h.cycle=true→ ∀o∈p.low,Vx p (fstL (layH h) 1+o.at_)=1
 roots: ∀w∈h.roots,Gos h p w 1 2
section
variable {h:Hp} {p:Pts}
theorem J0(t:Tld h p){k:Int}{i:Nat}{w:Int}(hw:(Z9 h k)[i]? =some w):Xr h p k i=true↔UE h p k i w:=by
 unfold Xr UE
 simp only[hw,Option.getD_some]
 split
 ·exact t.goes_iff (by omega) (by omega)
 split
 ·rw[Bool.or_eq_true,t.goes_iff (by omega) (by omega),t.goes_iff (by omega) (by omega)]
 ·exact t.goes_iff (by omega) (by omega)
theorem zb(k:Int)(i:Nat):UE h p k i 0:=by
 unfold UE
 split
 ·exact .inl rfl
 split
 ·exact .inl (.inl rfl)
 ·exact .inl rfl
theorem KG(t:Tld h p){k:Int}(hk:1≤k∧k≤4):YG h p k=true↔ ∀o∈p.at k,o.gone=false→ ∀j:Nat,(j:Int) <o.ptrs→ ∀w,(Z9 h k)[o.at_.toNat+1+j]? =some w→UE h p k (o.at_.toNat+1+j) w:=by
 unfold YG VU
 simp only[List.all_eq_true,List.mem_range]
 constructor
 ·intro hp o ho _ j hj w hw
  exact(J0 t hw).1 (hp o ho j (by omega))
 ·intro hp o ho j hj
  obtain⟨a,n,m,ha,hn,hm,hl,_⟩:=t.ob hk ho
  obtain⟨w,hw,hz⟩:=t.slot hk ho (j:=j) (by omega)
  refine(J0 t hw).2 ?_
  cases hg:o.gone
  ·exact hp o ho hg j (by omega) w hw
  ·rw[hz hg];exact zb _ _
theorem RightH.tld(r:RightH h p):Tld h p:=⟨r.lay,fun k hk=>r.tiles hk⟩
theorem RightH.rt(r:RightH h p):Rt h p:=by
 have t:=r.tld
 have hn:=r.num
 have ho:=r.ok
 unfold numR at hn
 unfold Vw at ho
 simp only[Bool.and_eq_true,decide_eq_true_eq]at hn ho
 obtain⟨⟨⟨⟨n1,n2⟩,n3⟩,n4⟩,n5⟩:=hn
 obtain⟨⟨⟨⟨⟨⟨o1,o2⟩,o3⟩,o4⟩,o5⟩,o6⟩,o7⟩:=ho
 have hptr: ∀k:Int,1≤k∧k≤4→YG h p k=true:=fun k hk=>by
  have:k=1∨k=2∨k=3∨k=4:=by omega
  rcases this with rfl|rfl|rfl|rfl<;>assumption
 refine⟨⟨t,fun k hk o ho hg=> ?_,fun k hk=>(KG t hk).1 (hptr k hk),o7⟩,n2,n3,n4,fun hc=> ?_,fun hc=> ?_,fun hc o ho=> ?_,fun w hw=> ?_⟩
 ·obtain⟨q,hq,e,e1,e2⟩:=r.gone_low hk ho hg
  exact⟨q,hq,by rw[←e,t.start (k:=1) (by omega) hq],e1,e2⟩
 ·rw[hc]at n5;simpa using n5
 ·rw[hc]at n5
  simp at n5
  exact⟨n5.1.1,n5.1.2,n5.2⟩
 ·rw[hc]at o1
  simp only[Bool.not_true,Bool.false_or,List.all_eq_true]at o1
  have:=o1 o ho
  unfold tgOk at this
  rw[t.start (k:=1) (by omega) ho]at this
  simpa using this
 ·exact(t.goes_iff (by omega) (by omega)).1 (List.all_eq_true.1 o2 w hw)
theorem Rt.parts(r:Rt h p):ZY h=some p:=by
 have g: ∀k:Int,3≤k∧k≤4→RS h p.low (p.at k):=fun k hk o ho hg=>by
  obtain⟨q,hq,e,e1,e2⟩:=r.gone k hk o ho hg
  exact⟨q,by rw[e];exact r.toTld.find (k:=1) (by omega) hq,e1,e2⟩
 exact je (r.tiles 1 (by omega)) (r.tiles 2 (by omega)) (r.tiles 3 (by omega)) (r.tiles 4 (by omega)) (g 3 (by omega)) (g 4 (by omega))
theorem Rt.right(r:Rt h p):Yb h=true:=by
 have t:=r.toTld
 refine ju ?_ r.parts ?_
 ·unfold numR
  simp only[Bool.and_eq_true,decide_eq_true_eq]
  refine⟨⟨⟨⟨r.lay,r.nroots⟩,r.scan0⟩,r.scanL⟩,?_⟩
  cases hc:h.cycle
  ·obtain⟨e1,e2,e3⟩:=r.rest hc
   simp[e1,e2,e3]
  ·simp[r.cyc hc]
 ·unfold Vw
  simp only[Bool.and_eq_true,decide_eq_true_eq]
  have hp:=fun k hk=>(KG t hk).2 (r.ptr k hk)
  refine⟨⟨⟨⟨⟨⟨?_,?_⟩,hp 1 (by omega)⟩,hp 2 (by omega)⟩,hp 3 (by omega)⟩,hp 4 (by omega)⟩,r.room⟩
  ·cases hc:h.cycle
   ·rfl
   ·simp only[Bool.not_true,Bool.false_or,List.all_eq_true]
    intro o ho
    unfold tgOk
    rw[t.start (k:=1) (by omega) ho,decide_eq_true_eq]
    exact r.once hc o ho
  ·rw[List.all_eq_true]
   exact fun w hw=>(t.goes_iff (by omega) (by omega)).2 (r.roots w hw)
theorem VH:Yb h=true↔ ∃p,Rt h p:=
 ⟨fun hr=>by obtain⟨p,r⟩:=zV hr;exact⟨p,r.rt⟩,fun⟨p,r⟩=>r.right⟩
end
end Vm
end
section
namespace Vm
open Go Go.Proofs
set_option maxRecDepth 100000
def szL(l:List Ob):Nat:=(l.map fun o=>1+o.size.toNat).sum
theorem Tiles.sum{ws:List Int}{old:Bool}: ∀ {a:Nat} {l:List Ob},Tiles ws old a l→a≤ws.length→a+szL l=ws.length
 |a,[],h,ha=>by have:ws.length≤a:=h;simp[szL];omega
 |a,o::l,h,ha=>by
  have hs:=Z6.1 h.2.1.shape
  have hf:=h.2.1.fits
  rw[h.1]at hf
  have:=Tiles.sum h.2.2 (by omega)
  simp[szL]at this⊢
  omega
theorem Tiles.no_gone{ws:List Int}{a:Nat}{l:List Ob}(h:Tiles ws false a l): ∀o∈l,o.gone=false:=fun o ho=>by
 obtain⟨w,_,hc⟩:=(h.stands o ho).1.word
 cases hg:o.gone
 ·rfl
 ·rw[if_pos hg]at hc;cases hc.1
def gnL(l:List Ob):Nat:=(l.map fun o=>if o.gone then 1+o.size.toNat else 0).sum
theorem Z4l(l:List Ob):wtL l+gnL l=szL l:=by
 induction l with
 |nil=>rfl
 |cons o l ih=>
  simp only[wtL,gnL,szL,List.map_cons,List.sum_cons,wtO]at ih⊢
  cases o.gone<;>simp<;>omega
theorem ji{L:List Ob}{f:Ob→Nat}(h: ∀o∈L,f o=0):(L.map f).sum=0:=by
 induction L with
 |nil=>rfl
 |cons x L ih=>rw[List.map_cons,List.sum_cons,h x (.head _),ih fun o ho=>h o (.tail _ ho)]
section
variable {h:Hp} {p:Pts}
theorem Tld.low_at(t:Tld h p){o:Ob}(ho:o∈p.low):0≤o.at_∧o.at_<h.low.length:=by
 obtain⟨a,n,m,ha,_,_,hl,_⟩:=t.ob (k:=1) (by omega) ho
 simp only[Ux]at hl
 omega
theorem Tiles.pairwise{ws:List Int}{old:Bool}: ∀ {a:Nat} {l:List Ob},Tiles ws old a l→l.Pairwise fun x y=>x.at_<y.at_
 |_,[],_=> .nil
 |a,o::l,h=>by
  have hs:=Z6.1 h.2.1.shape
  refine .cons (fun y hy=> ?_) (Tiles.pairwise h.2.2)
  have:=(Tiles.stands h.2.2 y hy).2
  rw[h.1]
  omega
end
end Vm
end
section
namespace Vm
open Go Go.Proofs
set_option maxRecDepth 100000
section
variable {h:Hp} {p:Pts}
theorem Body.fwd_here(r:Body h p){k:Int}(hk:1≤k∧k≤2){o:Ob}(ho:o∈p.at k):Vm.fwd h (refR (layH h) k o.at_)=(refR (layH h) k o.at_,h,0):=by
 obtain⟨a,n,m,ea,_,_,hl,_⟩:=r.toTld.ob (by omega) ho
 exact Vm.fwd_here r.lay hk ⟨by omega,by omega⟩
theorem Body.fwd_gone(r:Body h p){k:Int}(hk:3≤k∧k≤4){o:Ob}(ho:o∈p.at k)(hg:o.gone=true):Vm.fwd h (refR (layH h) k o.at_)=(2*o.target+1,h,0):=by
 obtain⟨a,n,m,ea,_,_,hl,_⟩:=r.toTld.ob (by omega) ho
 obtain⟨u,hu,hc⟩:=((r.tiles k (by omega)).stands o ho).1.word
 rw[if_pos hg]at hc
 rw[ea,Int.toNat_natCast]at hu
 rw[ea,Vm.fwd_gone r.lay hk hu hc.2.1,zS hc.2.1 hc.2.2.symm]
theorem Body.fwd_wait(r:Body h p){k:Int}(hk:3≤k∧k≤4){o:Ob}(ho:o∈p.at k)(hg:o.gone=false){a n:Nat}(ea:o.at_=a)(en:o.size=n):
  Vm.fwd h (refR (layH h) k o.at_)=(refR (layH h) 1 h.low.length,movH h k a (n+1),0)∧((n+1:Nat):Int)≤Y1 (layH h):=by
 obtain⟨a',n',m,ea',en',_,hl,_⟩:=r.toTld.ob (by omega) ho
 have:a'=a:=by omega
 subst this
 have:n'=n:=by omega
 subst this
 obtain⟨u,hu,hc⟩:=((r.tiles k (by omega)).stands o ho).1.word
 rw[if_neg (by simp[hg])]at hc
 rw[ea,Int.toNat_natCast]at hu
 have hrm:=r.room
 have hw:=zp hk ho
 unfold wtO at hw
 rw[hg,en]at hw
 simp at hw
 have e:Y1 (layH h)=h.cap-h.low.length-h.high.length:=by unfold Y1;rw[if_pos r.lay];rfl
 have hm:((n'+1:Nat):Int)≤Y1 (layH h):=by omega
 rw[ea]
 exact⟨Vm.fwd_wait r.lay hk hu (hc.1 (decide_eq_true (by omega))) (by rw[hc.2.1,en]) hl hm,hm⟩
end
theorem SC(h:Hp){k:Int}(hk:3≤k∧k≤4)(a n:Nat):(movH h k a n).low=h.low++((Z9 h k).take (a+n)).drop a∧(movH h k a n).high=h.high∧Z9 (movH h k a n) k=(zr (Z9 h k) a n).set a (refR (layH h) 1 h.low.length)∧Z9 (movH h k a n) (7-k)=Z9 h (7-k)∧
  (movH h k a n).roots=h.roots∧(movH h k a n).scan=h.scan∧(movH h k a n).cycle=h.cycle∧(movH h k a n).cap=h.cap∧(movH h k a n).base=h.base∧(movH h k a n).to=h.to:=by
 have:k=3∨k=4:=by omega
 rcases this with rfl|rfl<;>exact⟨rfl,rfl,rfl,rfl,rfl,rfl,rfl,rfl,rfl,rfl⟩
end Vm
end
section
namespace Vm
open Go Go.Proofs
set_option maxRecDepth 100000
set_option maxHeartbeats 1000000
def ndAt(b:Bt)(i:Nat):Nd:=(b.g.nodes[i]?).getD default
def Kv(b:Bt)(i:Nat):Pl:=(b.here[i]?).getD ⟨0,0⟩
def Z34(b:Bt)(i:Nat):Pl:=(b.old[i]?).getD ⟨0,0⟩
def hdrN(n:Nd):Int:=(T8 ((n.ptrs.length:Int)+n.data.length) n.ptrs.length).1
def Z2Q(b:Bt)(p:Pl)(n:Nd)(tw:Int):List Int:=hdrN n::(X0 b p p.at_.toNat n.ptrs tw++n.data)
def Z4B(b:Bt)(p:Pl)(n:Nd):List Int:=refB b.h p::List.replicate (sizN n-1) 0
def blk(b:Bt)(x:Rw)(k:Int)(i:Nat):List Int:=
 if(Kv b i).part=k then Z2Q b (Kv b i) (ndAt b i) (IntKind.i64.wrap (x.slack+i))
 else if(Z34 b i).part=k then(if(Kv b i).part=0 then Z2Q b (Z34 b i) (ndAt b i) 0 else Z4B b (Kv b i) (ndAt b i))
 else []
end Vm
end
section
namespace Vm
open Go Go.Proofs
set_option maxRecDepth 100000
set_option maxHeartbeats 1000000
end Vm
end
section
namespace Vm
open Go Go.Proofs
set_option maxRecDepth 100000
set_option maxHeartbeats 1000000
theorem XU{gone:Bool}{ptrs:Int}: ∀ {l:List Int} {i:Nat},(∀(j:Nat) (w:Int),l[j]? =some w→(gone=true→w=0)∧(((i+j:Nat):Int) <ptrs→VV w=true))→ZB l gone ptrs i=true
 | [],_,_=>rfl
 |w::l,i,h=>by
  obtain⟨h1,h2⟩:=h 0 w rfl
  have ih:ZB l gone ptrs (i+1)=true:=XU fun j y hy=>by
   have:=h (j+1) y hy
   rw[show i+1+j=i+(j+1)by omega]
   exact this
  rw[ZB,ih]
  cases gone
  ·by_cases hp:(i:Int) <ptrs
   ·simp[h2 (by simpa using hp)]
   ·simp[hp]
  ·rw[h1 rfl]
   simp[VV]
end Vm
end
section
namespace Vm
open Go Go.Proofs
set_option maxRecDepth 100000
theorem WL{gone:Bool}{ptrs:Int}: ∀ {l:List Int} {i:Nat},ZB l gone ptrs i=true→ ∀(j:Nat) (w:Int),l[j]? =some w→(gone=true→w=0)∧(((i+j:Nat):Int) <ptrs→VV w=true)
 | [],_,_,j,w,hw=>by simp at hw
 |y::l,i,hs,j,w,hw=>by
  simp only[ZB,Bool.and_eq_true]at hs
  cases j with
  |zero=>
   simp at hw
   subst hw
   obtain⟨⟨h1,h2⟩,_⟩:=hs
   refine⟨fun hg=> ?_,fun hp=> ?_⟩
   ·rw[hg]at h1;simpa using h1
   ·simpa[show(i:Int) <ptrs by omega]using h2
  |succ j=>
   have:=WL hs.2 j w (by simpa using hw)
   rw[show i+1+j=i+(j+1)by omega]at this
   exact this
theorem Stands.congr{ws ws':List Int}{old:Bool}{o:Ob}(s:Stands ws old o)(hl:ws'.length=ws.length)(h0:ws'[o.at_.toNat]? =ws[o.at_.toNat]?)
  (h1: ∀j:Nat,(j:Int) <o.size→ws'[o.at_.toNat+1+j]? =ws[o.at_.toNat+1+j]? ∨(o.gone=false∧o.ptrs≤j)):Stands ws' old o:=by
 refine⟨s.nat,s.shape,by rw[hl];exact s.fits,XU fun j w hw=> ?_,by rw[h0];exact s.word⟩
 have hlt:j<o.size.toNat:=by
  have:=(List.getElem?_eq_some_iff.1 hw).1
  simp at this
  omega
 rw[List.getElem?_take_of_lt hlt,List.getElem?_drop]at hw
 rcases h1 j (by omega)with h1| ⟨hg,hp⟩
 ·rw[h1]at hw
  refine WL s.slots j w ?_
  rw[List.getElem?_take_of_lt hlt,List.getElem?_drop]
  exact hw
 ·exact⟨fun h=>(by rw[hg]at h;cases h),fun h=>(by omega)⟩
end Vm
end
section
namespace Vm
open Go Go.Proofs
set_option maxRecDepth 100000
theorem Z2Y{ws:List Int}{a:Nat}: ∀ {n j:Nat},j<n→a+n≤ws.length→(zr ws a n)[a+j]? =some 0
 |0,_,h,_=>by omega
 |n+1,j,h,hl=>by
  rw[zr]
  by_cases e:j=n
  ·subst e
   rw[List.getElem?_set_self (by rw[Kz];omega)]
  ·rw[List.getElem?_set_ne (by omega)]
   exact Z2Y (by omega) (by omega)
theorem Stands.app{ws r:List Int}{old:Bool}{o:Ob}(s:Stands ws old o):Stands (ws++r) old o:=by
 have hs:=Z6.1 s.shape
 have hf:=s.fits
 have hn:=s.nat
 have e0:(ws++r)[o.at_.toNat]? =ws[o.at_.toNat]? :=List.getElem?_append_left (by omega)
 refine⟨s.nat,s.shape,by simp;omega,XU fun j w hw=> ?_,by rw[e0];exact s.word⟩
 have hlt:j<o.size.toNat:=by
  have:=(List.getElem?_eq_some_iff.1 hw).1
  simp at this
  omega
 rw[List.getElem?_take_of_lt hlt,List.getElem?_drop,List.getElem?_append_left (by omega)]at hw
 refine WL s.slots j w ?_
 rw[List.getElem?_take_of_lt hlt,List.getElem?_drop]
 exact hw
theorem Tiles.append{ws r:List Int}{old:Bool}: ∀ {a:Nat} {l l':List Ob},Tiles ws old a l→a≤ws.length→Tiles (ws++r) old ws.length l'→Tiles (ws++r) old a (l++l')
 |a,[],l',h,ha,h'=>by
  have:ws.length≤a:=h
  have:a=ws.length:=by omega
  subst this
  exact h'
 |a,o::l,l',h,ha,h'=>by
  have hs:=Z6.1 h.2.1.shape
  have hf:=h.2.1.fits
  have e:=h.1
  exact⟨h.1,h.2.1.app,Tiles.append h.2.2 (by omega) h'⟩
theorem Tiles.map{ws ws':List Int}{old:Bool}{f:Ob→Ob}(hf: ∀o,(f o).at_=o.at_∧(f o).size=o.size)(hl:ws'.length=ws.length): ∀ {a:Nat} {l:List Ob},Tiles ws old a l→(∀o∈l,Stands ws' old (f o))→Tiles ws' old a (l.map f)
 |a,[],h,_=>by show ws'.length≤a;rw[hl];exact h
 |a,o::l,h,hs=>⟨by rw[(hf o).1];exact h.1,hs o (.head _),by rw[(hf o).2];exact Tiles.map hf hl h.2.2 fun x hx=>hs x (.tail _ hx)⟩
def goOb(a t:Int)(q:Ob):Ob:=if q.at_=a then {q with gone:=true,target:=t}else q
theorem Xp(a t:Int)(q:Ob):(goOb a t q).at_=q.at_∧(goOb a t q).size=q.size∧(goOb a t q).ptrs=q.ptrs:=by
 unfold goOb
 split<;>exact⟨rfl,rfl,rfl⟩
theorem Wh{a t:Int}{q:Ob}(h:q.at_≠a):goOb a t q=q:=if_neg h
theorem XX{a t:Int}{q:Ob}(h:q.at_=a):goOb a t q= {q with gone:=true,target:=t}:=if_pos h
def Pts.mv(p:Pts)(k:Int)(o:Ob)(L:Nat)(t:Int):Pts:=⟨p.low++ [⟨L,o.size,o.ptrs,false,0⟩],p.high,if k=3 then p.old.map (goOb o.at_ t)else p.old,if k=3 then p.far else p.far.map (goOb o.at_ t)⟩
section
variable {h:Hp} {p:Pts}
theorem qQ{k:Int}(hk:3≤k∧k≤4)(o:Ob)(L:Nat)(t:Int):(p.mv k o L t).at 1=p.low++ [⟨L,o.size,o.ptrs,false,0⟩]∧(p.mv k o L t).at 2=p.high∧(p.mv k o L t).at k=(p.at k).map (goOb o.at_ t)∧(p.mv k o L t).at (7-k)=p.at (7-k):=by
 have:k=3∨k=4:=by omega
 rcases this with rfl|rfl<;>exact⟨rfl,rfl,rfl,rfl⟩
theorem Z38{k:Int}(hk:3≤k∧k≤4){o:Ob}{L:Nat}{t:Int}{j:Int}(hj:1≤j∧j≤4){q:Ob}(hq:q∈p.at j): ∃q'∈(p.mv k o L t).at j,q'.at_=q.at_∧q'.size=q.size∧q'.ptrs=q.ptrs∧(q'.gone=false→q'=q)∧(j<3→q'=q):=by
 obtain⟨e1,e2,e3,e4⟩:=qQ (p:=p) hk o L t
 by_cases j1:j=1
 ·subst j1
  exact⟨q,by rw[e1];exact List.mem_append_left _ hq,rfl,rfl,rfl,fun _=>rfl,fun _=>rfl⟩
 by_cases j2:j=2
 ·subst j2
  exact⟨q,by rw[e2];exact hq,rfl,rfl,rfl,fun _=>rfl,fun _=>rfl⟩
 by_cases jk:j=k
 ·subst jk
  refine⟨goOb o.at_ t q,by rw[e3];exact List.mem_map_of_mem hq,(Xp _ _ _).1,(Xp _ _ _).2.1,(Xp _ _ _).2.2,fun hg=> ?_,fun h=>by omega⟩
  by_cases e:q.at_=o.at_
  ·rw[XX e]at hg;cases hg
  ·exact Wh e
 ·have:j=7-k:=by omega
  subst this
  exact⟨q,by rw[e4];exact hq,rfl,rfl,rfl,fun _=>rfl,fun h=>by omega⟩
theorem Z26{g:Hp}{k:Int}(hk:3≤k∧k≤4){o:Ob}{L:Nat}{t:Int}(hr: ∀j b,refR (layH g) j b=refR (layH h) j b){w i j:Int}(hi:1≤i∧i≤4)(hj:1≤j∧j≤4)(hg:Gos h p w i j):Gos g (p.mv k o L t) w i j:=by
 rcases hg with rfl| ⟨m,q,hm,hq,rfl⟩
 ·exact .inl rfl
 ·obtain⟨q',hq',e,_⟩:=Z38 (p:=p) hk (o:=o) (L:=L) (t:=t) (j:=m) (by rcases hm with rfl|rfl<;>assumption) hq
  exact .inr ⟨m,q',hm,hq',by rw[hr,e]⟩
theorem Z2p{l:List Ob}{o:Ob}{t:Int}(hn:l.Pairwise fun x y=>x.at_<y.at_)(ho:o∈l)(hg:o.gone=false):wtL (l.map (goOb o.at_ t))+(1+o.size.toNat)=wtL l:=by
 induction l with
 |nil=>simp at ho
 |cons x l ih=>
  rw[List.pairwise_cons]at hn
  simp only[wtL,List.map_cons,List.sum_cons]at ih⊢
  rcases List.mem_cons.1 ho with rfl|ho
  ·have:l.map (goOb o.at_ t)=l:=by
    conv=>rhs;rw[←List.map_id l]
    refine List.map_congr_left fun y hy=>Wh ?_
    have:=hn.1 y hy
    omega
   rw[this,XX rfl]
   simp[wtO,hg]
   omega
  ·have:=hn.1 o ho
   have ih:=ih hn.2 ho
   rw[Wh (by omega)]
   omega
theorem Body.move(r:Body h p)(hsc:h.scan≤h.low.length){k:Int}(hk:3≤k∧k≤4){o:Ob}(ho:o∈p.at k)(hg:o.gone=false){a n:Nat}(ea:o.at_=a)(en:o.size=n):
  Body (movH h k a (n+1)) (p.mv k o h.low.length (fstL (layH h) 1+h.low.length)):=by
 obtain⟨a',n',m,ea',en',em,hal,hn5,hmn⟩:=r.toTld.ob (k:=k) (by omega) ho
 have:a'=a:=by omega
 subst this
 have:n'=n:=by omega
 subst this
 obtain⟨_,hm⟩:=r.fwd_wait hk ho hg ea en
 obtain⟨m1,m2,m3,m4,m5,m6,m7,m8,m9,m10⟩:=SC h hk a' (n'+1)
 have mlay:=RM hk (g:=h) hal
 have mr:=Lk r.lay hk hal hm
 have hr:=yU hk hal
 have hw: ∀ {j:Int} {b:Nat},3≤j∧j≤4→(j≠k∨b<a'∨a'+(n'+1)≤b)→(Z9 (movH h k a' (n'+1)) j)[b]? =(Z9 h j)[b]? :=fun hj hb=>Qu hk (by omega) hj hb
 have hlen: ∀ {j:Int},3≤j∧j≤4→(Z9 (movH h k a' (n'+1)) j).length=(Z9 h j).length:=fun hj=>RG hk hj
 have hfst:fstL (layH (movH h k a' (n'+1))) 1=fstL (layH h) 1:=by rw[mlay];rfl
 have hws: ∀i,i<n'+1→(((Z9 h k).take (a'+(n'+1))).drop a')[i]? =(Z9 h k)[a'+i]? :=fun i hi=>by
  rw[List.getElem?_drop,List.getElem?_take_of_lt (by omega)]
 have hwl:(((Z9 h k).take (a'+(n'+1))).drop a').length=n'+1:=by simp;omega
 obtain⟨e1,e2,e3,e4⟩:=qQ (p:=p) hk o h.low.length (fstL (layH h) 1+h.low.length)
 have hst:=((r.tiles k (by omega)).stands o ho).1
 obtain⟨u,hu,hc⟩:=hst.word
 rw[if_neg (by simp[hg])]at hc
 rw[ea,Int.toNat_natCast]at hu
 generalize hgm:movH h k a' (n'+1)=g at*
 generalize hws':((Z9 h k).take (a'+(n'+1))).drop a'=ws at*
 have hap: ∀q∈p.at k,q.at_≠o.at_→ ∀i:Nat,(i:Int)≤q.size→q.at_.toNat+i<a'∨a'+(n'+1)≤q.at_.toNat+i:=by
  intro q hq hne i hi
  obtain⟨b,l,_,eb,el,_⟩:=r.toTld.ob (k:=k) (by omega) hq
  rcases(r.tiles k (by omega)).apart q hq o ho with e|e|e
  ·rw[e]at hne;exact absurd rfl hne
  ·left;omega
  ·right;omega
 have hsame: ∀q∈p.at k,q.at_≠o.at_→ ∀i:Nat,(i:Int)≤q.size→(Z9 g k)[q.at_.toNat+i]? =(Z9 h k)[q.at_.toNat+i]? :=fun q hq hne i hi=>hw hk (.inr (hap q hq hne i hi))
 have hother: ∀b,(Z9 g (7-k))[b]? =(Z9 h (7-k))[b]? :=fun b=>hw (by omega) (.inl (by omega))
 have hnew:Stands (h.low++ws) false ⟨h.low.length,o.size,o.ptrs,false,0⟩:=by
  refine⟨by simp,hst.shape,by simp;omega,XU fun j w hj=>⟨by simp,fun hp=> ?_⟩,u,?_,?_⟩
  ·have hlt:j<n':=by
    have:=(List.getElem?_eq_some_iff.1 hj).1
    simp[en]at this
    omega
   simp only[en,Int.toNat_natCast]at hj
   rw[List.getElem?_take_of_lt hlt,List.getElem?_drop,List.getElem?_append_right (by omega),show h.low.length+1+j-h.low.length=1+j by omega,hws _ (by omega)]at hj
   refine(WL hst.slots j w ?_).2 hp
   rw[ea,en,Int.toNat_natCast,Int.toNat_natCast,List.getElem?_take_of_lt hlt,List.getElem?_drop,←hj,Nat.add_assoc]
  ·simp only[Int.toNat_natCast]
   rw[List.getElem?_append_right (Nat.le_refl _),Nat.sub_self,hws 0 (by omega),Nat.add_zero,hu]
  ·simp only[Bool.false_eq_true,if_false]
   exact⟨by simp,hc.2.1,trivial⟩
 have hpos:=ZF r.lay 1
 refine⟨⟨mr,fun j hj=> ?_⟩,fun j hj q hq hqg=> ?_,fun j hj q hq hqg i hi w hwi=> ?_,?_⟩
 ·by_cases j1:j=1
  ·subst j1
   rw[e1]
   simp only[Ux,m1]
   exact(r.tiles 1 (by omega)).append (Nat.zero_le _) ⟨rfl,hnew,by show(h.low++ws).length≤_;simp[en,hwl];omega⟩
  by_cases j2:j=2
  ·subst j2
   rw[e2]
   simp only[Q8,m2]
   exact r.tiles 2 (by omega)
  by_cases jk:j=k
  ·subst jk
   rw[e3]
   refine(r.tiles j (by omega)).map (fun q=>⟨(Xp _ _ q).1,(Xp _ _ q).2.1⟩) (hlen hk) fun q hq=> ?_
   by_cases e:q.at_=o.at_
   ·have:q=o:=r.toTld.same_at (by omega) ho hq e
    subst this
    rw[XX rfl]
    refine⟨hst.nat,hst.shape,by rw[hlen hk];exact hst.fits,XU fun i w hi=> ?_,refR (layH h) 1 h.low.length,?_,?_⟩
    ·have hlt:i<n':=by
      have:=(List.getElem?_eq_some_iff.1 hi).1
      simp[en]at this
      omega
     simp only[ea,en,Int.toNat_natCast]at hi
     rw[List.getElem?_take_of_lt hlt,List.getElem?_drop,m3,List.getElem?_set_ne (by omega),Nat.add_assoc,Z2Y (by omega) hal]at hi
     cases hi
     exact⟨fun _=>rfl,fun _=>rfl⟩
    ·simp only[ea,Int.toNat_natCast]
     rw[m3,List.getElem?_set_self (by rw[Kz];omega)]
    ·simp only[if_true]
     rw[TS r.lay (by omega)]
     exact⟨decide_eq_true (by omega),rfl,rfl⟩
   ·rw[Wh e]
    refine((r.tiles j (by omega)).stands q hq).1.congr (hlen hk) (by simpa using hsame q hq e 0 (by have:=Z6.1 ((r.tiles j (by omega)).stands q hq).1.shape;omega)) fun i hi=> .inl ?_
    rw[Nat.add_assoc]
    exact hsame q hq e (1+i) (by omega)
  ·have:j=7-k:=by omega
   subst this
   rw[e4,m4]
   exact r.tiles (7-k) (by omega)
 ·by_cases jk:j=k
  ·subst jk
   rw[e3,List.mem_map]at hq
   obtain⟨x,hx,rfl⟩:=hq
   by_cases e:x.at_=o.at_
   ·have:x=o:=r.toTld.same_at (by omega) ho hx e
    subst this
    rw[XX rfl]
    exact⟨_,List.mem_append_right _ (.head _),by rw[hfst],rfl,rfl⟩
   ·rw[Wh e]at hqg⊢
    obtain⟨y,hy,y1,y2,y3⟩:=r.gone j hj x hx hqg
    exact⟨y,List.mem_append_left _ hy,by rw[hfst];exact y1,y2,y3⟩
  ·have:j=7-k:=by omega
   subst this
   rw[e4]at hq
   obtain⟨y,hy,y1,y2,y3⟩:=r.gone _ hj q hq hqg
   exact⟨y,List.mem_append_left _ hy,by rw[hfst];exact y1,y2,y3⟩
 ·have gos: ∀ {w i j:Int},1≤i∧i≤4→1≤j∧j≤4→Gos h p w i j→Gos g (p.mv k o h.low.length (fstL (layH h) 1+h.low.length)) w i j:=fun hi hj=>Z26 hk hr hi hj
  have pat: ∀ {j:Int} {i:Nat} {w:Int},UE h p j i w→UE g (p.mv k o h.low.length (fstL (layH h) 1+h.low.length)) j i w:=fun {j i w} hp=>by
   unfold UE at hp⊢
   rw[m6]
   by_cases c1:2<j
   ·rw[if_pos c1]at hp⊢;exact gos (by omega) (by omega) hp
   rw[if_neg c1]at hp⊢
   by_cases c2:j=1∧h.scan≤i
   ·rw[if_pos c2]at hp⊢
    exact hp.imp (gos (by omega) (by omega)) (gos (by omega) (by omega))
   ·rw[if_neg c2]at hp⊢;exact gos (by omega) (by omega) hp
  by_cases j1:j=1
  ·subst j1
   rw[e1]at hq
   rcases List.mem_append.1 hq with hq|hq
   ·obtain⟨b,l,l',eb,el,el',hbl,_⟩:=r.toTld.ob (k:=1) (by omega) hq
    simp only[Ux]at hbl hwi
    rw[m1,List.getElem?_append_left (by omega)]at hwi
    exact pat (r.ptr 1 (by omega) q hq hqg i hi w hwi)
   ·simp at hq
    subst hq
    simp only at hi hwi⊢
    simp only[Int.toNat_natCast,Ux,m1]at hwi⊢
    rw[List.getElem?_append_right (by omega),show h.low.length+1+i-h.low.length=1+i by omega,hws _ (by omega)]at hwi
    have:=r.ptr k (by omega) o ho hg i hi w (by rw[ea,Int.toNat_natCast,Nat.add_assoc];exact hwi)
    unfold UE at this⊢
    rw[if_pos (by omega)]at this
    rw[if_neg (by omega),if_pos ⟨rfl,by rw[m6];omega⟩]
    exact .inr (gos (by omega) (by omega) this)
  by_cases j2:j=2
  ·subst j2
   rw[e2]at hq
   simp only[Q8,m2]at hwi
   exact pat (r.ptr 2 (by omega) q hq hqg i hi w hwi)
  by_cases jk:j=k
  ·subst jk
   rw[e3,List.mem_map]at hq
   obtain⟨x,hx,rfl⟩:=hq
   by_cases e:x.at_=o.at_
   ·rw[XX e]at hqg;cases hqg
   ·rw[Wh e]at hqg hi hwi⊢
    have hps:=(Z6.1 ((r.tiles j (by omega)).stands x hx).1.shape).2.2.2
    rw[Nat.add_assoc,hsame x hx e (1+i) (by omega),←Nat.add_assoc]at hwi
    exact pat (r.ptr j hj x hx hqg i hi w hwi)
  ·have:j=7-k:=by omega
   subst this
   rw[e4]at hq
   rw[m4]at hwi
   exact pat (r.ptr _ hj q hq hqg i hi w hwi)
 ·have hrm:=r.room
  have hwt:Wk (p.mv k o h.low.length (fstL (layH h) 1+h.low.length))+(1+n')=Wk p:=by
   have h1:=(r.tiles k (by omega)).pairwise
   have:=Z2p (t:=fstL (layH h) 1+h.low.length) h1 ho hg
   rw[en,Int.toNat_natCast]at this
   unfold Wk
   have hk2:k=3∨k=4:=by omega
   rcases hk2 with rfl|rfl
   ·simp only[Pts.at3]at this
    simp only[Pts.mv,if_true]
    omega
   ·simp only[Pts.at4]at this
    simp only[Pts.mv,show ¬(4:Int)=3 by omega,if_false]
    omega
  rw[m1,m2,m8]
  simp only[List.length_append,hwl]
  omega
end
end Vm
end
section
namespace Vm
open Go Go.Proofs
set_option maxRecDepth 100000
def Once(h:Hp)(p:Pts):Prop:= ∀o∈p.low,Vx p (fstL (layH h) 1+o.at_)=1
section
variable {h g:Hp} {p q:Pts}
theorem Z43{l:List Ob}{o:Ob}{t b:Int}(hn:l.Pairwise fun x y=>x.at_<y.at_)(ho:o∈l)(hg:o.gone=false):tgL (l.map (goOb o.at_ t)) b=tgL l b+if t=b then 1 else 0:=by
 induction l with
 |nil=>simp at ho
 |cons x l ih=>
  rw[List.pairwise_cons]at hn
  have e: ∀(y:Ob) (r:List Ob),tgL (y::r) b=(if y.gone=true∧y.target=b then 1 else 0)+tgL r b:=fun y r=>by
   unfold tgL
   rw[List.filter_cons]
   by_cases c:y.gone=true∧y.target=b
   ·rw[if_pos c,if_pos (by simp[c]),List.length_cons,Nat.add_comm]
   ·rw[if_neg c,if_neg (by simpa using c),Nat.zero_add]
  rw[List.map_cons,e,e]
  rcases List.mem_cons.1 ho with rfl|ho
  ·have:l.map (goOb o.at_ t)=l:=by
    conv=>rhs;rw[←List.map_id l]
    refine List.map_congr_left fun y hy=>Wh ?_
    have:=hn.1 y hy
    omega
   rw[this,XX rfl]
   simp[hg]
   omega
  ·have h1:=hn.1 o ho
   rw[ih hn.2 ho,Wh (by omega)]
   omega
theorem Z1V(r:Body h p){b:Int}(hb:h.low.length≤b):Vx p (fstL (layH h) 1+b)=0:=by
 have key: ∀k:Int,3≤k∧k≤4→tgL (p.at k) (fstL (layH h) 1+b)=0:=fun k hk=>by
  unfold tgL
  rw[List.length_eq_zero_iff,List.filter_eq_nil_iff]
  intro o ho hg
  simp only[Bool.and_eq_true,decide_eq_true_eq]at hg
  obtain⟨y,hy,e,_⟩:=r.gone k hk o ho hg.1
  have:=r.toTld.low_at hy
  omega
 have h3:=key 3 (by omega)
 have h4:=key 4 (by omega)
 simp only[Pts.at3,Pts.at4]at h3 h4
 unfold Vx
 omega
theorem Z0W(r:Body h p){k:Int}(hk:3≤k∧k≤4){o:Ob}(ho:o∈p.at k)(hg:o.gone=false){L:Nat}{t b:Int}:Vx (p.mv k o L t) b=Vx p b+if t=b then 1 else 0:=by
 have h1:=Z43 (t:=t) (b:=b) (r.tiles k (by omega)).pairwise ho hg
 unfold Vx
 have hk2:k=3∨k=4:=by omega
 rcases hk2 with rfl|rfl
 ·simp only[Pts.at3]at h1
  simp only[Pts.mv,if_true]
  omega
 ·simp only[Pts.at4]at h1
  simp only[Pts.mv,show ¬(4:Int)=3 by omega,if_false]
  omega
structure Ext (h:Hp) (p:Pts) (g:Hp) (q:Pts):Prop where
 low: ∃ws,g.low=h.low++ws
 high:g.high=h.high
 base:g.base=h.base
 cap:g.cap=h.cap
 tos:g.to=h.to
 cycle:g.cycle=h.cycle
 scan:g.scan=h.scan
 roots:g.roots=h.roots
 oldL:g.old.length=h.old.length
 farL:g.far.length=h.far.length
 obsL: ∃r,q.low=p.low++r
 obsH:q.high=p.high
 obsO: ∀k:Int,3≤k∧k≤4→(q.at k).map (fun o=>(o.at_,o.size,o.ptrs))=(p.at k).map (fun o=>(o.at_,o.size,o.ptrs))
 gone: ∀k:Int,3≤k∧k≤4→ ∀(i:Nat) (o o':Ob),(p.at k)[i]? =some o→(q.at k)[i]? =some o'→(o.gone=true→o'=o)∧(o'.gone=false→o'=o∧ ∀j:Nat,(j:Int)≤o.size→(Z9 g k)[o.at_.toNat+j]? =(Z9 h k)[o.at_.toNat+j]?)
 room:(g.low.length:Int)+Wk q=h.low.length+Wk p
theorem Ext.refl(h:Hp)(p:Pts):Ext h p h p:=
 ⟨⟨[],by simp⟩,rfl,rfl,rfl,rfl,rfl,rfl,rfl,rfl,rfl,⟨[],by simp⟩,rfl,fun _ _=>rfl,fun k hk i o o' h1 h2=>by rw[h1]at h2;cases h2;exact⟨fun _=>rfl,fun _=>⟨rfl,fun _ _=>rfl⟩⟩,rfl⟩
theorem Ext.trans{f:Hp}{s:Pts}(a:Ext h p g q)(b:Ext g q f s):Ext h p f s:=by
 obtain⟨w1,e1⟩:=a.low
 obtain⟨w2,e2⟩:=b.low
 obtain⟨r1,f1⟩:=a.obsL
 obtain⟨r2,f2⟩:=b.obsL
 refine⟨⟨w1++w2,by rw[e2,e1,List.append_assoc]⟩,b.high.trans a.high,b.base.trans a.base,b.cap.trans a.cap,b.tos.trans a.tos,b.cycle.trans a.cycle,b.scan.trans a.scan,b.roots.trans a.roots,b.oldL.trans a.oldL,b.farL.trans a.farL,⟨r1++r2,by rw[f2,f1,List.append_assoc]⟩,b.obsH.trans a.obsH,fun k hk=>(b.obsO k hk).trans (a.obsO k hk),fun k hk i o o'' h1 h2=> ?_,b.room.trans a.room⟩
 have hl:(q.at k).length=(p.at k).length:=by have:=congrArg List.length (a.obsO k hk);simpa using this
 have hi:=(List.getElem?_eq_some_iff.1 h1).1
 have h3:(q.at k)[i]? =some ((q.at k)[i]'(by omega)):=List.getElem?_eq_getElem _
 generalize (q.at k)[i]'(by omega)=o' at h3
 obtain⟨c1,c2⟩:=a.gone k hk i o o' h1 h3
 obtain⟨d1,d2⟩:=b.gone k hk i o' o'' h3 h2
 refine⟨fun hg=> ?_,fun hg=> ?_⟩
 ·have:=c1 hg
  subst this
  exact d1 hg
 ·obtain⟨k1,k2⟩:=d2 hg
  subst k1
  obtain⟨k3,k4⟩:=c2 hg
  subst k3
  exact⟨rfl,fun j hj=>(k2 j hj).trans (k4 j hj)⟩
theorem Ext.fst(e:Ext h p g q)(k a:Int)(hk:k=1∨k=3∨k=4∨k=2):refR (layH g) k a=refR (layH h) k a:=by
 unfold refR fstL layH
 simp only[e.base,e.cap,e.tos,e.high,e.farL]
theorem Ext.mem(e:Ext h p g q){j:Int}(hj:1≤j∧j≤4){o:Ob}(ho:o∈p.at j): ∃o'∈q.at j,o'.at_=o.at_∧o'.size=o.size∧o'.ptrs=o.ptrs:=by
 have h4:j=1∨j=2∨j=3∨j=4:=by omega
 rcases h4 with rfl|rfl|h3
 ·obtain⟨r,hr⟩:=e.obsL
  exact⟨o,by show o∈q.low;rw[hr];exact List.mem_append_left _ ho,rfl,rfl,rfl⟩
 ·exact⟨o,by show o∈q.high;rw[e.obsH];exact ho,rfl,rfl,rfl⟩
 ·have:=e.obsO j (by omega)
  have hm:(o.at_,o.size,o.ptrs)∈(q.at j).map (fun o=>(o.at_,o.size,o.ptrs)):=by rw[this];exact List.mem_map_of_mem ho
  obtain⟨o',h1,h2⟩:=List.mem_map.1 hm
  simp only[Prod.mk.injEq]at h2
  exact⟨o',h1,h2⟩
theorem Ext.gos(e:Ext h p g q){w i j:Int}(hi:1≤i∧i≤4)(hj:1≤j∧j≤4)(hg:Gos h p w i j):Gos g q w i j:=by
 rcases hg with rfl| ⟨m,o,hm,ho,rfl⟩
 ·exact .inl rfl
 ·have hm4:1≤m∧m≤4:=by rcases hm with rfl|rfl<;>assumption
  obtain⟨o',ho',e1,_⟩:=e.mem hm4 ho
  exact .inr ⟨m,o',hm,ho',by rw[e.fst _ _ (by omega),e1]⟩
theorem Body.ext(r:Body h p)(hsc:h.scan≤h.low.length){k:Int}(hk:3≤k∧k≤4){o:Ob}(ho:o∈p.at k)(hg:o.gone=false){a n:Nat}(ea:o.at_=a)(en:o.size=n):
  Ext h p (movH h k a (n+1)) (p.mv k o h.low.length (fstL (layH h) 1+h.low.length)):=by
 obtain⟨a',n',m,ea',en',em,hal,hn5,hmn⟩:=r.toTld.ob (k:=k) (by omega) ho
 have:a'=a:=by omega
 subst this
 have:n'=n:=by omega
 subst this
 obtain⟨m1,m2,m3,m4,m5,m6,m7,m8,m9,m10⟩:=SC h hk a' (n'+1)
 obtain⟨e1,e2,e3,e4⟩:=qQ (p:=p) hk o h.low.length (fstL (layH h) 1+h.low.length)
 have l3:(movH h k a' (n'+1)).old.length=h.old.length:=RG (j:=3) hk (by omega)
 have l4:(movH h k a' (n'+1)).far.length=h.far.length:=RG (j:=4) hk (by omega)
 refine⟨⟨_,m1⟩,m2,m9,m8,m10,m7,m6,m5,l3,l4,⟨_,e1⟩,e2,fun j hj=> ?_,fun j hj i x x' h1 h2=> ?_,?_⟩
 ·by_cases jk:j=k
  ·subst jk
   rw[e3,List.map_map]
   refine List.map_congr_left fun x _=> ?_
   obtain⟨g1,g2,g3⟩:=Xp o.at_ (fstL (layH h) 1+h.low.length) x
   simp only[Function.comp,g1,g2,g3]
  ·have:j=7-k:=by omega
   subst this
   rw[e4]
 ·by_cases jk:j=k
  ·subst jk
   rw[e3,List.getElem?_map,h1]at h2
   simp at h2
   subst h2
   have hxm:=List.mem_of_getElem? h1
   by_cases e:x.at_=o.at_
   ·have:x=o:=r.toTld.same_at (by omega) ho hxm e
    subst this
    rw[XX rfl]
    exact⟨fun h=>(by rw[hg]at h;cases h),fun h=>(by cases h)⟩
   ·rw[Wh e]
    refine⟨fun _=>rfl,fun _=>⟨rfl,fun i hi=>Qu hk (by omega) hj (.inr ?_)⟩⟩
    obtain⟨b,l,_,eb,el,_⟩:=r.toTld.ob (k:=j) (by omega) hxm
    rcases(r.tiles j (by omega)).apart x hxm o ho with e'|e'|e'
    ·rw[e']at e;exact absurd rfl e
    ·left;omega
    ·right;omega
  ·have:j=7-k:=by omega
   subst this
   rw[e4,h1]at h2
   cases h2
   exact⟨fun _=>rfl,fun _=>⟨rfl,fun i _=>by rw[m4]⟩⟩
 ·have h1:=(r.tiles k (by omega)).pairwise
  have hw:=Z2p (t:=fstL (layH h) 1+h.low.length) h1 ho hg
  rw[en,Int.toNat_natCast]at hw
  have hlow:=ja hk hal
  unfold Wk
  have hk2:k=3∨k=4:=by omega
  rcases hk2 with rfl|rfl
  ·simp only[Pts.at3]at hw
   simp only[Pts.mv,if_true]
   omega
  ·simp only[Pts.at4]at hw
   simp only[Pts.mv,show ¬(4:Int)=3 by omega,if_false]
   omega
theorem yN(r:Body h p)(ho1:Once h p)(hsc:h.scan≤h.low.length){k:Int}(hk:3≤k∧k≤4){o:Ob}(ho:o∈p.at k)(hg:o.gone=false){a n:Nat}(ea:o.at_=a)(en:o.size=n):
  Once (movH h k a (n+1)) (p.mv k o h.low.length (fstL (layH h) 1+h.low.length)):=by
 have e:=r.ext hsc hk ho hg ea en
 have hf:fstL (layH (movH h k a (n+1))) 1=fstL (layH h) 1:=by
  have:=e.fst 1 0 (.inl rfl)
  unfold refR at this
  omega
 intro x hx
 rw[Z0W r hk ho hg,hf]
 rcases List.mem_append.1 hx with hx|hx
 ·have:=r.toTld.low_at hx
  rw[ho1 x hx,if_neg (by omega)]
 ·simp at hx
  subst hx
  simp only
  rw[Z1V r (Int.le_refl _)]
  simp
def Res(g:Hp)(q:Pts)(w v:Int):Prop:=(w=0∧v=0)∨ ∃k o,(k=3∨k=4)∧o∈q.at k∧w=refR (layH g) k o.at_∧o.gone=true∧v=2*o.target+1
theorem Res.ext{w v:Int}(r:Res h p w v)(e:Ext h p g q):Res g q w v:=by
 rcases r with r| ⟨k,o,hk,ho,e1,e2,e3⟩
 ·exact .inl r
 ·obtain⟨i,hi⟩:=List.getElem?_of_mem ho
  have hl:(q.at k).length=(p.at k).length:=by have:=congrArg List.length (e.obsO k (by omega));simpa using this
  have hil:=(List.getElem?_eq_some_iff.1 hi).1
  have h2:(q.at k)[i]? =some ((q.at k)[i]'(by omega)):=List.getElem?_eq_getElem _
  have:=(e.gone k (by omega) i o _ hi h2).1 e2
  rw[this]at h2
  exact .inr ⟨k,o,hk,List.mem_of_getElem? h2,by rw[e.fst _ _ (by omega)];exact e1,e2,e3⟩
structure FwdTo (h:Hp) (p:Pts) (w v:Int) (g:Hp) (q:Pts):Prop where
 fwd:fwd h w=(v,g,0)
 body:Body g q
 once:Once g q
 ext:Ext h p g q
 tgo:Gos g q v 1 2
 zero:v=0↔w=0
 res:(Gos h p w 1 2∧v=w∧g=h∧q=p)∨Res g q w v
theorem Body.forward(r:Body h p)(ho1:Once h p)(hsc:h.scan≤h.low.length){w:Int}(hw:Gos h p w 1 2∨Gos h p w 3 4): ∃v g q,FwdTo h p w v g q:=by
 by_cases h0:w=0
 ·subst h0
  exact⟨0,h,p,qR r.lay,r,ho1,.refl h p,.inl rfl,by simp,.inr (.inl ⟨rfl,rfl⟩)⟩
 have hw': ∃k o,1≤k∧k≤4∧o∈p.at k∧w=refR (layH h) k o.at_:=by
  rcases hw with (h1| ⟨k,o,hk,ho,e⟩) | (h1| ⟨k,o,hk,ho,e⟩)
  ·exact absurd h1 h0
  ·exact⟨k,o,by omega,by omega,ho,e⟩
  ·exact absurd h1 h0
  ·exact⟨k,o,by omega,by omega,ho,e⟩
 obtain⟨k,o,k1,k4,ho,rfl⟩:=hw'
 by_cases h2:k≤2
 ·exact⟨_,h,p,r.fwd_here ⟨k1,h2⟩ ho,r,ho1,.refl h p,.inr ⟨k,o,by omega,ho,rfl⟩,Iff.rfl,.inl ⟨.inr ⟨k,o,by omega,ho,rfl⟩,rfl,rfl,rfl⟩⟩
 have hk:3≤k∧k≤4:=by omega
 cases hg:o.gone
 ·obtain⟨a,n,m,ea,en,em,hal,_⟩:=r.toTld.ob ⟨k1,k4⟩ ho
  obtain⟨f1,_⟩:=r.fwd_wait hk ho hg ea en
  have e:=r.ext hsc hk ho hg ea en
  have b:=r.move hsc hk ho hg ea en
  have hin:(⟨h.low.length,o.size,o.ptrs,false,0⟩:Ob)∈(p.mv k o h.low.length (fstL (layH h) 1+h.low.length)).low:=List.mem_append_right _ (.head _)
  have hrf:refR (layH h) 1 h.low.length=refR (layH (movH h k a (n+1))) 1 h.low.length:=(e.fst 1 _ (.inl rfl)).symm
  exact⟨_,_,_,f1,b,yN r ho1 hsc hk ho hg ea en,e,.inr ⟨1,_,.inl rfl,hin,hrf⟩,iff_of_false (Tb r.lay (by omega)) h0,.inr (.inr ⟨k,_,by omega,by rw[(qQ hk o _ _).2.2.1];exact List.mem_map_of_mem ho,by rw[e.fst _ _ (by omega),(Xp _ _ _).1],by rw[XX rfl],by rw[XX rfl];rfl⟩)⟩
 ·obtain⟨y,hy,e,_⟩:=r.gone k hk o ho hg
  have hv:2*o.target+1=refR (layH h) 1 y.at_:=by unfold refR;omega
  have hyl:=r.toTld.low_at hy
  refine⟨_,h,p,r.fwd_gone hk ho hg,r,ho1,.refl h p,.inr ⟨1,y,.inl rfl,hy,hv⟩,?_,.inr (.inr ⟨k,o,by omega,ho,rfl,hg,rfl⟩)⟩
  rw[hv]
  exact iff_of_false (Tb r.lay hyl.1) h0
end
end Vm
end
