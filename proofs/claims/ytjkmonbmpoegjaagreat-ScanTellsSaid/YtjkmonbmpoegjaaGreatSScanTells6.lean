import Derived.Deep.RegionHeld3
import Derived.Test.YtjkmonbmpoegjaaGreatSScanTells5
set_option linter.unusedSimpArgs false
set_option linter.unusedVariables false
section
namespace Vm
open Go Go.Proofs Go.RowKit
set_option maxHeartbeats 4000000
set_option maxRecDepth 100000
structure Now (B:Nat) (w:World) (b:Nat) (h:Hp) (x:Nat→Value):Prop where
 blk:w.heap[b]? =some (.cells #[.int .u64 h.base,.int .i64 h.cap,.int .i64 h.to,.bool h.cycle,.int .i64 h.scan,x 0,x 1,x 2,x 3,x 4] 149 (0,0))
 own:HOwn B w h x
 far: ∀j,j<5→ ∀c,(x j).ownBlock=some c→c≠b
 new:B≤b
def toOf(h:Hp)(part:Int)(a n:Nat):Int:=(Xm (Zy (layH (ZG h part a n)) 1 h.low.length).1).1
def yI(B:Nat)(w:World)(b:Nat)(h:Hp)(p a n:Nat)(e:Ending)(w':World):Prop:=
 ∃x',e= .returned (.int .u64 (toOf h (p+1) a n))∧Below B w w'∧Now B w' b (Ym (ZG h (p+1) a n) (p+1) ((zr (lsH h p) a n).set a (toOf h (p+1) a n))) x'
theorem Qd{P:Program}(w:World){o:Oper}{a:Act}{K:Act→World→Prop}{Q:Exit→Act→World→Prop}(s:Operand)(t:TypeId)
  (ho:o.op= .call {callee:= .builtin .clear,args:= #[s],argTypes:= #[t]}) (vs:Value) (hs:a.eval s=vs)
  (w':World) (hr:(Builtin.clear_ #[t] o.type #[vs]).run P w= .ok (.tuple #[]) w') (h:K (a.put o.dst (.tuple #[])) w'):o.wp P a w K Q:=by
 unfold Oper.wp execOp
 simp only[ho,resolve,invoke,builtin,Sem.run_bind,Sem.run_pure,Result.andThen_ok,List.map_toArray,List.map_cons,List.map_nil,hs,hr]
 exact h
theorem UL{P:Program}(w:World){ops:Array Oper}{rest:List Oper}{o:Oper}{a:Act}{Q:Exit→Act→World→Prop}(hgd:o.guard=none)(s:Operand)(t:TypeId)
  (ho:o.op= .call {callee:= .builtin .clear,args:= #[s],argTypes:= #[t]}) (vs:Value) (hs:a.eval s=vs)
  (w':World) (hr:(Builtin.clear_ #[t] o.type #[vs]).run P w= .ok (.tuple #[]) w') (h:wpList P ops Q rest (a.put o.dst (.tuple #[])) w'):wpList P ops Q (o::rest) a w:=
 wpList_plain hgd fun _ hK=>Qd w s t ho vs hs w' hr (hK _ _ h)
theorem VZ{b c:Nat}(hc:c≠b): ∀(vs:List Value) (o:Nat) (w:World),(w.setCells b o vs).heap[c]? =w.heap[c]?
 | [],_,_=>rfl
 |v::r,o,w=>by
  show((w.setCell ⟨b,o,none⟩ v).setCells b (o+1) r).heap[c]? =_
  rw[VZ hc r]
  exact Below.heap_setCell _ _ _ _ hc
theorem VU(b:Nat): ∀(vs:List Value) (o:Nat) (w:World),(w.setCells b o vs).heap.size=w.heap.size
 | [],_,_=>rfl
 |v::r,o,w=>by
  show((w.setCell ⟨b,o,none⟩ v).setCells b (o+1) r).heap.size=_
  rw[VU b r]
  simp[World.setCell]
theorem Vd{B b:Nat}(hb:B≤b): ∀(vs:List Value) (o:Nat) (w0 w:World),Below B w0 w→Below B w0 (w.setCells b o vs)
 | [],_,_,_,h=>h
 |v::r,o,w0,w,h=>Vd hb r (o+1) w0 _ (h.setCell hb _)
theorem Q6{B g len cap:Nat}{L:List Int}(a:Nat): ∀(n k:Nat) (w:World),a+k+n≤len→w.ownsRow B 22 1 (.slice (some ⟨g,0,none⟩) len cap) len (nums .u64 (zr L a k))→
  (w.setCells g (a+k) (List.replicate n (.int .u64 0))).ownsRow B 22 1 (.slice (some ⟨g,0,none⟩) len cap) len (nums .u64 (zr L a (k+n)))
 |0,k,w,_,h=>h
 |n+1,k,w,hl,h=>by
  have h1:=(h.stored (a+k) (.int .u64 0)).1
  have h2:(nums .u64 (zr L a k)).set (a+k) (.int .u64 0)=nums .u64 (zr L a (k+1)):=by rw[zr,Rp]
  rw[h2]at h1
  have:=Q6 a n (k+1) _ (by omega) h1
  rw[show k+1+n=k+(n+1)by omega]at this
  exact this
theorem LW(w:World)(B b:Nat)(h:Hp)(x:Nat→Value)(hN:Now B w b h x)(hB:B≤w.heap.size)(hh:h.ok)(p a n:Nat)(hp:p=2∨p=3)(hn0:0<n)(hn:n≤1000)(hroom:(n:Int)≤Ye (layH h))
  (g cap:Nat) (hx:x p= .slice (some ⟨g,0,none⟩) (lsH h p).length cap) (han:a+n≤(lsH h p).length) (c':Nat):
  Calls Tryz.prog 74 #[.pointer (some ⟨b,0,none⟩),.slice (some ⟨g,a,none⟩) n c'] w (yI B w b h p a n):=by
 obtain⟨iU,hiU,hzU,hsU,hbU⟩:=info_parts Z4E
 have hl0:(lsH h 0).length≤1000000:=TY hh 0
 obtain⟨v1,w1,hr1,ho1,hg1,hn1⟩:=JE (P:=Tryz.prog) (w:=w) (T:=23) (tI:=3) (ty:=23) Tryz.underlying23 Tryz.underlying3 hiU hzU rfl rfl hsU hbU (hN.own.own 0 (by omega)) hB hn0 (by omega) .i64
 obtain⟨a0,q0,e0⟩:=Zd (hN.own.own 0 (by omega))
 have b0:w.cell? ⟨b,5,none⟩=some (x 0):=by rw[cell_of_row _ _ _ _ _ _ hN.blk];rfl
 have f0:w.frozen? ⟨b,5,none⟩=false:=Zl hN.blk
 have hbw:=Zj hN.blk
 have hne:some b≠(x 0).ownBlock:=fun e=>hN.far 0 (by omega) b e.symm rfl
 have c1:=(hg1.cell_far ⟨b,5,none⟩ hbw hne).trans b0
 have f1:=(hg1.frozen_far ⟨b,5,none⟩ hbw hne).trans f0
 rw[e0]at hr1 b0 c1
 have hlx:(nums .u64 (lsH h 0)).length=(lsH h 0).length:=by simp[nums]
 rcases ho1.2 with ⟨_,hbad⟩ | ⟨g0,q1,cur,hv1,hg0B,hcur,hq1,hqm,hcsz,htake⟩
 ·omega
 subst hv1
 have hq1': ¬q1=(lsH h 0).length:=by omega
 have hg0b:g0≠b:=by
  intro e
  rcases hn1 with e1| ⟨_,e1⟩
  ·exact hne (by rw[←e1,e];rfl)
  ·have:=(e1.lt g0 rfl).1;omega
 have hgb:g≠b:=hN.far p (by omega) g (by rw[hx];rfl)
 have hgw:g<w.heap.size:=((hN.own.own p (by omega)).lt g (by rw[hx];rfl)).2
 have hgx:some g≠(x 0).ownBlock:=fun e=>hN.own.apart 0 p (by omega) (by omega) g e.symm (by rw[hx];rfl)
 have hgg0:g≠g0:=by
  intro e
  rcases hn1 with e1| ⟨_,e1⟩
  ·exact hgx (by rw[←e1,e];rfl)
  ·have:=(e1.lt g0 rfl).1;omega
 obtain⟨w2,hw2⟩: ∃w2,w2=w1.setCell ⟨b,5,none⟩ (.slice (some ⟨g0,0,none⟩) ((lsH h 0).length+n) q1):=⟨_,rfl⟩
 have hcur2:w2.heap[g0]? =some (.cells cur 22 (0,0)):=by rw[hw2,Below.heap_setCell _ _ _ _ hg0b];exact hcur
 have hgk: ∀c,c≠b→c<w.heap.size→some c≠(x 0).ownBlock→w2.heap[c]? =w.heap[c]? :=fun c h1 h2 h3=>by
  rw[hw2,Below.heap_setCell _ _ _ _ h1,hg1.block c h2 h3]
 have hblk2:w2.heap[b]? =some (.cells #[.int .u64 h.base,.int .i64 h.cap,.int .i64 h.to,.bool h.cycle,.int .i64 h.scan,.slice (some ⟨g0,0,none⟩) ((lsH h 0).length+n) q1,x 1,x 2,x 3,x 4] 149 (0,0)):=by
  have:=(hg1.block b hbw hne).trans hN.blk
  rw[hw2]
  simp[World.setCell,Array.getElem?_modify,this]
 have hcell2:w2.cell? ⟨b,5,none⟩=some (.slice (some ⟨g0,0,none⟩) ((lsH h 0).length+n) q1):=by rw[cell_of_row _ _ _ _ _ _ hblk2];rfl
 have hown2:w2.ownsRow B 22 1 (x p) (lsH h p).length (nums .u64 (lsH h p)):=Zq (hN.own.own p (by omega)) fun c hc=>by
  rw[hx]at hc
  cases hc
  exact hgk g hgb hgw hgx
 obtain⟨cs,hcs⟩: ∃cs,cs=nums .u64 (((lsH h p).take (a+n)).drop a):=⟨_,rfl⟩
 have hcl:cs.length=n:=by rw[hcs];simp[nums];omega
 have hsrc: ∀j v,cs[j]? =some v→w2.cell? ((⟨g,a,none⟩:Addr).add j)=some v:=by
  intro j v hv
  have hj:j<n:=by rw[←hcl];exact(List.getElem?_eq_some_iff.1 hv).1
  rw[hx]at hown2
  have:=hown2.cellAt (a+j) (by omega)
  rw[Addr.add_lit,this]
  rw[hcs]at hv
  simp only[nums]at hv⊢
  rw[←hv]
  simp[List.getElem?_take,show a+j<a+n by omega]
 obtain⟨w3,hw3⟩: ∃w3,w3=w2.setRow g0 (cur.toList.take (lsH h 0).length++(cs++cur.toList.drop ((lsH h 0).length+cs.length))).toArray:=⟨_,rfl⟩
 have hfit:(lsH h 0).length+cs.length≤cur.size:=by rw[hcl];simp at hcsz;omega
 have hone: ∀v∈cs,v.oneCell'=true:=by
  intro v hv
  rw[hcs]at hv
  obtain⟨_,_,rfl⟩:=List.mem_map.1 hv
  rfl
 have hmin:cs.length=Nat.min n n:=by rw[hcl];simp
 have hsz1:(Tryz.prog.info? 22).map (·.size)=some 1:=by rw[hiU];simp[hsU]
 have hblk3:w3.heap[b]? =some (.cells #[.int .u64 h.base,.int .i64 h.cap,.int .i64 h.to,.bool h.cycle,.int .i64 h.scan,.slice (some ⟨g0,0,none⟩) ((lsH h 0).length+n) q1,x 1,x 2,x 3,x 4] 149 (0,0)):=by
  rw[hw3,setRow_other _ _ _ _ hg0b.symm];exact hblk2
 have hk3: ∀c,c≠b→c≠g0→c<w.heap.size→some c≠(x 0).ownBlock→w3.heap[c]? =w.heap[c]? :=fun c h1 h2 h3 h4=>by
  rw[hw3,setRow_other _ _ _ _ h2];exact hgk c h1 h3 h4
 have hs12:w.heap.size≤w3.heap.size:=by
  have:=hg1.size
  have e2:w2.heap.size=w1.heap.size:=by rw[hw2];simp[World.setCell]
  have e3:w3.heap.size=w2.heap.size:=by rw[hw3];simp[World.setRow]
  omega
 have hl3:lsH (ZG h (p+1) a n) 0=lsH h 0++((lsH h p).take (a+n)).drop a:=by
  rcases hp with rfl|rfl<;>rfl
 have hl3': ∀j,j≠0→lsH (ZG h (p+1) a n) j=lsH h j:=fun j hj=>by
  unfold lsH ZG
  simp[hj]
 have hown3: ∀j,j<5→w3.ownsRow B 22 1 (if j=0 then .slice (some ⟨g0,0,none⟩) ((lsH h 0).length+n) q1 else x j) (lsH (ZG h (p+1) a n) j).length (nums .u64 (lsH (ZG h (p+1) a n) j)):=by
  intro j hj
  by_cases hj0:j=0
  ·subst hj0
   rw[if_pos rfl,hl3]
   have hd:(((lsH h p).take (a+n)).drop a).length=n:=by simp;omega
   refine⟨by simp[nums],.inr ⟨g0,q1,(cur.toList.take (lsH h 0).length++(cs++cur.toList.drop ((lsH h 0).length+cs.length))).toArray,?_,hg0B,?_,?_,hqm,?_,?_⟩⟩
   ·rw[List.length_append,hd]
   ·rw[hw3];exact setRow_heap _ _ _ _ _ _ hcur2
   ·rw[List.length_append,hd];exact hq1
   ·simp[hcl]at hcsz hfit⊢;omega
   ·have ht:cur.toList.take ((lsH h 0).length)=nums .u64 (lsH h 0):=by
     have:=congrArg (List.take (lsH h 0).length) htake
     rw[List.take_take,Nat.min_eq_left (by omega)]at this
     rw[this,List.take_left' hlx]
    rw[List.length_append,hd,ht]
    simp only[Nat.mul_one]
    rw[←List.append_assoc,List.take_left' (by simp[hlx,hcl]),hcs]
    simp[nums]
  ·rw[if_neg hj0,hl3' j hj0]
   have ho:=hN.own.own j hj
   exact Zq ho fun c hc=>hk3 c (hN.far j hj c hc) (fun e=>by
    rcases hn1 with e1| ⟨_,e1⟩
    ·exact hN.own.apart 0 j (by omega) hj c (by rw[←e1,e];rfl) hc
    ·have h1:=(e1.lt g0 rfl).1
     have h2:=(ho.lt c hc).2
     omega) (ho.lt c hc).2 (fun e=>hN.own.apart 0 j (by omega) hj c e.symm hc)
 have hg0x: ∀j,0<j→j<5→(x j).ownBlock≠some g0:=fun j h0 hj hc=>by
  rcases hn1 with e1| ⟨_,e1⟩
  ·exact hN.own.apart 0 j h0 hj g0 (by rw[←e1];rfl) hc
  ·have h1:=(e1.lt g0 rfl).1
   have h2:=((hN.own.own j hj).lt g0 hc).2
   omega
 have hgj: ∀j,j<5→j≠p→(x j).ownBlock≠some g:=fun j hj hne hc=>by
  have hgp:(x p).ownBlock=some g:=by rw[hx];rfl
  rcases Nat.lt_or_gt_of_ne hne with h1|h1
  ·exact hN.own.apart j p h1 (by omega) g hc hgp
  ·exact hN.own.apart p j h1 hj g hgp hc
 have hgB:B≤g:=((hN.own.own p (by omega)).lt g (by rw[hx];rfl)).1
 have hopw:=hN.own.own p (by omega)
 rw[hx]at hopw
 have hrow: ∀W:World,W.heap[g]? =w.heap[g]? →W.ownsRow B 22 1 (.slice (some ⟨g,0,none⟩) (lsH h p).length cap) (lsH h p).length (nums .u64 (lsH h p)):=fun W hW=>Zq hopw fun c hc=>by
  cases hc
  exact hW
 have hlp:(nums .u64 (lsH h p)).length=(lsH h p).length:=by simp[nums]
 have hcells: ∀W:World,W.heap[g]? =w.heap[g]? →(∀j,j<n→(W.cell? ⟨g,a+j,none⟩).isSome=true)∧(∀j,j<n→W.frozen? ⟨g,a+j,none⟩=false):=fun W hW=>⟨fun j hj=>by
  rw[(hrow W hW).cellAt (a+j) (by omega)]
  simp[hlp];omega,fun j hj=>(hrow W hW).frozenAt _⟩
 have hg3:w3.heap[g]? =w.heap[g]? :=hk3 g hgb hgg0 hgw hgx
 have HN:=Lib.hid hN
 have HO:=Lib.hid ho1
 have HG:=Lib.hid hg1
 have HW2:=Lib.hid hw2
 have HW3:=Lib.hid hw3
 have HO3:=Lib.hid hown3
 have d0:w3.cell? ⟨b,0,none⟩=some (Value.int .u64 h.base):=by rw[cell_of_row _ _ _ _ _ _ hblk3];rfl
 have d1:w3.cell? ⟨b,1,none⟩=some (Value.int .i64 h.cap):=by rw[cell_of_row _ _ _ _ _ _ hblk3];rfl
 have d2:w3.cell? ⟨b,2,none⟩=some (Value.int .i64 h.to):=by rw[cell_of_row _ _ _ _ _ _ hblk3];rfl
 have d3:w3.cell? ⟨b,3,none⟩=some (Value.bool h.cycle):=by rw[cell_of_row _ _ _ _ _ _ hblk3];rfl
 have d4:w3.cell? ⟨b,4,none⟩=some (Value.int .i64 h.scan):=by rw[cell_of_row _ _ _ _ _ _ hblk3];rfl
 have d5:w3.cell? ⟨b,5,none⟩=some (Value.slice (some ⟨g0,0,none⟩) ((lsH h 0).length+n) q1):=by rw[cell_of_row _ _ _ _ _ _ hblk3];rfl
 have d6:w3.cell? ⟨b,6,none⟩=some (x 1):=by rw[cell_of_row _ _ _ _ _ _ hblk3];rfl
 have d7:w3.cell? ⟨b,7,none⟩=some (x 2):=by rw[cell_of_row _ _ _ _ _ _ hblk3];rfl
 have d8:w3.cell? ⟨b,8,none⟩=some (x 3):=by rw[cell_of_row _ _ _ _ _ _ hblk3];rfl
 have d9:w3.cell? ⟨b,9,none⟩=some (x 4):=by rw[cell_of_row _ _ _ _ _ _ hblk3];rfl
 have hm3:(ZG h (p+1) a n).ok:=KP hh (by rcases hp with rfl|rfl<;>exact han) hroom hn0
 clear hN ho1 hg1 hw2 hw3 hown3
 go_enter Tryz.func74,Tryz.ntmps74
 go_wp2_with (first
  | (at_builtin;refine Lib.wpList_append_run _ rfl _ _ 23 3 rfl _ _ rfl rfl _ _ hr1 ?_)
  | (rw[←HW2.out];refine wpList_copy_own rfl _ _ 23 23 rfl 22 Tryz.underlying23 hsz1 g0 (lsH h 0).length n (q1- (lsH h 0).length) ⟨g,a,none⟩ n c' rfl rfl cur 22 hcur2 cs hmin hsrc hfit hone ?_;rw[←HW3.out])
  | (go_at_call 33;refine(ZZ (h:=ZG h (p+1) a n) (x:=fun j=>if j=0 then .slice (some ⟨g0,0,none⟩) ((lsH h 0).length+n) q1 else x j) (G:=fun c=>B≤c∧c<w3.heap.size) (fun c hc=>hc.2) (fun j hj=>Kj (HO3.out j hj) (fun c h1 h2=>⟨h1,h2⟩))).mono ?_;rintro e w4 ⟨rfl,hb4⟩;have HB4:=Lib.hid hb4;clear hb4)
  | (go_at_call 61;refine(JF hm3.lay _ _ _).mono ?_;rintro e w5 ⟨rfl,hb5⟩;have hg5:w5.heap[g]? =w.heap[g]? :=(hb5.block g (by have:=HB4.out.size;omega)).trans ((HB4.out.block g (by omega)).trans hg3);have hs5:w3.heap.size≤w5.heap.size:=Nat.le_trans HB4.out.size hb5.size;have HB5:=Lib.hid hb5;clear hb5;obtain⟨w6,hw6⟩: ∃w6,w6=w5.setCells g a (List.replicate n (.int .u64 0)):=⟨_,rfl⟩;have hs6:w6.heap.size=w5.heap.size:=by {rw[hw6];exact VU _ _ _ _};have c6:w6.cell? ⟨g,a,none⟩=some (.int .u64 0):=by {rw[hw6];have:=World.cell?_setCells_in g (List.replicate n (Value.int .u64 0)) a w5 (by simpa using(hcells w5 hg5).1) 0 (by simpa using hn0);simpa using this};have f6:w6.frozen? ⟨g,a,none⟩=false:=by {rw[hw6,World.frozen?_setCells];exact(hcells w5 hg5).2 0 hn0};have HW6:=Lib.hid hw6;clear hw6)
  | (refine UL _ rfl _ 23 rfl _ rfl _ (Lib.run_clear_slice _ _ 22 _ (.int .u64 0) Tryz.underlying23 (X3 hiU hzU) rfl rfl g a n c' hn0 (hcells w5 hg5).1 (hcells w5 hg5).2) ?_;rw[←HW6.out])
  | (go_at_call 62;refine(JI Z0h _).mono ?_;rintro e w7 ⟨rfl,hb7⟩;have c7:=(hb7.cell (p:=⟨g,a,none⟩) (by show g<w6.heap.size;omega)).trans c6;have f7:=(hb7.frozen (p:=⟨g,a,none⟩) (by show g<w6.heap.size;omega)).trans f6;have HB7:=Lib.hid hb7;clear hb7))
 go_ret
 have hbel3:Below B w w3:=by
  rw[HW3.out,HW2.out]
  exact Go.below_setRow (Below.setCell (p:=⟨b,5,none⟩) ((Below.refl B w).grown HG.out hB (fun k hk=>((HN.out.own.own 0 (by omega)).lt k hk).1)) HN.out.new _) hg0B _
 have hB3:B≤w3.heap.size:=by omega
 have hbel5:Below B w w5:=(hbel3.trans (HB4.out.mono hB3)).trans (HB5.out.mono (by have:=HB4.out.size;omega))
 have hbel6:Below B w w6:=by rw[HW6.out];exact Vd hgB _ _ _ _ hbel5
 have hbel7:Below B w w7:=hbel6.trans (HB7.out.mono (by omega))
 have hs4:=HB4.out.size
 have hs45:=HB5.out.size
 have h37: ∀(c:Nat) (u:Value),c≠g→c<w3.heap.size→(w7.setCell ⟨g,a,none⟩ u).heap[c]? =w3.heap[c]? :=fun c u h1 h2=>by
  rw[Below.heap_setCell _ _ _ _ h1,HB7.out.block c (by omega),HW6.out,VZ h1,HB5.out.block c (by omega),HB4.out.block c h2]
 have hg5:w5.heap[g]? =w.heap[g]? :=(HB5.out.block g (by omega)).trans ((HB4.out.block g (by omega)).trans hg3)
 have hrow6:=Q6 (L:=lsH h p) a n 0 w5 (by omega) (hrow w5 hg5)
 have e6:w5.setCells g (a+0) (List.replicate n (.int .u64 0))=w6:=HW6.out.symm
 rw[e6,Nat.zero_add]at hrow6
 have hrow7:=Zq (w':=w7) hrow6 fun c hc=>by
  cases hc
  exact HB7.out.block g (by omega)
 have hrow8:=(hrow7.stored a (.int .u64 (toOf h (p+1) a n))).1
 rw[←Rp]at hrow8
 refine⟨fun j=>if j=0 then .slice (some ⟨g0,0,none⟩) ((lsH h 0).length+n) q1 else x j,rfl,hbel7.setCell hgB _,?_,⟨?_,?_⟩,?_,HN.out.new⟩
 ·rw[h37 b _ (fun e=>hgb e.symm) (by omega),hblk3]
  rcases hp with rfl|rfl<;>rfl
 ·intro j hj
  by_cases hjp:j=p
  ·subst hjp
   have e1:lsH (Ym (ZG h (j+1) a n) (j+1) ((zr (lsH h j) a n).set a (toOf h (j+1) a n))) j=(zr (lsH h j) a n).set a (toOf h (j+1) a n):=by
    rcases hp with rfl|rfl<;>rfl
   rw[e1,if_neg (by omega),hx,List.length_set,KS]
   exact hrow8
  ·have e1:lsH (Ym (ZG h (p+1) a n) (p+1) ((zr (lsH h p) a n).set a (toOf h (p+1) a n))) j=lsH (ZG h (p+1) a n) j:=by
    have:j=0∨j=1∨j=2∨j=3∨j=4:=by omega
    rcases hp with rfl|rfl<;>rcases this with rfl|rfl|rfl|rfl|rfl<;>first|rfl|exact(hjp rfl).elim
   rw[e1]
   have ho:=HO3.out j hj
   refine Zq ho fun c hc=>h37 c _ (fun e=> ?_) (ho.lt c hc).2
   subst e
   by_cases h0:j=0
   ·rw[if_pos h0]at hc
    cases hc
    exact hgg0 rfl
   ·rw[if_neg h0]at hc
    exact hgj j hj hjp hc
 ·intro i j hij hj c hc
  rw[if_neg (show ¬j=0 by omega)]
  by_cases h0:i=0
  ·rw[if_pos h0]at hc
   cases hc
   exact hg0x j (by omega) hj
  ·rw[if_neg h0]at hc
   exact HN.out.own.apart i j hij hj c hc
 ·intro j hj c hc
  by_cases h0:j=0
  ·rw[if_pos h0]at hc
   cases hc
   exact hg0b
  ·rw[if_neg h0]at hc
   exact HN.out.far j hj c hc
end Vm
namespace Vm
open Go Go.Proofs Go.RowKit
set_option maxHeartbeats 4000000
set_option maxRecDepth 100000
theorem QO(w:World)(B b:Nat)(h:Hp)(x:Nat→Value)(hN:Now B w b h x)(hh:h.ok)(p a:Nat)(hp:p=2∨p=3)(g cap:Nat)
  (hx:x p= .slice (some ⟨g,0,none⟩) (lsH h p).length cap) (ha:a< (lsH h p).length):
  Calls Tryz.prog 71 #[.pointer (some ⟨b,0,none⟩),.agg #[.int .i64 ((p:Int)+1),.int .i64 a]] w fun e w'=>e= .returned (.slice (some ⟨g,a,none⟩) ((lsH h p).length-a) (cap-a))∧Below w.heap.size w w':=by
 have hbw:=Zj hN.blk
 have hl:=TY hh p
 have hcap:(lsH h p).length≤cap:=by
  have:=(hN.own.own p (by omega)).2
  rw[hx]at this
  rcases this with ⟨hc,_⟩ | ⟨_,_,_,hc,_,_,h1,_⟩
  ·cases hc
  ·cases hc;exact h1
 rcases hp with rfl|rfl
 ·have c7:(w.alloc (.cells #[.int .i64 3,.int .i64 a] 93)).cell? ⟨b,7,none⟩=some (.slice (some ⟨g,0,none⟩) (lsH h 2).length cap):=by
   rw[World.cell?_alloc_lt _ _ _ hbw,cell_of_row _ _ _ _ _ _ hN.blk,←hx];rfl
  have hcap':((lsH h 2).length:Int)≤9223372036854775807:=by omega
  go_enter Tryz.func71,Tryz.ntmps71
  go_wp2
  go_region
  go_wp2
  go_ret
  exact⟨rfl,((Below.refl _ _).alloc (Nat.le_refl _) _).drew⟩
 ·have c8:(w.alloc (.cells #[.int .i64 4,.int .i64 a] 93)).cell? ⟨b,8,none⟩=some (.slice (some ⟨g,0,none⟩) (lsH h 3).length cap):=by
   rw[World.cell?_alloc_lt _ _ _ hbw,cell_of_row _ _ _ _ _ _ hN.blk,←hx];rfl
  have hcap':((lsH h 3).length:Int)≤9223372036854775807:=by omega
  go_enter Tryz.func71,Tryz.ntmps71
  go_wp2
  go_region
  go_wp2
  go_ret
  exact⟨rfl,((Below.refl _ _).alloc (Nat.le_refl _) _).drew⟩
end Vm
namespace Vm
open Go Go.Proofs Go.RowKit
set_option maxHeartbeats 4000000
set_option maxRecDepth 100000
def Ud(w:World)(r:Int×Hp×Int)(e:Ending)(w':World):Prop:=
 ∃x,e= .returned (.tuple #[.int .u64 r.1,hpA r.2.1 x,.int .i64 r.2.2])∧Below w.heap.size w w'∧HOwn w.heap.size w' r.2.1 x
theorem KM{B' B:Nat}{w:World}{e:TypeId}{n:Nat}{v:Value}{l:List Value}(h:w.ownsRow B' e 1 v n l)(hG: ∀c,B'≤c→c<w.heap.size→B≤c∧c<w.heap.size):w.ownsRow B e 1 v n l:=by
 refine⟨h.1,?_⟩
 rcases h.2 with h0| ⟨g,cap,cur,hv,hb,hg,r⟩
 ·exact .inl h0
 ·exact .inr ⟨g,cap,cur,hv,(hG g hb (Zj hg)).1,hg,r⟩
theorem V7(B:Nat)(w':World):HOwn B w' Hp.zero (fun _=> .slice none 0 0):=⟨fun j hj=>by
 have:lsH Hp.zero j= []:=by
  unfold lsH Hp.zero
  split
  ·rfl
  split
  ·rfl
  split
  ·rfl
  split<;>rfl
 rw[this]
 exact World.ownsRow_nil _ _ _ _,fun i j _ _ c hc=>by cases hc⟩
def Y7:Array Value:= #[.int .u64 0,.int .i64 0,.int .i64 0,.bool false,.int .i64 0,.slice none 0 0,.slice none 0 0,.slice none 0 0,.slice none 0 0,.slice none 0 0]
theorem XW(w:World)(o:Obj):((w.alloc o).alloc (.cells #[.int .u64 0,.int .i64 0,.int .i64 0,.bool false,.int .i64 0,.slice none 0 0,.slice none 0 0,.slice none 0 0,.slice none 0 0,.slice none 0 0] 25)).heap[w.heap.size+1]? =some (.cells Y7 25 (0,0)):=by
 have e:(w.alloc o).heap.size=w.heap.size+1:=by simp
 have:=heap_alloc_new (w.alloc o) (.cells Y7 25)
 rw[e]at this
 exact this
theorem Qo{w2:World}{b:Nat}{T:TypeId}(hb:w2.heap[b]? =some (.cells Y7 T (0,0)))(v0 v1 v2 v3 v4 v5 v6 v7 v8 v9:Value):((((((((((w2.setCell ⟨b,0,none⟩ v0).setCell ⟨b,1,none⟩ v1).setCell ⟨b,2,none⟩ v2).setCell ⟨b,3,none⟩ v3).setCell ⟨b,4,none⟩ v4).setCell ⟨b,5,none⟩ v5).setCell ⟨b,6,none⟩ v6).setCell ⟨b,7,none⟩ v7).setCell ⟨b,8,none⟩ v8).setCell ⟨b,9,none⟩ v9).heap[b]? =some (.cells #[v0,v1,v2,v3,v4,v5,v6,v7,v8,v9] T (0,0)):=by
 unfold Y7 at hb
 simp[World.setCell,Array.getElem?_modify,hb]
theorem ZP{w2:World}{b:Nat}{T:TypeId}(hb:w2.heap[b]? =some (.cells Y7 T (0,0)))(v0 v1 v2 v3 v4 v5 v6 v7 v8 v9:Value)(j:Nat):((((((((((w2.setCell ⟨b,0,none⟩ v0).setCell ⟨b,1,none⟩ v1).setCell ⟨b,2,none⟩ v2).setCell ⟨b,3,none⟩ v3).setCell ⟨b,4,none⟩ v4).setCell ⟨b,5,none⟩ v5).setCell ⟨b,6,none⟩ v6).setCell ⟨b,7,none⟩ v7).setCell ⟨b,8,none⟩ v8).setCell ⟨b,9,none⟩ v9).cell? ⟨b,j,none⟩=(#[v0,v1,v2,v3,v4,v5,v6,v7,v8,v9]:Array Value)[j]? :=
 cell_of_row _ _ _ _ _ _ (Qo hb v0 v1 v2 v3 v4 v5 v6 v7 v8 v9)
theorem ZE{B:Nat}{w0 w2:World}{b:Nat}(h:Below B w0 w2)(hb:B≤b)(v0 v1 v2 v3 v4 v5 v6 v7 v8 v9:Value):Below B w0 ((((((((((w2.setCell ⟨b,0,none⟩ v0).setCell ⟨b,1,none⟩ v1).setCell ⟨b,2,none⟩ v2).setCell ⟨b,3,none⟩ v3).setCell ⟨b,4,none⟩ v4).setCell ⟨b,5,none⟩ v5).setCell ⟨b,6,none⟩ v6).setCell ⟨b,7,none⟩ v7).setCell ⟨b,8,none⟩ v8).setCell ⟨b,9,none⟩ v9):=
 (((((((((h.setCell hb _).setCell hb _).setCell hb _).setCell hb _).setCell hb _).setCell hb _).setCell hb _).setCell hb _).setCell hb _).setCell hb _
theorem XZ{w2:World}{b c:Nat}(hc:c≠b)(v0 v1 v2 v3 v4 v5 v6 v7 v8 v9:Value):((((((((((w2.setCell ⟨b,0,none⟩ v0).setCell ⟨b,1,none⟩ v1).setCell ⟨b,2,none⟩ v2).setCell ⟨b,3,none⟩ v3).setCell ⟨b,4,none⟩ v4).setCell ⟨b,5,none⟩ v5).setCell ⟨b,6,none⟩ v6).setCell ⟨b,7,none⟩ v7).setCell ⟨b,8,none⟩ v8).setCell ⟨b,9,none⟩ v9).heap[c]? =w2.heap[c]? :=by
 have: ¬b=c:=fun e=>hc e.symm
 simp[World.setCell,Array.getElem?_modify,this]
end Vm
namespace Vm
open Go Go.Proofs Go.RowKit
set_option maxHeartbeats 8000000
set_option maxRecDepth 100000
def Z06(h:Hp)(x:Nat→Value):Obj:= .cells #[.int .u64 h.base,.int .i64 h.cap,.int .i64 h.to,.bool h.cycle,.int .i64 h.scan,x 0,x 1,x 2,x 3,x 4] 149
theorem Uk{B:Nat}{w5:World}{h:Hp}{x:Nat→Value}(ho:HOwn B w5 h x)(hB:B≤w5.heap.size):Now B (w5.alloc (Z06 h x)) w5.heap.size h x:=by
 refine⟨heap_alloc_new w5 _,⟨fun j hj=> ?_,ho.apart⟩,fun j hj c hc=> ?_,hB⟩
 ·exact Zq (ho.own j hj) fun c hc=>Below.heap_alloc _ _ _ ((ho.own j hj).lt c hc).2
 ·have:=((ho.own j hj).lt c hc).2
  omega
theorem Lp(W:World):W.drew.heap=W.heap:=rfl
theorem WO{w2:World}{b c:Nat}(hc:c≠b)(v0 v1 v2 v3 v4 v5 v6 v7 v8 v9:Value):((((((((((w2.setCell ⟨b,0,none⟩ v0).setCell ⟨b,1,none⟩ v1).setCell ⟨b,2,none⟩ v2).setCell ⟨b,3,none⟩ v3).setCell ⟨b,4,none⟩ v4).setCell ⟨b,5,none⟩ v5).setCell ⟨b,6,none⟩ v6).setCell ⟨b,7,none⟩ v7).setCell ⟨b,8,none⟩ v8).setCell ⟨b,9,none⟩ v9).drew.heap[c]? =w2.heap[c]? :=by
 rw[Lp]
 exact XZ hc v0 v1 v2 v3 v4 v5 v6 v7 v8 v9
theorem Rr{w:World}{B n q:Nat}{e:TypeId}{z:Nat}{a:Option Addr}{v:Value}{xs:List Value}(h:w.ownsRow B e z v n xs)(hv:v= .slice a n q)(hn:0<n): ∃g,a=some ⟨g,0,none⟩:=by
 subst hv
 rcases h.2 with ⟨_,h0⟩ | ⟨g,cap,cur,hc,_⟩
 ·omega
 ·cases hc;exact⟨g,rfl⟩
theorem Z0N{w:World}{B n q:Nat}{e:TypeId}{z:Nat}{a:Option Addr}{xs:List Value}(h:w.ownsRow B e z (.slice a n q) n xs)(hn:0<n):n≤q∧q≤maxLen:=by
 rcases h.2 with ⟨_,h0⟩ | ⟨g,cap,cur,hc,_,_,h1,h2,_⟩
 ·omega
 ·cases hc;exact⟨h1,h2⟩
theorem Wf{w:World}{B g cap:Nat}{l:List Int}(h:w.ownsRow B 22 1 (.slice (some ⟨g,0,none⟩) l.length cap) l.length (nums .u64 l)){i:Nat}{v:Int}(hi:l[i]? =some v):w.cell? ⟨g,i,none⟩=some (.int .u64 v):=by
 obtain⟨hl,hv⟩:=List.getElem?_eq_some_iff.1 hi
 rw[h.cellAt i (by omega)]
 simp[nums,hi]
structure FwSt (w W:World) (rb lb kb b B:Nat) (part at_:Int) (h:Hp) (x:Nat→Value):Prop where
 res:W.heap[rb]? =some (.cells Y7 25 (0,0))
 lay:W.heap[lb]? =some (.cells #[.int .u64 (layH h).base,.int .i64 (layH h).cap,.int .i64 (layH h).to,.int .i64 (layH h).low,.int .i64 (layH h).high,.int .i64 (layH h).old,.int .i64 (layH h).far] 69 (0,0))
 plc:W.heap[kb]? =some (.cells #[.int .i64 part,.int .i64 at_] 93 (0,0))
 now:Now B W b h x
 bel:Below w.heap.size w W
 old:w.heap.size≤rb
 rbB:rb<B
 lbB:lb<B
 kbB:kb<B
 sz:B≤W.heap.size
theorem FwSt.below{w W W':World}{rb lb kb b B:Nat}{part at_:Int}{h:Hp}{x:Nat→Value}(s:FwSt w W rb lb kb b B part at_ h x)(hb:Below W.heap.size W W'):FwSt w W' rb lb kb b B part at_ h x:=by
 have hz:=s.sz
 have h1:=s.rbB
 have h2:=s.lbB
 have h3:=s.kbB
 have hs:=hb.size
 have hs0:=s.bel.size
 refine⟨(hb.block _ (by omega)).trans s.res,(hb.block _ (by omega)).trans s.lay,(hb.block _ (by omega)).trans s.plc,⟨(hb.block _ (Zj s.now.blk)).trans s.now.blk,⟨fun j hj=> ?_,s.now.own.apart⟩,s.now.far,s.now.new⟩,s.bel.trans (hb.mono hs0),s.old,h1,h2,h3,by omega⟩
 exact Zq (s.now.own.own j hj) fun c hc=>hb.block _ ((s.now.own.own j hj).lt c hc).2
theorem FwSt.drew{w W:World}{rb lb kb b B:Nat}{part at_:Int}{h:Hp}{x:Nat→Value}(s:FwSt w W rb lb kb b B part at_ h x):FwSt w W.drew rb lb kb b B part at_ h x:=
 ⟨s.res,s.lay,s.plc,⟨s.now.blk,⟨fun j hj=>Zq (s.now.own.own j hj) fun c hc=>rfl,s.now.own.apart⟩,s.now.far,s.now.new⟩,s.bel.drew,s.old,s.rbB,s.lbB,s.kbB,s.sz⟩
theorem FwSt.F{w W:World}{rb lb kb b B:Nat}{part at_:Int}{h:Hp}{x:Nat→Value}(s:FwSt w W rb lb kb b B part at_ h x):(∀j,W.cell? ⟨rb,j,none⟩=(#[.int .u64 0,.int .i64 0,.int .i64 0,.bool false,.int .i64 0,.slice none 0 0,.slice none 0 0,.slice none 0 0,.slice none 0 0,.slice none 0 0]:Array Value)[j]?)∧(∀j,W.frozen? ⟨rb,j,none⟩=false)∧
  (∀j,W.cell? ⟨b,j,none⟩=(#[.int .u64 h.base,.int .i64 h.cap,.int .i64 h.to,.bool h.cycle,.int .i64 h.scan,x 0,x 1,x 2,x 3,x 4]:Array Value)[j]?)∧(∀j,W.cell? ⟨kb,j,none⟩=(#[.int .i64 part,.int .i64 at_]:Array Value)[j]?)∧ ∀j,W.cell? ⟨lb,j,none⟩=(#[.int .u64 (layH h).base,.int .i64 (layH h).cap,.int .i64 (layH h).to,.int .i64 (layH h).low,.int .i64 (layH h).high,.int .i64 (layH h).old,.int .i64 (layH h).far]:Array Value)[j]? :=
 ⟨fun j=>cell_of_row _ _ _ _ _ _ s.res,fun j=>Zl s.res,fun j=>cell_of_row _ _ _ _ _ _ s.now.blk,fun j=>cell_of_row _ _ _ _ _ _ s.plc,fun j=>cell_of_row _ _ _ _ _ _ s.lay⟩
theorem RS(w:World)(G:Nat→Prop)(hG: ∀b,G b→b<w.heap.size)(h:Hp)(hh:h.ok)(src:Nat→Value)(hs: ∀j,j<5→Rd w G (.sl ((lsH h j).map vu)) (src j))(v:Int)(hv:U64 v)
  (hr:Z7 (layH h)=true) (hv0: ¬v=0) (h1:(adr v).2=0) (part:Int) (at_:Nat) (hf:Zu (layH h) (adr v).1=(part,(at_:Int),0)) (hp:part=1∨part=2):
  Calls Tryz.prog 46 #[hpA h src,.int .u64 v] w (Ud w (fwd h v)):=by
 have HS:=Lib.hid hs
 have HH:=Lib.hid hh
 clear hs hh
 unfold hpA
 go_enter Tryz.func46,Tryz.ntmps46
 rcases hp with rfl|rfl
 all_goals
  go_wp2_with (first
   | (go_at_call 33;go_loud (refine(ZZ (h:=h) (x:=src) (G:=G) (fun c hc=>by have:=hG c hc;simp;omega) (fun j hj=>(HS.out j hj).keep (fun b hb=>by have:=hG b hb;rw[Below.heap_alloc _ _ _ (by simp;omega),Below.heap_alloc _ _ _ (by omega)]) (fun _ h=>h))).mono ?_;rintro e w1 ⟨rfl,hb1⟩;unfold lyA;have z1:=(hb1.block (w.heap.size+1) (by simp)).trans (XW w _);have p1:=(hb1.block w.heap.size (by simp;omega)).trans ((Below.heap_alloc _ _ w.heap.size (by simp)).trans (heap_alloc_new w _));have hs1:=hb1.size;simp at hs1;have HB1:=Lib.hid hb1;clear hb1))
   | (go_at_call 58;go_loud (refine(Ya HH.out.lay _).mono ?_;rintro e w2 ⟨rfl,hb2⟩;rw[hr];have z2:=(hb2.block (w.heap.size+1) (by simp;omega)).trans ((Below.heap_alloc w1 _ (w.heap.size+1) (by omega)).trans z1);have p2:=(hb2.block w.heap.size (by simp;omega)).trans ((Below.heap_alloc w1 _ w.heap.size (by omega)).trans p1);have x2:=fun j=>cell_of_row _ _ j _ _ _ p2;have hb02:Below w.heap.size w w2:=((((((Below.refl _ _).alloc (Nat.le_refl _) _).alloc (by simp) _).trans (HB1.out.mono (by simp;omega))).alloc (by omega) _).trans (hb2.mono (by simp;omega)));have hs2:=hb2.size;simp at hs2;have m2:=(hb2.block w1.heap.size (by simp)).trans (heap_alloc_new w1 _);have HB02:=Lib.hid hb02;clear hb2 hb02))
   | (go_at_call 59;go_loud (refine(ZV hv _).mono ?_;rintro e w3 ⟨rfl,hb3⟩;have z3:=(hb3.block (w.heap.size+1) (by omega)).trans z2;have p3:=(hb3.block w.heap.size (by omega)).trans p2;have m3:=(hb3.block w1.heap.size (by omega)).trans m2;have l3:=fun j=>cell_of_row _ _ j _ _ _ m3;have hs3:=hb3.size;have HB3:=Lib.hid hb3;clear hb3))
   | (go_at_call 60;go_loud (refine(Wi HH.out.lay (zY hv) _).mono ?_;rintro e w4 ⟨rfl,hb4⟩;rw[hf];dsimp only;have hs4:=hb4.size;have z4:=fun o=>(Below.heap_alloc w4 o (w.heap.size+1) (by omega)).trans ((hb4.block (w.heap.size+1) (by omega)).trans z3);have p4:=fun o=>(Below.heap_alloc w4 o w.heap.size (by omega)).trans ((hb4.block w.heap.size (by omega)).trans p3);have x4:=fun o j=>cell_of_row _ _ j _ _ _ (p4 o);have hb04: ∀o,Below w.heap.size w (w4.alloc o):=fun o=>((HB02.out.trans (HB3.out.mono (by omega))).trans (hb4.mono (by omega))).alloc (by omega) o;have m4:=fun o=>(Below.heap_alloc w4 o w1.heap.size (by omega)).trans ((hb4.block w1.heap.size (by omega)).trans m3);have HB04:=Lib.hid hb04;clear hb4 hb04 z3 p3 m3 l3 z2 p2 x2 m2))
   | (go_at_call 32;go_loud (refine(UT _ G (fun b hb=>by have:=hG b hb;simp;omega) h HH.out src (fun j hj=>(HS.out j hj).keep (fun b hb=>(HB04.out _).block b (hG b hb)) (fun _ h=>h))).mono ?_;rintro e w5 ⟨x,rfl,hb5,ho5⟩;obtain⟨a0,q0,e0⟩:=Zd (ho5.own 0 (by omega));obtain⟨a1,q1,e1⟩:=Zd (ho5.own 1 (by omega));obtain⟨a2,q2,e2⟩:=Zd (ho5.own 2 (by omega));obtain⟨a3,q3,e3⟩:=Zd (ho5.own 3 (by omega));obtain⟨a4,q4,e4⟩:=Zd (ho5.own 4 (by omega));unfold hpA;rw[e0,e1,e2,e3,e4];have hs5:=hb5.size;simp at hs5;have hsz4: ∀o,(w4.alloc o).heap.size=w4.heap.size+1:=fun o=>(by simp);rw[hsz4]at ho5;have hN:=Uk ho5 (by omega);unfold Z06 at hN;rw[e0,e1,e2,e3,e4]at hN;have hb05: ∀o,Below w.heap.size w (w5.alloc o):=fun o=>((HB04.out _).trans (hb5.mono (by simp;omega))).alloc (by omega) o;have z6:=fun o=>(Below.heap_alloc w5 o (w.heap.size+1) (by omega)).trans ((hb5.block (w.heap.size+1) (by simp;omega)).trans (z4 _));have st6:FwSt w (w5.alloc _) (w.heap.size+1) w1.heap.size w4.heap.size w5.heap.size (w4.heap.size+1) _ (at_:Nat) h x:=⟨z6 _,(Below.heap_alloc w5 _ w1.heap.size (by omega)).trans ((hb5.block w1.heap.size (by simp;omega)).trans (m4 _)),(Below.heap_alloc w5 _ w4.heap.size (by omega)).trans ((hb5.block w4.heap.size (by simp)).trans (heap_alloc_new w4 _)),hN,hb05 _,by omega,by omega,by omega,by omega,by simp;omega⟩;obtain⟨y6,f6,n6c,k6c,m6c⟩:=st6.F;rw[e0,e1,e2,e3,e4]at n6c;have ST6:=Lib.hid st6;clear st6;have HB05:=Lib.hid hb05;have HN:=Lib.hid hN;have E0:=Lib.hid e0;have E1:=Lib.hid e1;have E2:=Lib.hid e2;have E3:=Lib.hid e3;have E4:=Lib.hid e4;clear hb05 hN e0 e1 e2 e3 e4 ho5 hb5 z4 p4 x4 m4)))
  go_region
  all_goals
   go_wp2
   try simp only[Exit.inBlock,Exit.then]
   have y:=ZP ST6.out.res (.int .u64 h.base) (.int .i64 h.cap) (.int .i64 h.to) (.bool h.cycle) (.int .i64 h.scan) (.slice a0 (lsH h 0).length q0) (.slice a1 (lsH h 1).length q1) (.slice a2 (lsH h 2).length q2) (.slice a3 (lsH h 3).length q3) (.slice a4 (lsH h 4).length q4)
   have hfw:fwd h v=(v,h,0):=by simp[fwd,hr,hv0,h1,hf]
   rw[hfw]
   refine bodyPost_ret (v:= .tuple #[.int .u64 v,hpA h x,.int .i64 0]) ?_ rfl ?_
   ·unfold hpA;rw[E0.out,E1.out,E2.out,E3.out,E4.out];simp[results,Tryz.results46,go_sem,y]
   ·refine⟨x,rfl,?_,?_⟩
    ·exact(ZE (HB05.out _) (by omega) _ _ _ _ _ _ _ _ _ _).drew
    ·refine⟨fun j hj=> ?_,HN.out.own.apart⟩
     have ho:=HN.out.own.own j hj
     refine KM (Zq ho ?_) ?_
     ·intro c hc
      have hc1:=(ho.lt c hc).1
      exact WO (by omega) _ _ _ _ _ _ _ _ _ _
     ·intro c h1 h2
      exact⟨by omega,h2⟩
theorem QG(w:World)(G:Nat→Prop)(hG: ∀b,G b→b<w.heap.size)(h:Hp)(hh:h.ok)(src:Nat→Value)(hs: ∀j,j<5→Rd w G (.sl ((lsH h j).map vu)) (src j))(v:Int)(hv:U64 v)
  (hr:Z7 (layH h)=true) (hv0: ¬v=0) (h1:(adr v).2=0) (part:Int) (at_:Nat) (hf:Zu (layH h) (adr v).1=(part,(at_:Int),0)) (j:Nat) (hj:((j:Nat):Int)+1=part) (hp:part=3∨part=4)
  (wd:Int) (hwd:(lsH h j)[at_]? =some wd) (hat:at_< (lsH h j).length) (hwu:U64 wd) (hgo:(adr wd).2=0):
  Calls Tryz.prog 46 #[hpA h src,.int .u64 v] w (Ud w (fwd h v)):=by
 have HS:=Lib.hid hs
 have HH:=Lib.hid hh
 clear hs hh
 unfold hpA
 go_enter Tryz.func46,Tryz.ntmps46
 rcases hp with rfl|rfl
 all_goals
  have hj5:j=2∨j=3:=by omega
  go_wp2_with (first
   | (go_at_call 71;go_loud (have hfr:=QO _ (w4.heap.size+1) w5.heap.size h x ST6.out.now HH.out j at_ (by omega) g qj EP.out (by omega);rw[hj]at hfr;refine hfr.mono ?_;clear hfr;rintro e w7 ⟨rfl,hb7⟩;obtain⟨m,hm⟩: ∃m,(lsH h j).length-at_=m:=⟨_,rfl⟩;obtain⟨qm,hqm⟩: ∃qm,qj-at_=qm:=⟨_,rfl⟩;rw[hm,hqm];have hm0:0<m:=(by omega);have hm0i:(0:Int) < (m:Int):=(by omega);have hat2:at_+0=at_:=rfl;have st7:=ST6.out.below hb7;have hs7:=hb7.size;simp at hs7;obtain⟨y7,f7,n7c,k7c,m7c⟩:=st7.F;rw[E0.out,E1.out,E2.out,E3.out,E4.out]at n7c;have hop7:=st7.now.own.own j (by omega);rw[EP.out]at hop7;have c7:=Wf hop7 hwd;have ST7:=Lib.hid st7;clear hb7 st7 hop7))
   | (go_at_call 59;go_loud (have st7:=ST7.out;refine(ZV hwu _).mono ?_;rintro e w8 ⟨rfl,hb8⟩;have st8:=st7.below hb8;have hs8:=hb8.size;obtain⟨y8,f8,n8c,k8c,m8c⟩:=st8.F;rw[E0.out,E1.out,E2.out,E3.out,E4.out]at n8c;have hop8:=st8.now.own.own j (by omega);rw[EP.out]at hop8;have c8:=Wf hop8 hwd;have ST8:=Lib.hid st8;clear hb8 st8 st7 hop8))
   | (go_at_call 33;go_loud (refine(ZZ (h:=h) (x:=src) (G:=G) (fun c hc=>by have:=hG c hc;simp;omega) (fun j hj=>(HS.out j hj).keep (fun b hb=>by have:=hG b hb;rw[Below.heap_alloc _ _ _ (by simp;omega),Below.heap_alloc _ _ _ (by omega)]) (fun _ h=>h))).mono ?_;rintro e w1 ⟨rfl,hb1⟩;unfold lyA;have z1:=(hb1.block (w.heap.size+1) (by simp)).trans (XW w _);have p1:=(hb1.block w.heap.size (by simp;omega)).trans ((Below.heap_alloc _ _ w.heap.size (by simp)).trans (heap_alloc_new w _));have hs1:=hb1.size;simp at hs1;have HB1:=Lib.hid hb1;clear hb1))
   | (go_at_call 58;go_loud (refine(Ya HH.out.lay _).mono ?_;rintro e w2 ⟨rfl,hb2⟩;rw[hr];have z2:=(hb2.block (w.heap.size+1) (by simp;omega)).trans ((Below.heap_alloc w1 _ (w.heap.size+1) (by omega)).trans z1);have p2:=(hb2.block w.heap.size (by simp;omega)).trans ((Below.heap_alloc w1 _ w.heap.size (by omega)).trans p1);have x2:=fun j=>cell_of_row _ _ j _ _ _ p2;have hb02:Below w.heap.size w w2:=((((((Below.refl _ _).alloc (Nat.le_refl _) _).alloc (by simp) _).trans (HB1.out.mono (by simp;omega))).alloc (by omega) _).trans (hb2.mono (by simp;omega)));have hs2:=hb2.size;simp at hs2;have m2:=(hb2.block w1.heap.size (by simp)).trans (heap_alloc_new w1 _);have HB02:=Lib.hid hb02;clear hb2 hb02))
   | (go_at_call 59;go_loud (refine(ZV hv _).mono ?_;rintro e w3 ⟨rfl,hb3⟩;have z3:=(hb3.block (w.heap.size+1) (by omega)).trans z2;have p3:=(hb3.block w.heap.size (by omega)).trans p2;have m3:=(hb3.block w1.heap.size (by omega)).trans m2;have l3:=fun j=>cell_of_row _ _ j _ _ _ m3;have hs3:=hb3.size;have HB3:=Lib.hid hb3;clear hb3))
   | (go_at_call 60;go_loud (refine(Wi HH.out.lay (zY hv) _).mono ?_;rintro e w4 ⟨rfl,hb4⟩;rw[hf];dsimp only;have hs4:=hb4.size;have z4:=fun o=>(Below.heap_alloc w4 o (w.heap.size+1) (by omega)).trans ((hb4.block (w.heap.size+1) (by omega)).trans z3);have p4:=fun o=>(Below.heap_alloc w4 o w.heap.size (by omega)).trans ((hb4.block w.heap.size (by omega)).trans p3);have x4:=fun o j=>cell_of_row _ _ j _ _ _ (p4 o);have hb04: ∀o,Below w.heap.size w (w4.alloc o):=fun o=>((HB02.out.trans (HB3.out.mono (by omega))).trans (hb4.mono (by omega))).alloc (by omega) o;have m4:=fun o=>(Below.heap_alloc w4 o w1.heap.size (by omega)).trans ((hb4.block w1.heap.size (by omega)).trans m3);have HB04:=Lib.hid hb04;clear hb4 hb04 z3 p3 m3 l3 z2 p2 x2 m2))
   | (go_at_call 32;go_loud (refine(UT _ G (fun b hb=>by have:=hG b hb;simp;omega) h HH.out src (fun j hj=>(HS.out j hj).keep (fun b hb=>(HB04.out _).block b (hG b hb)) (fun _ h=>h))).mono ?_;rintro e w5 ⟨x,rfl,hb5,ho5⟩;obtain⟨a0,q0,e0⟩:=Zd (ho5.own 0 (by omega));obtain⟨a1,q1,e1⟩:=Zd (ho5.own 1 (by omega));obtain⟨a2,q2,e2⟩:=Zd (ho5.own 2 (by omega));obtain⟨a3,q3,e3⟩:=Zd (ho5.own 3 (by omega));obtain⟨a4,q4,e4⟩:=Zd (ho5.own 4 (by omega));obtain⟨aj,qj,ej⟩:=Zd (ho5.own j (by omega));obtain⟨g,hg⟩:=Rr (ho5.own j (by omega)) ej (by omega);subst hg;unfold hpA;rw[e0,e1,e2,e3,e4];have hs5:=hb5.size;simp at hs5;have hsz4: ∀o,(w4.alloc o).heap.size=w4.heap.size+1:=fun o=>(by simp);rw[hsz4]at ho5;have hN:=Uk ho5 (by omega);unfold Z06 at hN;rw[e0,e1,e2,e3,e4]at hN;have hb05: ∀o,Below w.heap.size w (w5.alloc o):=fun o=>((HB04.out _).trans (hb5.mono (by simp;omega))).alloc (by omega) o;have z6:=fun o=>(Below.heap_alloc w5 o (w.heap.size+1) (by omega)).trans ((hb5.block (w.heap.size+1) (by simp;omega)).trans (z4 _));have st6:FwSt w (w5.alloc _) (w.heap.size+1) w1.heap.size w4.heap.size w5.heap.size (w4.heap.size+1) _ (at_:Nat) h x:=⟨z6 _,(Below.heap_alloc w5 _ w1.heap.size (by omega)).trans ((hb5.block w1.heap.size (by simp;omega)).trans (m4 _)),(Below.heap_alloc w5 _ w4.heap.size (by omega)).trans ((hb5.block w4.heap.size (by simp)).trans (heap_alloc_new w4 _)),hN,hb05 _,by omega,by omega,by omega,by omega,by simp;omega⟩;obtain⟨y6,f6,n6c,k6c,m6c⟩:=st6.F;rw[e0,e1,e2,e3,e4]at n6c;have ST6:=Lib.hid st6;have EP:=Lib.hid ej;clear ej;clear st6;have HB05:=Lib.hid hb05;have HN:=Lib.hid hN;have E0:=Lib.hid e0;have E1:=Lib.hid e1;have E2:=Lib.hid e2;have E3:=Lib.hid e3;have E4:=Lib.hid e4;clear hb05 hN e0 e1 e2 e3 e4 ho5 hb5 z4 p4 x4 m4)))
  have hfw:fwd h v=(wd,h,0):=by
   first
   | (have hj2:j=2:=by omega
      subst hj2)
   | (have hj2:j=3:=by omega
      subst hj2)
   first
   |have hpH:h.old.getD at_ 0=wd:=by show(lsH h 2).getD at_ 0=wd;simp[List.getD,hwd]
   |have hpH:h.far.getD at_ 0=wd:=by show(lsH h 3).getD at_ 0=wd;simp[List.getD,hwd]
   have hpL:h.old.length=(lsH h 2).length:=rfl
   have hpM:h.far.length=(lsH h 3).length:=rfl
   simp[fwd,hr,hv0,h1,hf,-List.getD_eq_getElem?_getD,hpH,hgo]
  go_region
  all_goals
   go_wp2
   try simp only[Exit.inBlock,Exit.then]
   have y:=ZP ST8.out.res (.int .u64 h.base) (.int .i64 h.cap) (.int .i64 h.to) (.bool h.cycle) (.int .i64 h.scan) (.slice a0 (lsH h 0).length q0) (.slice a1 (lsH h 1).length q1) (.slice a2 (lsH h 2).length q2) (.slice a3 (lsH h 3).length q3) (.slice a4 (lsH h 4).length q4)
   rw[hfw]
   refine bodyPost_ret (v:= .tuple #[.int .u64 wd,hpA h x,.int .i64 0]) ?_ rfl ?_
   ·unfold hpA;rw[E0.out,E1.out,E2.out,E3.out,E4.out];simp[results,Tryz.results46,go_sem,y]
   ·refine⟨x,rfl,?_,?_⟩
    ·exact(ZE ST8.out.bel (by omega) _ _ _ _ _ _ _ _ _ _).drew
    ·refine⟨fun j hj=> ?_,ST8.out.now.own.apart⟩
     have ho:=ST8.out.now.own.own j hj
     refine KM (Zq ho ?_) ?_
     ·intro c hc
      have hc1:=(ho.lt c hc).1
      exact WO (by omega) _ _ _ _ _ _ _ _ _ _
     ·intro c h1 h2
      exact⟨by omega,h2⟩
theorem UA(w:World)(G:Nat→Prop)(hG: ∀b,G b→b<w.heap.size)(h:Hp)(hh:h.ok)(src:Nat→Value)(hs: ∀j,j<5→Rd w G (.sl ((lsH h j).map vu)) (src j))(v:Int)(hv:U64 v)
  (hr:Z7 (layH h)=true) (hv0: ¬v=0) (h1:(adr v).2=0) (part:Int) (at_:Nat) (hf:Zu (layH h) (adr v).1=(part,(at_:Int),0)) (j:Nat) (hj:((j:Nat):Int)+1=part) (hp:part=3∨part=4)
  (wd:Int) (hwd:(lsH h j)[at_]? =some wd) (hat:at_< (lsH h j).length) (hwu:U64 wd) (hgo: ¬(adr wd).2=0) (sz:Nat) (pt er:Int) (hun:unpk wd=((sz:Int),pt,er)) (hsz:sz≤255)
  (hc: ¬er=0∨(er=0∧(lsH h j).length<at_+(sz+1))∨(er=0∧at_+(sz+1)≤(lsH h j).length∧Ye (layH h) < ((sz+1:Nat):Int))∨(er=0∧at_+(sz+1)≤(lsH h j).length∧ ¬Ye (layH h) < ((sz+1:Nat):Int))):
  Calls Tryz.prog 46 #[hpA h src,.int .u64 v] w (Ud w (fwd h v)):=by
 have HS:=Lib.hid hs
 have HH:=Lib.hid hh
 clear hs hh
 unfold hpA
 go_enter Tryz.func46,Tryz.ntmps46
 rcases hc with her| ⟨her,hlt⟩ | ⟨her,hle,hrm⟩ | ⟨her,hle,hrm⟩
 all_goals rcases hp with rfl|rfl
 all_goals
  have hj5:j=2∨j=3:=by omega
  go_wp2_with (first
   | (go_at_call 71;go_loud (have hfr:=QO _ (w4.heap.size+1) w5.heap.size h x ST6.out.now HH.out j at_ (by omega) g qj EP.out (by omega);rw[hj]at hfr;refine hfr.mono ?_;clear hfr;rintro e w7 ⟨rfl,hb7⟩;obtain⟨m,hm⟩: ∃m,(lsH h j).length-at_=m:=⟨_,rfl⟩;obtain⟨qm,hqm⟩: ∃qm,qj-at_=qm:=⟨_,rfl⟩;rw[hm,hqm];have hm0:0<m:=(by omega);have hm0i:(0:Int) < (m:Int):=(by omega);have hat2:at_+0=at_:=rfl;have st7:=ST6.out.below hb7;have hs7:=hb7.size;simp at hs7;obtain⟨y7,f7,n7c,k7c,m7c⟩:=st7.F;rw[E0.out,E1.out,E2.out,E3.out,E4.out]at n7c;have hop7:=st7.now.own.own j (by omega);rw[EP.out]at hop7;have c7:=Wf hop7 hwd;have ST7:=Lib.hid st7;clear hb7 st7 hop7))
   | (go_at_call 59;go_loud (have st7:=ST7.out;refine(ZV hwu _).mono ?_;rintro e w8 ⟨rfl,hb8⟩;have st8:=st7.below hb8;have hs8:=hb8.size;obtain⟨y8,f8,n8c,k8c,m8c⟩:=st8.F;rw[E0.out,E1.out,E2.out,E3.out,E4.out]at n8c;have hop8:=st8.now.own.own j (by omega);rw[EP.out]at hop8;have c8:=Wf hop8 hwd;have ST8:=Lib.hid st8;clear hb8 st8 st7 hop8))
   | (go_at_call 72;go_loud (refine(X5 hwu _).mono ?_;rintro e w9 ⟨rfl,hb9⟩;rw[hun];dsimp only;have hs9:=hb9.size;have st10:FwSt w (w9.alloc (.cells #[.int .i64 (sz:Nat),.int .i64 pt] 48)) _ _ _ _ _ _ _ h x:=(ST8.out.below hb9).below ((Below.refl _ _).alloc (Nat.le_refl _) _);obtain⟨y10,f10,n10c,k10c,m10c⟩:=st10.F;rw[E0.out,E1.out,E2.out,E3.out,E4.out]at n10c;have hop10:=st10.now.own.own j (by omega);rw[EP.out]at hop10;have c10:=Wf hop10 hwd;have s10c:=fun j=>cell_of_row _ _ j _ _ _ (heap_alloc_new w9 (.cells #[.int .i64 (sz:Nat),.int .i64 pt] 48));have ST10:=Lib.hid st10;have hml:m≤1000000:=(by have:=TY HH.out j;omega);have hl10:at_+m=(lsH h j).length:=(by omega);clear hb9 st10 hop10))
   | (go_at_call 33;go_loud (refine(ZZ (h:=h) (x:=src) (G:=G) (fun c hc=>by have:=hG c hc;simp;omega) (fun j hj=>(HS.out j hj).keep (fun b hb=>by have:=hG b hb;rw[Below.heap_alloc _ _ _ (by simp;omega),Below.heap_alloc _ _ _ (by omega)]) (fun _ h=>h))).mono ?_;rintro e w1 ⟨rfl,hb1⟩;unfold lyA;have z1:=(hb1.block (w.heap.size+1) (by simp)).trans (XW w _);have p1:=(hb1.block w.heap.size (by simp;omega)).trans ((Below.heap_alloc _ _ w.heap.size (by simp)).trans (heap_alloc_new w _));have hs1:=hb1.size;simp at hs1;have HB1:=Lib.hid hb1;clear hb1))
   | (go_at_call 58;go_loud (refine(Ya HH.out.lay _).mono ?_;rintro e w2 ⟨rfl,hb2⟩;rw[hr];have z2:=(hb2.block (w.heap.size+1) (by simp;omega)).trans ((Below.heap_alloc w1 _ (w.heap.size+1) (by omega)).trans z1);have p2:=(hb2.block w.heap.size (by simp;omega)).trans ((Below.heap_alloc w1 _ w.heap.size (by omega)).trans p1);have x2:=fun j=>cell_of_row _ _ j _ _ _ p2;have hb02:Below w.heap.size w w2:=((((((Below.refl _ _).alloc (Nat.le_refl _) _).alloc (by simp) _).trans (HB1.out.mono (by simp;omega))).alloc (by omega) _).trans (hb2.mono (by simp;omega)));have hs2:=hb2.size;simp at hs2;have m2:=(hb2.block w1.heap.size (by simp)).trans (heap_alloc_new w1 _);have HB02:=Lib.hid hb02;clear hb2 hb02))
   | (go_at_call 59;go_loud (refine(ZV hv _).mono ?_;rintro e w3 ⟨rfl,hb3⟩;have z3:=(hb3.block (w.heap.size+1) (by omega)).trans z2;have p3:=(hb3.block w.heap.size (by omega)).trans p2;have m3:=(hb3.block w1.heap.size (by omega)).trans m2;have l3:=fun j=>cell_of_row _ _ j _ _ _ m3;have hs3:=hb3.size;have HB3:=Lib.hid hb3;clear hb3))
   | (go_at_call 60;go_loud (refine(Wi HH.out.lay (zY hv) _).mono ?_;rintro e w4 ⟨rfl,hb4⟩;rw[hf];dsimp only;have hs4:=hb4.size;have z4:=fun o=>(Below.heap_alloc w4 o (w.heap.size+1) (by omega)).trans ((hb4.block (w.heap.size+1) (by omega)).trans z3);have p4:=fun o=>(Below.heap_alloc w4 o w.heap.size (by omega)).trans ((hb4.block w.heap.size (by omega)).trans p3);have x4:=fun o j=>cell_of_row _ _ j _ _ _ (p4 o);have hb04: ∀o,Below w.heap.size w (w4.alloc o):=fun o=>((HB02.out.trans (HB3.out.mono (by omega))).trans (hb4.mono (by omega))).alloc (by omega) o;have m4:=fun o=>(Below.heap_alloc w4 o w1.heap.size (by omega)).trans ((hb4.block w1.heap.size (by omega)).trans m3);have HB04:=Lib.hid hb04;clear hb4 hb04 z3 p3 m3 l3 z2 p2 x2 m2))
   | (go_at_call 32;go_loud (refine(UT _ G (fun b hb=>by have:=hG b hb;simp;omega) h HH.out src (fun j hj=>(HS.out j hj).keep (fun b hb=>(HB04.out _).block b (hG b hb)) (fun _ h=>h))).mono ?_;rintro e w5 ⟨x,rfl,hb5,ho5⟩;obtain⟨a0,q0,e0⟩:=Zd (ho5.own 0 (by omega));obtain⟨a1,q1,e1⟩:=Zd (ho5.own 1 (by omega));obtain⟨a2,q2,e2⟩:=Zd (ho5.own 2 (by omega));obtain⟨a3,q3,e3⟩:=Zd (ho5.own 3 (by omega));obtain⟨a4,q4,e4⟩:=Zd (ho5.own 4 (by omega));obtain⟨aj,qj,ej⟩:=Zd (ho5.own j (by omega));obtain⟨g,hg⟩:=Rr (ho5.own j (by omega)) ej (by omega);subst hg;unfold hpA;rw[e0,e1,e2,e3,e4];have hs5:=hb5.size;simp at hs5;have hsz4: ∀o,(w4.alloc o).heap.size=w4.heap.size+1:=fun o=>(by simp);rw[hsz4]at ho5;have hN:=Uk ho5 (by omega);unfold Z06 at hN;rw[e0,e1,e2,e3,e4]at hN;have hb05: ∀o,Below w.heap.size w (w5.alloc o):=fun o=>((HB04.out _).trans (hb5.mono (by simp;omega))).alloc (by omega) o;have z6:=fun o=>(Below.heap_alloc w5 o (w.heap.size+1) (by omega)).trans ((hb5.block (w.heap.size+1) (by simp;omega)).trans (z4 _));have st6:FwSt w (w5.alloc _) (w.heap.size+1) w1.heap.size w4.heap.size w5.heap.size (w4.heap.size+1) _ (at_:Nat) h x:=⟨z6 _,(Below.heap_alloc w5 _ w1.heap.size (by omega)).trans ((hb5.block w1.heap.size (by simp;omega)).trans (m4 _)),(Below.heap_alloc w5 _ w4.heap.size (by omega)).trans ((hb5.block w4.heap.size (by simp)).trans (heap_alloc_new w4 _)),hN,hb05 _,by omega,by omega,by omega,by omega,by simp;omega⟩;obtain⟨y6,f6,n6c,k6c,m6c⟩:=st6.F;rw[e0,e1,e2,e3,e4]at n6c;have ST6:=Lib.hid st6;have EP:=Lib.hid ej;clear ej;clear st6;have HB05:=Lib.hid hb05;have HN:=Lib.hid hN;have E0:=Lib.hid e0;have E1:=Lib.hid e1;have E2:=Lib.hid e2;have E3:=Lib.hid e3;have E4:=Lib.hid e4;clear hb05 hN e0 e1 e2 e3 e4 ho5 hb5 z4 p4 x4 m4)))
 iterate 2
  focus
   have hfw:fwd h v=(0,Hp.zero,3):=by
    first
    | (have hj2:j=2:=by omega
       subst hj2)
    | (have hj2:j=3:=by omega
       subst hj2)
    first
    |have hpH:h.old.getD at_ 0=wd:=by show(lsH h 2).getD at_ 0=wd;simp[List.getD,hwd]
    |have hpH:h.far.getD at_ 0=wd:=by show(lsH h 3).getD at_ 0=wd;simp[List.getD,hwd]
    have hpL:h.old.length=(lsH h 2).length:=rfl
    have hpM:h.far.length=(lsH h 3).length:=rfl
    simp[fwd,fwdC,hr,hv0,h1,hf,-List.getD_eq_getElem?_getD,hpH,hpL,hpM,hgo,hun,her]
   have y:=ZP ST10.out.res (.int .u64 0) (.int .i64 0) (.int .i64 0) (.bool false) (.int .i64 0) (.slice none 0 0) (.slice none 0 0) (.slice none 0 0) (.slice none 0 0) (.slice none 0 0)
   rw[hfw]
   refine bodyPost_ret (v:= .tuple #[.int .u64 0,.agg Y7,.int .i64 3]) ?_ rfl ?_
   ·simp[results,Tryz.results46,go_sem,y,Y7]
   ·refine⟨fun _=> .slice none 0 0,?_,?_,V7 _ _⟩
    ·simp[hpA,Hp.zero,Y7]
    ·exact ZE ST10.out.bel (by omega) _ _ _ _ _ _ _ _ _ _
 iterate 2
  focus
   have hfw:fwd h v=(0,Hp.zero,2):=by
    first
    | (have hj2:j=2:=by omega
       subst hj2)
    | (have hj2:j=3:=by omega
       subst hj2)
    first
    |have hpH:h.old.getD at_ 0=wd:=by show(lsH h 2).getD at_ 0=wd;simp[List.getD,hwd]
    |have hpH:h.far.getD at_ 0=wd:=by show(lsH h 3).getD at_ 0=wd;simp[List.getD,hwd]
    have hpL:h.old.length=(lsH h 2).length:=rfl
    have hpM:h.far.length=(lsH h 3).length:=rfl
    simp[fwd,fwdC,hr,hv0,h1,hf,-List.getD_eq_getElem?_getD,hpH,hpL,hpM,hgo,hun,her,hlt]
   have y:=ZP ST10.out.res (.int .u64 0) (.int .i64 0) (.int .i64 0) (.bool false) (.int .i64 0) (.slice none 0 0) (.slice none 0 0) (.slice none 0 0) (.slice none 0 0) (.slice none 0 0)
   rw[hfw]
   refine bodyPost_ret (v:= .tuple #[.int .u64 0,.agg Y7,.int .i64 2]) ?_ rfl ?_
   ·simp[results,Tryz.results46,go_sem,y,Y7]
   ·refine⟨fun _=> .slice none 0 0,?_,?_,V7 _ _⟩
    ·simp[hpA,Hp.zero,Y7]
    ·exact ZE ST10.out.bel (by omega) _ _ _ _ _ _ _ _ _ _
 iterate 2
  focus
   obtain⟨sm,hsm⟩: ∃sm:Nat,sz+1=sm:=⟨_,rfl⟩
   have hwr:IntKind.i64.wrap ((sz:Int)+1)=(sm:Int):=by rw[Z1 ((sz:Int)+1) (by omega) (by omega)];omega
   have hrm2:Ye (layH h) < (sm:Int):=by omega
   have HSM:=Lib.hid hsm
   have HRM:=Lib.hid hrm
   have HLE:=Lib.hid hle
   clear hsm hrm hle
   have hbs:w9.heap.size< ((w9.alloc (.cells #[.int .i64 (sz:Nat),.int .i64 pt] 48))).heap.size:=by simp
   clear m7c m8c k10c k7c k8c y7 y8 f7 f8 n7c n8c c7 c8
   generalize (w9.alloc (.cells #[.int .i64 (sz:Nat),.int .i64 pt] 48))=w10 at*
   have ST10j:FwSt w w10 (w.heap.size+1) w1.heap.size w4.heap.size w5.heap.size (w4.heap.size+1) (((j:Nat):Int)+1) (at_:Nat) h x:=by rw[hj];exact ST10.out
   have S10:(fun w'=>w'.cell? ⟨w1.heap.size,0,none⟩=some (.int .u64 (layH h).base)∧w'.cell? ⟨w1.heap.size,1,none⟩=some (.int .i64 (layH h).cap)∧w'.cell? ⟨w1.heap.size,2,none⟩=some (.int .i64 (layH h).to)∧w'.cell? ⟨w1.heap.size,3,none⟩=some (.int .i64 (layH h).low)∧w'.cell? ⟨w1.heap.size,4,none⟩=some (.int .i64 (layH h).high)∧w'.cell? ⟨w1.heap.size,5,none⟩=some (.int .i64 (layH h).old)∧w'.cell? ⟨w1.heap.size,6,none⟩=some (.int .i64 (layH h).far)∧w'.cell? ⟨w9.heap.size,0,none⟩=some (.int .i64 (sz:Nat))∧FwSt w w' (w.heap.size+1) w1.heap.size w4.heap.size w5.heap.size (w4.heap.size+1) (((j:Nat):Int)+1) (at_:Nat) h x∧w9.heap.size<w'.heap.size) w10.drew:=⟨m10c 0,m10c 1,m10c 2,m10c 3,m10c 4,m10c 5,m10c 6,s10c 0,ST10j.drew,hbs⟩
   have SBel: ∀(u u':World),(fun w'=>w'.cell? ⟨w1.heap.size,0,none⟩=some (.int .u64 (layH h).base)∧w'.cell? ⟨w1.heap.size,1,none⟩=some (.int .i64 (layH h).cap)∧w'.cell? ⟨w1.heap.size,2,none⟩=some (.int .i64 (layH h).to)∧w'.cell? ⟨w1.heap.size,3,none⟩=some (.int .i64 (layH h).low)∧w'.cell? ⟨w1.heap.size,4,none⟩=some (.int .i64 (layH h).high)∧w'.cell? ⟨w1.heap.size,5,none⟩=some (.int .i64 (layH h).old)∧w'.cell? ⟨w1.heap.size,6,none⟩=some (.int .i64 (layH h).far)∧w'.cell? ⟨w9.heap.size,0,none⟩=some (.int .i64 (sz:Nat))∧FwSt w w' (w.heap.size+1) w1.heap.size w4.heap.size w5.heap.size (w4.heap.size+1) (((j:Nat):Int)+1) (at_:Nat) h x∧w9.heap.size<w'.heap.size) u→Below u.heap.size u u'→(fun w'=>w'.cell? ⟨w1.heap.size,0,none⟩=some (.int .u64 (layH h).base)∧w'.cell? ⟨w1.heap.size,1,none⟩=some (.int .i64 (layH h).cap)∧w'.cell? ⟨w1.heap.size,2,none⟩=some (.int .i64 (layH h).to)∧w'.cell? ⟨w1.heap.size,3,none⟩=some (.int .i64 (layH h).low)∧w'.cell? ⟨w1.heap.size,4,none⟩=some (.int .i64 (layH h).high)∧w'.cell? ⟨w1.heap.size,5,none⟩=some (.int .i64 (layH h).old)∧w'.cell? ⟨w1.heap.size,6,none⟩=some (.int .i64 (layH h).far)∧w'.cell? ⟨w9.heap.size,0,none⟩=some (.int .i64 (sz:Nat))∧FwSt w w' (w.heap.size+1) w1.heap.size w4.heap.size w5.heap.size (w4.heap.size+1) (((j:Nat):Int)+1) (at_:Nat) h x∧w9.heap.size<w'.heap.size) u':=by
    rintro u u' ⟨c0,c1,c2,c3,c4,c5,c6,c7,st,hs⟩ hb
    have hl:=st.lbB
    have hz:=st.sz
    exact⟨(hb.cell (by show w1.heap.size<u.heap.size;omega)).trans c0,(hb.cell (by show w1.heap.size<u.heap.size;omega)).trans c1,(hb.cell (by show w1.heap.size<u.heap.size;omega)).trans c2,(hb.cell (by show w1.heap.size<u.heap.size;omega)).trans c3,(hb.cell (by show w1.heap.size<u.heap.size;omega)).trans c4,(hb.cell (by show w1.heap.size<u.heap.size;omega)).trans c5,(hb.cell (by show w1.heap.size<u.heap.size;omega)).trans c6,(hb.cell hs).trans c7,st.below hb,by have:=hb.size;omega⟩
   go_region_held3 (fun w'=>w'.cell? ⟨w1.heap.size,0,none⟩=some (.int .u64 (layH h).base)∧w'.cell? ⟨w1.heap.size,1,none⟩=some (.int .i64 (layH h).cap)∧w'.cell? ⟨w1.heap.size,2,none⟩=some (.int .i64 (layH h).to)∧w'.cell? ⟨w1.heap.size,3,none⟩=some (.int .i64 (layH h).low)∧w'.cell? ⟨w1.heap.size,4,none⟩=some (.int .i64 (layH h).high)∧w'.cell? ⟨w1.heap.size,5,none⟩=some (.int .i64 (layH h).old)∧w'.cell? ⟨w1.heap.size,6,none⟩=some (.int .i64 (layH h).far)∧w'.cell? ⟨w9.heap.size,0,none⟩=some (.int .i64 (sz:Nat))∧FwSt w w' (w.heap.size+1) w1.heap.size w4.heap.size w5.heap.size (w4.heap.size+1) (((j:Nat):Int)+1) (at_:Nat) h x∧w9.heap.size<w'.heap.size) (first|exact S10|assumption)
    (first| (go_at_call 73;refine(S2 HH.out.lay _).mono ?_;rintro e w11 ⟨rfl,hb11⟩;have S11:=SBel _ _ S10 hb11))
   obtain⟨-,-,-,-,-,-,-,c11,st11,hs11⟩:=S11
   clear S10 ST10j SBel s10c y10 f10 n10c m10c hb11 hbs
   rename_i hHeld
   clear hHeld
   obtain⟨y11,f11,n11c,k11c,m11c⟩:=st11.F
   rw[E0.out,E1.out,E2.out,E3.out,E4.out]at n11c
   have hop11:=st11.now.own.own j (by omega)
   rw[EP.out]at hop11
   have cw11:=Wf hop11 hwd
   clear hop11 hm hqm hat2
   have ST11:=Lib.hid st11
   clear st11
   go_wp2
   have hrmz:Ye (layH h) < (sz:Int)+1:=by have:=HSM.out;omega
   have hfw:fwd h v=(0,Hp.zero,7):=by
    first
    | (have hj2:j=2:=by omega
       subst hj2)
    | (have hj2:j=3:=by omega
       subst hj2)
    first
    |have hpH:h.old.getD at_ 0=wd:=by show(lsH h 2).getD at_ 0=wd;simp[List.getD,hwd]
    |have hpH:h.far.getD at_ 0=wd:=by show(lsH h 3).getD at_ 0=wd;simp[List.getD,hwd]
    have hpL:h.old.length=(lsH h 2).length:=rfl
    have hpM:h.far.length=(lsH h 3).length:=rfl
    simp[fwd,fwdC,hr,hv0,h1,hf,-List.getD_eq_getElem?_getD,hpH,hpL,hpM,hgo,hun,her,Nat.not_lt.2 HLE.out,hrmz]
   have y:=ZP ST11.out.res (.int .u64 0) (.int .i64 0) (.int .i64 0) (.bool false) (.int .i64 0) (.slice none 0 0) (.slice none 0 0) (.slice none 0 0) (.slice none 0 0) (.slice none 0 0)
   rw[hfw]
   refine bodyPost_ret (v:= .tuple #[.int .u64 0,.agg Y7,.int .i64 7]) ?_ rfl ?_
   ·simp[results,Tryz.results46,go_sem,y,Y7]
   ·refine⟨fun _=> .slice none 0 0,?_,?_,V7 _ _⟩
    ·simp[hpA,Hp.zero,Y7]
    ·exact ZE ST11.out.bel (by omega) _ _ _ _ _ _ _ _ _ _
 iterate 2
  focus
   obtain⟨sm,hsm⟩: ∃sm:Nat,sz+1=sm:=⟨_,rfl⟩
   have hwr:IntKind.i64.wrap ((sz:Int)+1)=(sm:Int):=by rw[Z1 ((sz:Int)+1) (by omega) (by omega)];omega
   have hrm2: ¬(Ye (layH h) < (sm:Int)):=by omega
   have hopc:=ST10.out.now.own.own j (by omega)
   rw[EP.out]at hopc
   have hcap:=Z0N hopc (by omega)
   have hsm1:(sm:Int)≤(qm:Int):=by omega
   have hsm0:(0:Int)≤(sm:Int):=by omega
   clear hopc
   have HSM:=Lib.hid hsm
   have HRM:=Lib.hid hrm
   have HLE:=Lib.hid hle
   clear hsm hrm hle
   have hbs:w9.heap.size< ((w9.alloc (.cells #[.int .i64 (sz:Nat),.int .i64 pt] 48))).heap.size:=by simp
   clear m7c m8c k10c k7c k8c y7 y8 f7 f8 n7c n8c c7 c8
   generalize (w9.alloc (.cells #[.int .i64 (sz:Nat),.int .i64 pt] 48))=w10 at*
   have ST10j:FwSt w w10 (w.heap.size+1) w1.heap.size w4.heap.size w5.heap.size (w4.heap.size+1) (((j:Nat):Int)+1) (at_:Nat) h x:=by rw[hj];exact ST10.out
   have S10:(fun w'=>w'.cell? ⟨w1.heap.size,0,none⟩=some (.int .u64 (layH h).base)∧w'.cell? ⟨w1.heap.size,1,none⟩=some (.int .i64 (layH h).cap)∧w'.cell? ⟨w1.heap.size,2,none⟩=some (.int .i64 (layH h).to)∧w'.cell? ⟨w1.heap.size,3,none⟩=some (.int .i64 (layH h).low)∧w'.cell? ⟨w1.heap.size,4,none⟩=some (.int .i64 (layH h).high)∧w'.cell? ⟨w1.heap.size,5,none⟩=some (.int .i64 (layH h).old)∧w'.cell? ⟨w1.heap.size,6,none⟩=some (.int .i64 (layH h).far)∧w'.cell? ⟨w9.heap.size,0,none⟩=some (.int .i64 (sz:Nat))∧FwSt w w' (w.heap.size+1) w1.heap.size w4.heap.size w5.heap.size (w4.heap.size+1) (((j:Nat):Int)+1) (at_:Nat) h x∧w9.heap.size<w'.heap.size) w10.drew:=⟨m10c 0,m10c 1,m10c 2,m10c 3,m10c 4,m10c 5,m10c 6,s10c 0,ST10j.drew,hbs⟩
   have SBel: ∀(u u':World),(fun w'=>w'.cell? ⟨w1.heap.size,0,none⟩=some (.int .u64 (layH h).base)∧w'.cell? ⟨w1.heap.size,1,none⟩=some (.int .i64 (layH h).cap)∧w'.cell? ⟨w1.heap.size,2,none⟩=some (.int .i64 (layH h).to)∧w'.cell? ⟨w1.heap.size,3,none⟩=some (.int .i64 (layH h).low)∧w'.cell? ⟨w1.heap.size,4,none⟩=some (.int .i64 (layH h).high)∧w'.cell? ⟨w1.heap.size,5,none⟩=some (.int .i64 (layH h).old)∧w'.cell? ⟨w1.heap.size,6,none⟩=some (.int .i64 (layH h).far)∧w'.cell? ⟨w9.heap.size,0,none⟩=some (.int .i64 (sz:Nat))∧FwSt w w' (w.heap.size+1) w1.heap.size w4.heap.size w5.heap.size (w4.heap.size+1) (((j:Nat):Int)+1) (at_:Nat) h x∧w9.heap.size<w'.heap.size) u→Below u.heap.size u u'→(fun w'=>w'.cell? ⟨w1.heap.size,0,none⟩=some (.int .u64 (layH h).base)∧w'.cell? ⟨w1.heap.size,1,none⟩=some (.int .i64 (layH h).cap)∧w'.cell? ⟨w1.heap.size,2,none⟩=some (.int .i64 (layH h).to)∧w'.cell? ⟨w1.heap.size,3,none⟩=some (.int .i64 (layH h).low)∧w'.cell? ⟨w1.heap.size,4,none⟩=some (.int .i64 (layH h).high)∧w'.cell? ⟨w1.heap.size,5,none⟩=some (.int .i64 (layH h).old)∧w'.cell? ⟨w1.heap.size,6,none⟩=some (.int .i64 (layH h).far)∧w'.cell? ⟨w9.heap.size,0,none⟩=some (.int .i64 (sz:Nat))∧FwSt w w' (w.heap.size+1) w1.heap.size w4.heap.size w5.heap.size (w4.heap.size+1) (((j:Nat):Int)+1) (at_:Nat) h x∧w9.heap.size<w'.heap.size) u':=by
    rintro u u' ⟨c0,c1,c2,c3,c4,c5,c6,c7,st,hs⟩ hb
    have hl:=st.lbB
    have hz:=st.sz
    exact⟨(hb.cell (by show w1.heap.size<u.heap.size;omega)).trans c0,(hb.cell (by show w1.heap.size<u.heap.size;omega)).trans c1,(hb.cell (by show w1.heap.size<u.heap.size;omega)).trans c2,(hb.cell (by show w1.heap.size<u.heap.size;omega)).trans c3,(hb.cell (by show w1.heap.size<u.heap.size;omega)).trans c4,(hb.cell (by show w1.heap.size<u.heap.size;omega)).trans c5,(hb.cell (by show w1.heap.size<u.heap.size;omega)).trans c6,(hb.cell hs).trans c7,st.below hb,by have:=hb.size;omega⟩
   go_region_held3 (fun w'=>w'.cell? ⟨w1.heap.size,0,none⟩=some (.int .u64 (layH h).base)∧w'.cell? ⟨w1.heap.size,1,none⟩=some (.int .i64 (layH h).cap)∧w'.cell? ⟨w1.heap.size,2,none⟩=some (.int .i64 (layH h).to)∧w'.cell? ⟨w1.heap.size,3,none⟩=some (.int .i64 (layH h).low)∧w'.cell? ⟨w1.heap.size,4,none⟩=some (.int .i64 (layH h).high)∧w'.cell? ⟨w1.heap.size,5,none⟩=some (.int .i64 (layH h).old)∧w'.cell? ⟨w1.heap.size,6,none⟩=some (.int .i64 (layH h).far)∧w'.cell? ⟨w9.heap.size,0,none⟩=some (.int .i64 (sz:Nat))∧FwSt w w' (w.heap.size+1) w1.heap.size w4.heap.size w5.heap.size (w4.heap.size+1) (((j:Nat):Int)+1) (at_:Nat) h x∧w9.heap.size<w'.heap.size) (first|exact S10|assumption)
    (first| (go_at_call 73;refine(S2 HH.out.lay _).mono ?_;rintro e w11 ⟨rfl,hb11⟩;have S11:=SBel _ _ S10 hb11))
   obtain⟨-,-,-,-,-,-,-,c11,st11,hs11⟩:=S11
   clear S10 ST10j SBel s10c y10 f10 n10c m10c hb11 hbs
   rename_i hHeld
   clear hHeld
   obtain⟨y11,f11,n11c,k11c,m11c⟩:=st11.F
   rw[E0.out,E1.out,E2.out,E3.out,E4.out]at n11c
   have hop11:=st11.now.own.own j (by omega)
   rw[EP.out]at hop11
   have cw11:=Wf hop11 hwd
   clear hop11 hm hqm hat2
   have ST11:=Lib.hid st11
   clear st11
   have hsm:=HSM.out
   have hrm:=HRM.out
   have hle:=HLE.out
   have hrmz: ¬Ye (layH h) < (sz:Int)+1:=by omega
   have hfw:fwd h v=(toOf h (((j:Nat):Int)+1) at_ sm,Ym (ZG h (((j:Nat):Int)+1) at_ sm) (((j:Nat):Int)+1) ((zr (lsH h j) at_ sm).set at_ (toOf h (((j:Nat):Int)+1) at_ sm)),0):=by
    first
    | (have hj2:j=2:=by omega
       subst hj2)
    | (have hj2:j=3:=by omega
       subst hj2)
    first
    |have hpH:h.old.getD at_ 0=wd:=by show(lsH h 2).getD at_ 0=wd;simp[List.getD,hwd]
    |have hpH:h.far.getD at_ 0=wd:=by show(lsH h 3).getD at_ 0=wd;simp[List.getD,hwd]
    have hpL:h.old.length=(lsH h 2).length:=rfl
    have hpM:h.far.length=(lsH h 3).length:=rfl
    subst hsm
    simp only[fwd,hr,hv0,h1,hf,if_false,if_true,Bool.true_eq_false,ne_eq,not_true_eq_false]
    simp[-List.getD_eq_getElem?_getD,hpH,hgo,hun,her,fwdC,hpL,hpM,Nat.not_lt.2 hle,hrmz]
    exact⟨rfl,rfl⟩
   have HC:=Lib.hid (LW w11 (w4.heap.size+1) w5.heap.size h x ST11.out.now ST11.out.sz HH.out j at_ sm (by omega) (by omega) (by omega) (by omega) g qj EP.out (by omega) qm)
   have HFW:=Lib.hid hfw
   clear hsm hrm hle hfw hrmz
   have HRES:=Lib.hid ST11.out.res
   go_wp2_with (first| (go_at_call 74;go_loud (refine HC.out.mono ?_;rintro e w12 ⟨x',rfl,hb12,hN12⟩;have res12:=(hb12.block _ ST11.out.rbB).trans HRES.out;have hbel:=ST11.out.bel.trans (hb12.mono (by have:=ST11.out.old;have:=ST11.out.rbB;omega));obtain⟨b0,r0,g0⟩:=Zd (hN12.own.own 0 (by omega));obtain⟨b1,r1,g1⟩:=Zd (hN12.own.own 1 (by omega));obtain⟨b2,r2,g2⟩:=Zd (hN12.own.own 2 (by omega));obtain⟨b3,r3,g3⟩:=Zd (hN12.own.own 3 (by omega));obtain⟨b4,r4,g4⟩:=Zd (hN12.own.own 4 (by omega));have nb12:=hN12.blk;have e1:fwd h v=(toOf h (((j:Nat):Int)+1) at_ sm,_,0):=HFW.out;generalize hto:toOf h (((j:Nat):Int)+1) at_ sm=to at*;generalize Ym (ZG h (((j:Nat):Int)+1) at_ sm) (((j:Nat):Int)+1) ((zr (lsH h j) at_ sm).set at_ to)=h' at*;rw[g0,g1,g2,g3,g4]at nb12)))
   have y12: ∀j,w12.cell? ⟨w.heap.size+1,j,none⟩=Y7[j]? :=fun j=>cell_of_row _ _ _ _ _ _ res12
   unfold Y7 at y12
   have f12: ∀j,w12.frozen? ⟨w.heap.size+1,j,none⟩=false:=fun j=>Zl res12
   have n12c: ∀j,w12.cell? ⟨w5.heap.size,j,none⟩=(#[.int .u64 h'.base,.int .i64 h'.cap,.int .i64 h'.to,.bool h'.cycle,.int .i64 h'.scan,.slice b0 (lsH h' 0).length r0,.slice b1 (lsH h' 1).length r1,.slice b2 (lsH h' 2).length r2,.slice b3 (lsH h' 3).length r3,.slice b4 (lsH h' 4).length r4]:Array Value)[j]? :=fun j=>cell_of_row _ _ _ _ _ _ nb12
   have hs12:=hbel.size
   have hB12:w4.heap.size+1≤w12.heap.size:=by have:=hb12.size;have:=ST11.out.sz;omega
   have HN12:=Lib.hid hN12
   have HBEL:=Lib.hid hbel
   have RES12:=Lib.hid res12
   have G0:=Lib.hid g0
   have G1:=Lib.hid g1
   have G2:=Lib.hid g2
   have G3:=Lib.hid g3
   have G4:=Lib.hid g4
   clear nb12 hN12 hbel hb12 res12 g0 g1 g2 g3 g4 y11 f11 n11c k11c m11c
   go_region
   all_goals
    go_wp2
    try simp only[Exit.inBlock,Exit.then]
    have y:=ZP RES12.out (.int .u64 h'.base) (.int .i64 h'.cap) (.int .i64 h'.to) (.bool h'.cycle) (.int .i64 h'.scan) (.slice b0 (lsH h' 0).length r0) (.slice b1 (lsH h' 1).length r1) (.slice b2 (lsH h' 2).length r2) (.slice b3 (lsH h' 3).length r3) (.slice b4 (lsH h' 4).length r4)
    rw[HFW.out]
    refine bodyPost_ret (v:= .tuple #[.int .u64 to,hpA h' x',.int .i64 0]) ?_ rfl ?_
    ·unfold hpA;rw[G0.out,G1.out,G2.out,G3.out,G4.out];simp[results,Tryz.results46,go_sem,y]
    ·refine⟨x',rfl,?_,?_⟩
     ·exact(ZE HBEL.out (by omega) _ _ _ _ _ _ _ _ _ _).drew
     ·refine⟨fun j hj=> ?_,HN12.out.own.apart⟩
      have ho:=HN12.out.own.own j hj
      refine KM (Zq ho ?_) ?_
      ·intro c hc
       have hc1:=(ho.lt c hc).1
       exact WO (by omega) _ _ _ _ _ _ _ _ _ _
      ·intro c h1 h2
       exact⟨by omega,h2⟩
theorem Rh(w:World)(G:Nat→Prop)(hG: ∀b,G b→b<w.heap.size)(h:Hp)(hh:h.ok)(src:Nat→Value)(hs: ∀j,j<5→Rd w G (.sl ((lsH h j).map vu)) (src j))(v:Int)(hv:U64 v)
  (hr:Z7 (layH h)=true) (hv0: ¬v=0) (h1:(adr v).2=0) (h2:(Zu (layH h) (adr v).1).2.2=0):
  Calls Tryz.prog 46 #[hpA h src,.int .u64 v] w (Ud w (fwd h v)):=by
 obtain⟨_,f1,f2,f3,f4,_⟩:=KD h2
 rw[Yy ⟨f1,f2⟩]at f4
 obtain⟨k,hk⟩:=Int.eq_ofNat_of_zero_le f3
 have hf:Zu (layH h) (adr v).1=((Zu (layH h) (adr v).1).1,(k:Int),0):=by rw[←hk,←h2]
 rw[hk]at f4
 generalize (Zu (layH h) (adr v).1).1=part at*
 have:(part=1∨part=2)∨(part=3∨part=4):=by omega
 rcases this with hp|hp
 ·exact RS w G hG h hh src hs v hv hr hv0 h1 part k hf hp
 ·obtain⟨j,hj,hpa⟩: ∃j:Nat,((j:Nat):Int)+1=part∧Z5 h part=lsH h j:=by
   rcases hp with rfl|rfl
   ·exact⟨2,rfl,rfl⟩
   ·exact⟨3,rfl,rfl⟩
  have hwu:=(Ze hh part).1
  rw[hpa]at f4 hwu
  have hat:k< (lsH h j).length:=by omega
  have hwd:(lsH h j)[k]? =some (lsH h j)[k]:=List.getElem?_eq_getElem hat
  replace hwu:=hwu _ (List.getElem_mem hat)
  generalize (lsH h j)[k]=wd at*
  by_cases hgo:(adr wd).2=0
  ·exact QG w G hG h hh src hs v hv hr hv0 h1 part k hf j hj hp wd hwd hat hwu hgo
  by_cases her:(unpk wd).2.2=0
  ·have hu:=Z2.1 (Uc (w:=wd) her)
   obtain⟨n,hn⟩:=Int.eq_ofNat_of_zero_le hu.1
   refine UA w G hG h hh src hs v hv hr hv0 h1 part k hf j hj hp wd hwd hat hwu hgo n (unpk wd).2.1 (unpk wd).2.2 (by rw[←hn]) (by omega) ?_
   by_cases hlt:(lsH h j).length<k+(n+1)
   ·exact .inr (.inl ⟨her,hlt⟩)
   by_cases hrm:Ye (layH h) < ((n+1:Nat):Int)
   ·exact .inr (.inr (.inl ⟨her,by omega,hrm⟩))
   ·exact .inr (.inr (.inr ⟨her,by omega,hrm⟩))
  ·have h0:unpk wd=(((0:Nat):Int),(unpk wd).2.1,(unpk wd).2.2):=by
    unfold unpk at her⊢
    split
    ·rename_i c;rw[if_pos c]at her;exact absurd rfl her
    ·rfl
   exact UA w G hG h hh src hs v hv hr hv0 h1 part k hf j hj hp wd hwd hat hwu hgo 0 _ _ h0 (by omega) (.inl her)
end Vm
namespace Vm
open Go Go.Proofs Go.RowKit
set_option maxHeartbeats 4000000
set_option maxRecDepth 100000
theorem QQ(w:World)(G:Nat→Prop)(hG: ∀b,G b→b<w.heap.size)(h:Hp)(hh:h.ok)(src:Nat→Value)(hs: ∀j,j<5→Rd w G (.sl ((lsH h j).map vu)) (src j))(v:Int)(hv:U64 v):
  Calls Tryz.prog 46 #[hpA h src,.int .u64 v] w (Ud w (fwd h v)):=by
 have HS:=Lib.hid hs
 have HH:=Lib.hid hh
 clear hs hh
 by_cases hfo:Z7 (layH h)=true∧ ¬v=0∧(adr v).2=0∧(Zu (layH h) (adr v).1).2.2=0
 ·exact Rh w G hG h HH.out src HS.out v hv hfo.1 hfo.2.1 hfo.2.2.1 hfo.2.2.2
 unfold hpA
 go_enter Tryz.func46,Tryz.ntmps46
 cases hr:Z7 (layH h)
 ·go_wp2_with (first
   | (go_at_call 33;refine(ZZ (h:=h) (x:=src) (G:=G) (fun c hc=>by have:=hG c hc;simp;omega) (fun j hj=>(HS.out j hj).keep (fun b hb=>by have:=hG b hb;rw[Below.heap_alloc _ _ _ (by simp;omega),Below.heap_alloc _ _ _ (by omega)]) (fun _ h=>h))).mono ?_;rintro e w1 ⟨rfl,hb1⟩;unfold lyA;have z1:=(hb1.block (w.heap.size+1) (by simp)).trans (XW w _);have hs1:=hb1.size;simp at hs1;have HB1:=Lib.hid hb1;clear hb1)
   | (go_at_call 58;refine(Ya HH.out.lay _).mono ?_;rintro e w2 ⟨rfl,hb2⟩;rw[hr];have z2:=(hb2.block (w.heap.size+1) (by simp;omega)).trans ((Below.heap_alloc w1 _ (w.heap.size+1) (by omega)).trans z1);have y2: ∀j,w2.cell? ⟨w.heap.size+1,j,none⟩=Y7[j]? :=fun j=>cell_of_row _ _ _ _ _ _ z2;have f2: ∀j,w2.frozen? ⟨w.heap.size+1,j,none⟩=false:=fun j=>Zl z2;unfold Y7 at y2;have HB2:=Lib.hid hb2;clear hb2))
  have y:=ZP z2 (.int .u64 0) (.int .i64 0) (.int .i64 0) (.bool false) (.int .i64 0) (.slice none 0 0) (.slice none 0 0) (.slice none 0 0) (.slice none 0 0) (.slice none 0 0)
  refine bodyPost_ret (v:= .tuple #[.int .u64 0,.agg Y7,.int .i64 1]) (by simp[results,Tryz.results46,go_sem,y,Y7]) rfl ⟨fun _=> .slice none 0 0,?_,ZE ?_ (by omega) _ _ _ _ _ _ _ _ _ _,?_⟩
  ·simp[fwd,hr,hpA,Hp.zero,Y7]
  ·exact((((((Below.refl _ _).alloc (Nat.le_refl _) _).alloc (by simp) _).trans (HB1.out.mono (by simp;omega))).alloc (by omega) _).trans (HB2.out.mono (by simp;omega)))
  ·have:(fwd h v).2.1=Hp.zero:=by simp[fwd,hr]
   rw[this]
   exact V7 _ _
 ·by_cases h0:v=0
  ·subst h0
   go_wp2_with (first
    | (go_at_call 33;refine(ZZ (h:=h) (x:=src) (G:=G) (fun c hc=>by have:=hG c hc;simp;omega) (fun j hj=>(HS.out j hj).keep (fun b hb=>by have:=hG b hb;rw[Below.heap_alloc _ _ _ (by simp;omega),Below.heap_alloc _ _ _ (by omega)]) (fun _ h=>h))).mono ?_;rintro e w1 ⟨rfl,hb1⟩;unfold lyA;have z1:=(hb1.block (w.heap.size+1) (by simp)).trans (XW w _);have p1:=(hb1.block w.heap.size (by simp;omega)).trans ((Below.heap_alloc (w.alloc (.cells #[.int .u64 h.base,.int .i64 h.cap,.int .i64 h.to,.bool h.cycle,.int .i64 h.scan,src 0,src 1,src 2,src 3,src 4] 25)) _ w.heap.size (by simp)).trans (heap_alloc_new w _));have hs1:=hb1.size;simp at hs1;have HB1:=Lib.hid hb1;clear hb1)
    | (go_at_call 58;refine(Ya HH.out.lay _).mono ?_;rintro e w2 ⟨rfl,hb2⟩;rw[hr];have z2:=(hb2.block (w.heap.size+1) (by simp;omega)).trans ((Below.heap_alloc w1 _ (w.heap.size+1) (by omega)).trans z1);have p2:=(hb2.block w.heap.size (by simp;omega)).trans ((Below.heap_alloc w1 _ w.heap.size (by omega)).trans p1);have x2: ∀j,w2.cell? ⟨w.heap.size,j,none⟩=(#[.int .u64 h.base,.int .i64 h.cap,.int .i64 h.to,.bool h.cycle,.int .i64 h.scan,src 0,src 1,src 2,src 3,src 4]:Array Value)[j]? :=fun j=>cell_of_row _ _ _ _ _ _ p2;have hb02:Below w.heap.size w w2:=((((((Below.refl _ _).alloc (Nat.le_refl _) _).alloc (by simp) _).trans (HB1.out.mono (by simp;omega))).alloc (by omega) _).trans (hb2.mono (by simp;omega)));have hs2:=hb2.size;simp at hs2;have HB02:=Lib.hid hb02;clear hb2 hb02)
    | (go_at_call 32;refine(UT _ G (fun b hb=>by have:=hG b hb;omega) h HH.out src (fun j hj=>(HS.out j hj).keep (fun b hb=>HB02.out.block b (hG b hb)) (fun _ h=>h))).mono ?_;rintro e w3 ⟨x,rfl,hb3,ho3⟩;obtain⟨a0,q0,e0⟩:=Zd (ho3.own 0 (by omega));obtain⟨a1,q1,e1⟩:=Zd (ho3.own 1 (by omega));obtain⟨a2,q2,e2⟩:=Zd (ho3.own 2 (by omega));obtain⟨a3,q3,e3⟩:=Zd (ho3.own 3 (by omega));obtain⟨a4,q4,e4⟩:=Zd (ho3.own 4 (by omega));unfold hpA;rw[e0,e1,e2,e3,e4];have z3:=(hb3.block (w.heap.size+1) (by omega)).trans z2;have y3: ∀j,w3.cell? ⟨w.heap.size+1,j,none⟩=Y7[j]? :=fun j=>cell_of_row _ _ _ _ _ _ z3;have f3: ∀j,w3.frozen? ⟨w.heap.size+1,j,none⟩=false:=fun j=>Zl z3;unfold Y7 at y3;have HB3:=Lib.hid hb3;have HO3:=Lib.hid ho3;clear hb3 ho3))
   have y:=ZP z3 (.int .u64 h.base) (.int .i64 h.cap) (.int .i64 h.to) (.bool h.cycle) (.int .i64 h.scan) (.slice a0 (lsH h 0).length q0) (.slice a1 (lsH h 1).length q1) (.slice a2 (lsH h 2).length q2) (.slice a3 (lsH h 3).length q3) (.slice a4 (lsH h 4).length q4)
   have hf:fwd h 0=(0,h,0):=by simp[fwd,hr]
   refine bodyPost_ret (v:= .tuple #[.int .u64 0,hpA h x,.int .i64 0]) (by unfold hpA;rw[e0,e1,e2,e3,e4];simp[results,Tryz.results46,go_sem,y]) rfl ⟨x,?_,ZE (HB02.out.trans (HB3.out.mono (by omega))) (by omega) _ _ _ _ _ _ _ _ _ _,?_⟩
   ·rw[hf]
   ·rw[hf]
    refine⟨fun j hj=> ?_,HO3.out.apart⟩
    have ho:=HO3.out.own j hj
    refine KM (B':=w2.heap.size) (Zq ho fun c hc=>XZ (by have:=(ho.lt c hc).1;omega) _ _ _ _ _ _ _ _ _ _) (fun c h1 h2=>⟨by omega,h2⟩)
  ·have hv0: ¬(v=0):=h0
   by_cases h1:(adr v).2=0
   ·by_cases h2:(Zu (layH h) (adr v).1).2.2=0
    ·exact(hfo ⟨hr,hv0,h1,h2⟩).elim
    ·go_wp2_with (first
     | (go_at_call 33;refine(ZZ (h:=h) (x:=src) (G:=G) (fun c hc=>by have:=hG c hc;simp;omega) (fun j hj=>(HS.out j hj).keep (fun b hb=>by have:=hG b hb;rw[Below.heap_alloc _ _ _ (by simp;omega),Below.heap_alloc _ _ _ (by omega)]) (fun _ h=>h))).mono ?_;rintro e w1 ⟨rfl,hb1⟩;unfold lyA;have z1:=(hb1.block (w.heap.size+1) (by simp)).trans (XW w _);have p1:=(hb1.block w.heap.size (by simp;omega)).trans ((Below.heap_alloc (w.alloc (.cells #[.int .u64 h.base,.int .i64 h.cap,.int .i64 h.to,.bool h.cycle,.int .i64 h.scan,src 0,src 1,src 2,src 3,src 4] 25)) _ w.heap.size (by simp)).trans (heap_alloc_new w _));have hs1:=hb1.size;simp at hs1;have HB1:=Lib.hid hb1;clear hb1)
     | (go_at_call 58;refine(Ya HH.out.lay _).mono ?_;rintro e w2 ⟨rfl,hb2⟩;rw[hr];have z2:=(hb2.block (w.heap.size+1) (by simp;omega)).trans ((Below.heap_alloc w1 _ (w.heap.size+1) (by omega)).trans z1);have p2:=(hb2.block w.heap.size (by simp;omega)).trans ((Below.heap_alloc w1 _ w.heap.size (by omega)).trans p1);have x2: ∀j,w2.cell? ⟨w.heap.size,j,none⟩=(#[.int .u64 h.base,.int .i64 h.cap,.int .i64 h.to,.bool h.cycle,.int .i64 h.scan,src 0,src 1,src 2,src 3,src 4]:Array Value)[j]? :=fun j=>cell_of_row _ _ _ _ _ _ p2;have hb02:Below w.heap.size w w2:=((((((Below.refl _ _).alloc (Nat.le_refl _) _).alloc (by simp) _).trans (HB1.out.mono (by simp;omega))).alloc (by omega) _).trans (hb2.mono (by simp;omega)));have hs2:=hb2.size;simp at hs2;have m2:=(hb2.block w1.heap.size (by simp)).trans (heap_alloc_new w1 _);have HB02:=Lib.hid hb02;clear hb2 hb02)
     | (go_at_call 59;refine(ZV hv _).mono ?_;rintro e w3 ⟨rfl,hb3⟩;have z3:=(hb3.block (w.heap.size+1) (by omega)).trans z2;have y3: ∀j,w3.cell? ⟨w.heap.size+1,j,none⟩=Y7[j]? :=fun j=>cell_of_row _ _ _ _ _ _ z3;have f3: ∀j,w3.frozen? ⟨w.heap.size+1,j,none⟩=false:=fun j=>Zl z3;unfold Y7 at y3;have m3:=(hb3.block w1.heap.size (by omega)).trans m2;have l3: ∀j,w3.cell? ⟨w1.heap.size,j,none⟩=(#[.int .u64 (layH h).base,.int .i64 (layH h).cap,.int .i64 (layH h).to,.int .i64 (layH h).low,.int .i64 (layH h).high,.int .i64 (layH h).old,.int .i64 (layH h).far]:Array Value)[j]? :=fun j=>cell_of_row _ _ _ _ _ _ m3;have hs3:=hb3.size;have HB3:=Lib.hid hb3;clear hb3)
     | (go_at_call 60;refine(Wi HH.out.lay (zY hv) _).mono ?_;rintro e w4 ⟨rfl,hb4⟩;have hs4:=hb4.size;have z4: ∀o,(w4.alloc o).heap[w.heap.size+1]? =some (.cells Y7 25 (0,0)):=fun o=>(Below.heap_alloc w4 o (w.heap.size+1) (by omega)).trans ((hb4.block (w.heap.size+1) (by omega)).trans z3);have y4: ∀o j,(w4.alloc o).cell? ⟨w.heap.size+1,j,none⟩=Y7[j]? :=fun o j=>cell_of_row _ _ _ _ _ _ (z4 o);have f4: ∀o j,(w4.alloc o).frozen? ⟨w.heap.size+1,j,none⟩=false:=fun o j=>Zl (z4 o);unfold Y7 at y4;have HB4:=Lib.hid hb4;clear hb4))
     have y:=ZP (z4 (.cells #[.int .i64 (Zu (layH h) (adr v).1).1,.int .i64 (Zu (layH h) (adr v).1).2.1] 93)) (.int .u64 0) (.int .i64 0) (.int .i64 0) (.bool false) (.int .i64 0) (.slice none 0 0) (.slice none 0 0) (.slice none 0 0) (.slice none 0 0) (.slice none 0 0)
     have hf:fwd h v=(0,Hp.zero,6):=by simp[fwd,hr,h0,h1,h2]
     refine bodyPost_ret (v:= .tuple #[.int .u64 0,.agg Y7,.int .i64 6]) (by simp[results,Tryz.results46,go_sem,y,Y7]) rfl ⟨fun _=> .slice none 0 0,?_,ZE (((HB02.out.trans (HB3.out.mono (by omega))).trans (HB4.out.mono (by omega))).alloc (by omega) _) (by omega) _ _ _ _ _ _ _ _ _ _,?_⟩
     ·rw[hf];simp[hpA,Hp.zero,Y7]
     ·rw[hf]
      exact V7 _ _
   ·go_wp2_with (first
    | (go_at_call 33;refine(ZZ (h:=h) (x:=src) (G:=G) (fun c hc=>by have:=hG c hc;simp;omega) (fun j hj=>(HS.out j hj).keep (fun b hb=>by have:=hG b hb;rw[Below.heap_alloc _ _ _ (by simp;omega),Below.heap_alloc _ _ _ (by omega)]) (fun _ h=>h))).mono ?_;rintro e w1 ⟨rfl,hb1⟩;unfold lyA;have z1:=(hb1.block (w.heap.size+1) (by simp)).trans (XW w _);have p1:=(hb1.block w.heap.size (by simp;omega)).trans ((Below.heap_alloc (w.alloc (.cells #[.int .u64 h.base,.int .i64 h.cap,.int .i64 h.to,.bool h.cycle,.int .i64 h.scan,src 0,src 1,src 2,src 3,src 4] 25)) _ w.heap.size (by simp)).trans (heap_alloc_new w _));have hs1:=hb1.size;simp at hs1;have HB1:=Lib.hid hb1;clear hb1)
    | (go_at_call 58;refine(Ya HH.out.lay _).mono ?_;rintro e w2 ⟨rfl,hb2⟩;rw[hr];have z2:=(hb2.block (w.heap.size+1) (by simp;omega)).trans ((Below.heap_alloc w1 _ (w.heap.size+1) (by omega)).trans z1);have p2:=(hb2.block w.heap.size (by simp;omega)).trans ((Below.heap_alloc w1 _ w.heap.size (by omega)).trans p1);have x2: ∀j,w2.cell? ⟨w.heap.size,j,none⟩=(#[.int .u64 h.base,.int .i64 h.cap,.int .i64 h.to,.bool h.cycle,.int .i64 h.scan,src 0,src 1,src 2,src 3,src 4]:Array Value)[j]? :=fun j=>cell_of_row _ _ _ _ _ _ p2;have hb02:Below w.heap.size w w2:=((((((Below.refl _ _).alloc (Nat.le_refl _) _).alloc (by simp) _).trans (HB1.out.mono (by simp;omega))).alloc (by omega) _).trans (hb2.mono (by simp;omega)));have hs2:=hb2.size;simp at hs2;have HB02:=Lib.hid hb02;clear hb2 hb02)
      | (go_at_call 59;refine(ZV hv _).mono ?_;rintro e w3 ⟨rfl,hb3⟩;have z3:=(hb3.block (w.heap.size+1) (by omega)).trans z2;have y3: ∀j,w3.cell? ⟨w.heap.size+1,j,none⟩=Y7[j]? :=fun j=>cell_of_row _ _ _ _ _ _ z3;have f3: ∀j,w3.frozen? ⟨w.heap.size+1,j,none⟩=false:=fun j=>Zl z3;unfold Y7 at y3;have HB3:=Lib.hid hb3;clear hb3))
    have y:=ZP z3 (.int .u64 0) (.int .i64 0) (.int .i64 0) (.bool false) (.int .i64 0) (.slice none 0 0) (.slice none 0 0) (.slice none 0 0) (.slice none 0 0) (.slice none 0 0)
    have hf:fwd h v=(0,Hp.zero,3):=by simp[fwd,hr,h0,h1]
    refine bodyPost_ret (v:= .tuple #[.int .u64 0,.agg Y7,.int .i64 3]) (by simp[results,Tryz.results46,go_sem,y,Y7]) rfl ⟨fun _=> .slice none 0 0,?_,ZE (HB02.out.trans (HB3.out.mono (by omega))) (by omega) _ _ _ _ _ _ _ _ _ _,?_⟩
    ·rw[hf];simp[hpA,Hp.zero,Y7]
    ·rw[hf]
     exact V7 _ _
end Vm
namespace Vm
open Go Go.Proofs Go.RowKit
set_option maxHeartbeats 1000000
set_option maxRecDepth 100000
theorem Yt{w:World}{G:Nat→Prop}{k:IntKind}{n:Int}{v:Value}(r:Rd w G (.int k n) v):v= .int k n:=by cases r;rfl
theorem JC{w:World}{G:Nat→Prop}{b:Bool}{v:Value}(r:Rd w G (.bool b) v):v= .bool b:=by cases r;rfl
theorem Z0n{w:World}{G:Nat→Prop}{h:Hp}{v:Value}(r:Rd w G (hpV h) v): ∃src,v=hpA h src∧ ∀j,j<5→Rd w G (.sl ((lsH h j).map vu)) (src j):=by
 cases r with
 |agg _ vs hl _ hr=>
  refine⟨fun j=>vs.getD (5+j) undef,?_,?_⟩
  ·have e0:=Yt (hr 0 _ rfl)
   have e1:=Yt (hr 1 _ rfl)
   have e2:=Yt (hr 2 _ rfl)
   have e3:=JC (hr 3 _ rfl)
   have e4:=Yt (hr 4 _ rfl)
   have hl':vs.size=10:=hl
   unfold hpA
   rw[←e0,←e1,←e2,←e3,←e4]
   congr 1
   apply Array.ext
   ·simp[hl']
   ·intro i h1 h2
    have hi:i<10:=by omega
    match i,hi with
    |0,_|1,_|2,_|3,_|4,_|5,_|6,_|7,_|8,_|9,_=>simp[Array.getD,hl']
  ·intro j hj
   match j,hj with
   |0,_=>exact hr 5 _ rfl
   |1,_=>exact hr 6 _ rfl
   |2,_=>exact hr 7 _ rfl
   |3,_=>exact hr 8 _ rfl
   |4,_=>exact hr 9 _ rfl
theorem Z1Y{w:World}{G:Nat→Prop}{h:Hp}{x:Nat→Value}(hr: ∀j,j<5→Rd w G (.sl ((lsH h j).map vu)) (x j)):Rd w G (hpV h) (hpA h x):=by
 refine .agg _ _ rfl (by simp[V.one]) ?_
 intro i y hy
 match i,hy with
 |0,hy=>cases hy;exact .int _ _
 |1,hy=>cases hy;exact .int _ _
 |2,hy=>cases hy;exact .int _ _
 |3,hy=>cases hy;exact .bool _
 |4,hy=>cases hy;exact .int _ _
 |5,hy=>cases hy;exact hr 0 (by omega)
 |6,hy=>cases hy;exact hr 1 (by omega)
 |7,hy=>cases hy;exact hr 2 (by omega)
 |8,hy=>cases hy;exact hr 3 (by omega)
 |9,hy=>cases hy;exact hr 4 (by omega)
end Vm
end
section
namespace Vm
open Go Go.Proofs Go.RowKit
set_option maxHeartbeats 1000000
set_option maxRecDepth 100000
theorem Rd.slfT{w:World}{G:Nat→Prop}{l:List V}{v:Value}(h:Rd w G (.sl l) v): ∃a c,v= .slice a l.length c:=by
 cases h with
 |nil a cap _=>exact⟨a,cap,rfl⟩
 |sl l b o cap k vs=>exact⟨_,cap,rfl⟩
theorem append_empty{P:Program}{w:World}{t ty e:TypeId}(ht:P.underlying t=some (.slice e))(hel:elOk P e=true)(ad a:Addr)(n c:Nat)(news:List Value)(hl:news.length=n*P.cellsOf e)(hnews: ∀j v,news[j]? =some v→w.cell? (a.add j)=some v)(h0:0<n)(hlim:n≤lim):
  (Builtin.append_ #[t,t] ty #[.slice (some ad) 0 0,.slice (some a) n c]).run P w=(Builtin.append_ #[t,t] ty #[.slice none 0 0,.slice (some a) n c]).run P w:=by
 obtain⟨i,z,hi,hz,hzs,h1,hby,hcs⟩:=X8 hel
 simp only[lim]at hlim
 have hbytes:n*i.bytes≤140737488355328:=by
  have:n*i.bytes≤4294967296*32768:=Nat.mul_le_mul hlim hby
  omega
 rw[run_append_nil (P:=P) w t ty e i z ht hi hz a n c news (by rw[hl,hcs]) hnews h0 (by omega) (by omega)]
 have hr:=run_append_grow (P:=P) w t ty e i z ht hi hz ad 0 0 [] (by simp) (fun j v hv=>by simp at hv) a n c news (by rw[hl,hcs]) hnews (by omega) (by omega) (growslice_fits (by omega) (by simpa using hbytes))
 simpa using hr
theorem QU{w:World}(ad:Option Addr){ty:TypeId}{G:Nat→Prop}{l:List Int}{y:Value}(hl:l.length≤1000000)(hy:Rd w G (.sl (l.map vu)) y):
  ∃v' w',(Builtin.append_ #[23,23] ty #[.slice ad 0 0,y]).run Tryz.prog w= .ok v' w'∧Below w.heap.size w w'∧Rd w' (fun c=>w.heap.size≤c∧c<w'.heap.size) (.sl (l.map vu)) v':=by
 have hT:=Tryz.underlying23
 have nilOk: ∀(w:World),Rd w (fun c=>w.heap.size≤c∧c<w.heap.size) (.sl ([]:List V)) (.slice ad 0 0):=fun w=> .nil _ _ (by unfold maxLen;omega)
 by_cases h0:l= []
 ·subst h0
  obtain⟨i,z,hi,hz,hzs,h1,hby,hcs⟩:=X8 (P:=Tryz.prog) elU
  have hv: ∃a c,y= .slice a 0 c:=by
   obtain⟨a,c,e⟩:=Rd.slfT hy
   exact⟨a,c,by simpa using e⟩
  obtain⟨a,c,rfl⟩:=hv
  refine⟨.slice ad 0 0,w,?_,Below.refl _ _,nilOk w⟩
  cases a<;>cases ad<;>simp[Builtin.append_,run_underlying hT,Go.sizeOf,typeInfo,hi,Builtin.lenOf,Builtin.firstCells,loadCells,loadCellsFrom,storeCells]
 ·have hpos:0<l.length:=List.length_pos_iff.2 h0
  have key:(Builtin.append_ #[23,23] ty #[.slice ad 0 0,y]).run Tryz.prog w=(Builtin.append_ #[23,23] ty #[.slice none 0 0,y]).run Tryz.prog w:=by
   cases ad with
   |none=>rfl
   |some ad=>
    have hy':=hy
    generalize hL:l.map vu=L at hy'
    cases hy' with
    |nil=>simp at hL;exact absurd hL h0
    |sl _ b o cap kk vs h1 h2 h3 h4 h5 h6=>
     have hlen:L.length=l.length:=by rw[←hL,List.length_map]
     have hkk:kk=1:=by
      obtain⟨x,hx⟩:=List.exists_mem_of_ne_nil l h0
      have:=(h4 (vu x) (by rw[←hL];exact List.mem_map_of_mem hx)).1
      simpa using this.symm
     subst hkk
     refine append_empty hT elU ad ⟨b,o,none⟩ _ cap ((List.range L.length).map vs) (by rw[ceU];simp) (fun j u hj=> ?_) (by omega) (by simp only[lim];omega)
     have hlt:j<L.length:=by simpa using(List.getElem?_eq_some_iff.1 hj).1
     have hvs:vs j=u:=by simpa[hlt]using hj
     rw[Addr.add_lit,←hvs]
     exact h5 j (by omega)
  obtain⟨v',w',news,hr,h1,h2,h3,_,h5⟩:=Wc (ty:=ty) (B:=w.heap.size) (n:=0) (xs:= []) hT elU (World.ownsRow_nil w _ _ _) (Nat.le_refl _) hy (by rw[ceU];exact XI _) (by simp only[lim,List.length_map];omega)
  rw[ceU]at h1
  have hl6:news.length=l.length:=by have:=h1.1;simpa using this
  have h6:=Tg h5 hl6
  rw[h6]at h1
  simp only[List.length_map,Nat.zero_add,List.nil_append]at h1
  refine⟨v',w',key.trans hr,?_,Kj h1 fun c h1 h2=>⟨h1,h2⟩⟩
  have hn:(Value.slice none 0 0).ownBlock=none:=rfl
  rw[hn]at h2
  exact Below.grown (Below.refl _ _) h2 (Nat.le_refl _) (fun r hr=>by cases hr)
theorem j0{w:World}{o:Oper}{a:Act}{K:Act→World→Prop}{Q:Exit→Act→World→Prop}(s x:Operand)
  (ho:o.op= .call {callee:= .builtin .append,args:= #[s,x],argTypes:= #[23,23]}) {ad:Option Addr} {y:Value} (hs:a.eval s= .slice ad 0 0) (hx:a.eval x=y)
  {G:Nat→Prop} {l:List Int} (hl:l.length≤1000000) (hy:Rd w G (.sl (l.map vu)) y)
  (h: ∀v' w',Below w.heap.size w w'→Rd w' (fun c=>w.heap.size≤c∧c<w'.heap.size) (.sl (l.map vu)) v'→K (a.put o.dst v') w'):o.wp Tryz.prog a w K Q:=by
 obtain⟨v',w',hr,h1,h2⟩:=QU ad (ty:=o.type) hl hy
 unfold Oper.wp execOp
 simp only[ho,resolve,invoke,builtin,Sem.run_bind,Sem.run_pure,Result.andThen_ok,List.map_toArray,List.map_cons,List.map_nil,hs,hx,hr]
 exact h v' w' h1 h2
theorem QN{w:World}{ops:Array Oper}{rest:List Oper}{o:Oper}{a:Act}{Q:Exit→Act→World→Prop}(hgd:o.guard=none)(s x:Operand)
  (ho:o.op= .call {callee:= .builtin .append,args:= #[s,x],argTypes:= #[23,23]}) {ad:Option Addr} {y:Value} (hs:a.eval s= .slice ad 0 0) (hx:a.eval x=y)
  {G:Nat→Prop} {l:List Int} (hl:l.length≤1000000) (hy:Rd w G (.sl (l.map vu)) y)
  (h: ∀v' w',Below w.heap.size w w'→Rd w' (fun c=>w.heap.size≤c∧c<w'.heap.size) (.sl (l.map vu)) v'→wpList Tryz.prog ops Q rest (a.put o.dst v') w'):wpList Tryz.prog ops Q (o::rest) a w:=
 wpList_plain hgd fun _ hK=>j0 s x ho hs hx hl hy fun v' w' h1 h2=>hK _ _ (h v' w' h1 h2)
end Vm
end
section
namespace Vm
open Go Go.Proofs Go.RowKit
set_option maxHeartbeats 1000000
set_option maxRecDepth 100000
theorem yR(w:World)(n c:Nat):Sem.run Tryz.prog (binOp .eql 23 (.slice none n c) (.slice none 0 0)) w= .ok (.bool true) w:=by rfl
theorem LR(w:World)(a:Addr)(n c:Nat):Sem.run Tryz.prog (binOp .eql 23 (.slice (some a) n c) (.slice none 0 0)) w= .ok (.bool false) w:=by rfl
theorem JJ(w:World){G:Nat→Prop}(hG: ∀b,G b→b<w.heap.size){l:List Int}{y:Value}(hl:l.length≤1000000)(hy:Rd w G (.sl (l.map vu)) y):
  Calls Tryz.prog 70 #[y] w fun e w'=> ∃v,e= .returned v∧Below w.heap.size w w'∧Rd w' (fun c=>w.heap.size≤c∧c<w'.heap.size) (.sl (l.map vu)) v:=by
 obtain⟨a,c,rfl⟩:=Rd.slfT hy
 cases a with
 |none=>
  have h0:l= []:=by
   generalize hL:l.map vu=L at hy
   cases hy with
   |nil=>simpa using hL
  subst h0
  have q:=yR w 0 c
  go_enter Tryz.func70,Tryz.ntmps70
  simp only[List.map_nil,List.length_nil]
  go_wp2
  exact bodyPost_ret (v:= .slice none 0 0) (by simp[results,Tryz.results70,go_sem]) rfl ⟨_,rfl,Below.refl _ _,.nil _ _ (by unfold maxLen;omega)⟩
 |some ad=>
  have q:=LR w ad l.length c
  go_enter Tryz.func70,Tryz.ntmps70
  have hy2:Rd (w.alloc (.cells #[] 22)) G (.sl (l.map vu)) (.slice (some ad) (l.map vu).length c):=hy.keep (fun b hb=>Below.heap_alloc _ _ _ (hG b hb)) fun _ q=>q
  have hbb:Below w.heap.size w (w.alloc (.cells #[] 22)):=(Below.refl _ _).alloc (Nat.le_refl _) _
  have hzz:(w.alloc (.cells #[] 22)).heap.size=w.heap.size+1:=by simp
  have HB:=Lib.hid (And.intro hbb hzz)
  clear hbb hzz hy
  go_wp2_with (at_builtin;refine QN rfl _ _ rfl rfl rfl hl hy2 ?_;intro v' w' hb hr;have HR:=Lib.hid (And.intro hb hr);clear hb hr hy2)
  refine bodyPost_ret (v:=v') (by simp[results,Tryz.results70,go_sem]) rfl ⟨v',rfl,HB.out.1.trans (HR.out.1.mono (by rw[HB.out.2];omega)),HR.out.2.mono fun b hb=>⟨by have:=HB.out.2;omega,hb.2⟩⟩
end Vm
end
section
namespace Vm
open Go Go.Proofs Go.RowKit
set_option maxHeartbeats 1000000
set_option maxRecDepth 100000
end Vm
end
section
namespace Vm
open Go Go.Proofs Go.RowKit
set_option maxHeartbeats 1000000
set_option maxRecDepth 100000
end Vm
end
section
namespace Vm
open Go Go.Proofs
set_option maxRecDepth 100000
def XB(l:List Ob):List (Int×Int):=(l.filter fun o=>o.gone).map fun o=>(o.size,o.ptrs)
theorem KV{ws:List Int}{shs:List (Int×Int)}{old:Bool}: ∀(l:List Ob) (f a tk:Nat) (acc:List Ob),Tiles ws old a l→ws.length<f+a→0<f→shs.drop tk=XB l→Yp ws shs old f a tk acc=(acc++l,0)
 | [],f,a,tk,acc,ht,hf,h0,hs=>by
   obtain⟨f,rfl⟩: ∃f',f=f'+1:=⟨f-1,by omega⟩
   have:ws.length≤a:=ht
   have h2:shs.length≤tk:=List.drop_eq_nil_iff.1 hs
   rw[Yp,List.getElem?_eq_none this]
   simp only
   rw[if_neg (by omega),List.append_nil]
 |o::l,f,a,tk,acc,ht,hf,h0,hs=>by
  obtain⟨f,rfl⟩: ∃f',f=f'+1:=⟨f-1,by omega⟩
  obtain⟨h1,h2,h3⟩:=ht
  obtain⟨w,hw,hc⟩:=h2.word
  have hsh:=Z2.1 h2.shape
  have hfit:=h2.fits
  have hsl:=h2.slots
  rw[h1]at hw hfit hsl
  simp only[Int.toNat_natCast]at hw hsl
  have hrec: ∀tk':Nat,shs.drop tk'=XB l→Yp ws shs old f (a+1+o.size.toNat) tk' (acc++ [o])=(acc++o::l,0):=fun tk' hs'=>by
   rw[KV l f _ tk' _ h3 (by omega) (by omega) hs']
   simp
  have hobj: ∃tk',objR shs old a tk w=some (o,tk')∧shs.drop tk'=XB l:=by
   unfold objR
   cases hg:o.gone
   ·rw[hg]at hc
    simp only[Bool.false_eq_true,if_false]at hc
    rw[if_neg (fun h=>hc.1 h.1 h.2),hc.2.1]
    refine⟨tk,?_,?_⟩
    ·simp only[if_true]
     obtain⟨oa,os,op,og,ot⟩:=o
     simp only at hg h1 hc⊢
     rw[hg,h1,hc.2.2]
    ·rw[hs]
     simp[XB,hg]
   ·rw[hg]at hc
    simp only[if_true]at hc
    rw[if_pos ⟨hc.1,hc.2.1⟩]
    have hd:shs.drop tk=(o.size,o.ptrs)::XB l:=by rw[hs];simp[XB,hg]
    have hlt:tk<shs.length:=by
     have:=congrArg List.length hd
     simp at this
     omega
    rw[List.drop_eq_getElem_cons hlt]at hd
    have e1:=(List.cons.inj hd).1
    have e2:=(List.cons.inj hd).2
    rw[List.getElem?_eq_getElem hlt,e1]
    simp only[h2.shape,if_true]
    refine⟨tk+1,?_,e2⟩
    obtain⟨oa,os,op,og,ot⟩:=o
    simp only at hg h1 hc⊢
    rw[hg,h1,hc.2.2]
  obtain⟨tk',ho,hs'⟩:=hobj
  rw[Yp,hw]
  simp only
  rw[ho]
  simp only
  rw[if_neg (by omega),if_neg (by rw[hsl];simp)]
  exact hrec tk' hs'
theorem U8{ws:List Int}{shs:List (Int×Int)}{old:Bool}{l:List Ob}(ht:Tiles ws old 0 l)(hs:shs=XB l):Zg ws shs old=(l,0):=by
 unfold Zg
 rw[KV l (ws.length+1) 0 0 [] ht (by omega) (by omega) (by simpa using hs),List.nil_append]
def Qv(h:Hp)(low l:List Ob):Prop:= ∀o∈l,o.gone=true→ ∃q,atR h 1 low o.target=some q∧q.size=o.size∧q.ptrs=o.ptrs
theorem WY{h:Hp}{ws:List Int}{low:List Ob}: ∀(l:List Ob) (f i:Nat) (acc:List (Int×Int)),Tiles ws true i l→ws.length<f+i→0<f→Qv h low l→ZL h ws low f i acc=some (acc++XB l)
 | [],f,i,acc,ht,hf,h0,hg=>by
   obtain⟨f,rfl⟩: ∃f',f=f'+1:=⟨f-1,by omega⟩
   have:ws.length≤i:=ht
   rw[ZL,List.getElem?_eq_none this]
   simp[XB]
 |o::l,f,i,acc,ht,hf,h0,hg=>by
  obtain⟨f,rfl⟩: ∃f',f=f'+1:=⟨f-1,by omega⟩
  obtain⟨h1,h2,h3⟩:=ht
  obtain⟨w,hw,hc⟩:=h2.word
  have hsh:=Z2.1 h2.shape
  have hfit:=h2.fits
  rw[h1]at hw hfit
  simp only[Int.toNat_natCast]at hw
  have hg':Qv h low l:=fun q hq=>hg q (List.mem_cons_of_mem _ hq)
  rw[ZL,hw]
  simp only
  cases hgo:o.gone
  ·rw[hgo]at hc
   simp only[Bool.false_eq_true,if_false,true_implies]at hc
   rw[if_neg hc.1,hc.2.1]
   simp only[if_true]
   rw[WY l f _ acc h3 (by omega) (by omega) hg']
   simp[XB,hgo]
  ·rw[hgo]at hc
   simp only[if_true,true_and]at hc
   rw[if_pos hc.1]
   obtain⟨q,hq,e1,e2⟩:=hg o (.head _) hgo
   rw[←hc.2,hq]
   simp only
   rw[e1,e2,WY l f _ _ h3 (by omega) (by omega) hg']
   simp[XB,hgo]
theorem jl{h:Hp}{p:Pts}(h1:Tiles h.low false 0 p.low)(h2:Tiles h.high false 0 p.high)(h3:Tiles h.old true 0 p.old)(h4:Tiles h.far true 0 p.far)(g3:Qv h p.low p.old)(g4:Qv h p.low p.far):ZO h=some p:=by
 have ng: ∀ {ws:List Int} {a:Nat} {l:List Ob},Tiles ws false a l→XB l= []:=fun {ws a l} ht=>by
  unfold XB
  rw[List.map_eq_nil_iff,List.filter_eq_nil_iff]
  intro o ho hg
  obtain⟨w,_,hc⟩:=(ht.stands o ho).1.word
  rw[if_pos hg]at hc
  cases hc.1
 unfold ZO
 rw[U8 h1 (ng h1).symm,U8 h2 (ng h2).symm]
 unfold ZK
 simp only[ne_eq,not_true_eq_false,or_self,if_false]
 rw[WY p.old _ 0 [] h3 (by omega) (by omega) g3,WY p.far _ 0 [] h4 (by omega) (by omega) g4]
 simp only[List.nil_append,Option.getD_some]
 rw[U8 h3 rfl,U8 h4 rfl]
 simp
theorem j5{h:Hp}{p:Pts}(hn:numR h=true)(hp:ZO h=some p)(hr:VL h p=true):ZY h=true:=by
 unfold ZY
 rw[hn,hp]
 simpa using hr
theorem Z2j{h:Hp}{k:Int}{l:List Ob}{o:Ob}(ho:o∈l)(hd: ∀q∈l,Zs h k q.at_=Zs h k o.at_→q=o):atR h k l (Zs h k o.at_)=some o:=by
 unfold atR
 induction l with
 |nil=>simp at ho
 |cons x l ih=>
  rw[List.find?_cons]
  by_cases hx:Zs h k x.at_=Zs h k o.at_
  ·rw[hd x (.head _) hx]
   simp
  ·have:(Zs h k x.at_==Zs h k o.at_)=false:=by simpa using hx
   rw[this]
   rcases List.mem_cons.1 ho with rfl|ho
   ·exact absurd rfl hx
   ·exact ih ho fun q hq=>hd q (List.mem_cons_of_mem _ hq)
theorem LI{h:Hp}{k:Int}{l:List Ob}{a:Int}:(atR h k l a).isSome=true↔ ∃o∈l,Zs h k o.at_=a:=by
 unfold atR
 rw[List.find?_isSome]
 simp
end Vm
end
section
namespace Vm
open Go Go.Proofs
set_option maxRecDepth 100000
structure Tld (h:Hp) (p:Pts):Prop where
 lay:Z7 (layH h)=true
 tiles: ∀k:Int,1≤k∧k≤4→Tiles (Z5 h k) (decide (2<k)) 0 (p.at k)
def Gos(h:Hp)(p:Pts)(w one two:Int):Prop:=w=0∨ ∃k o,(k=one∨k=two)∧o∈p.at k∧w=refR (layH h) k o.at_
def Wn(h:Hp)(p:Pts)(k:Int)(i:Nat)(w:Int):Prop:=if 2<k then Gos h p w 3 4 else if k=1∧h.scan≤i then Gos h p w 1 2∨Gos h p w 3 4 else Gos h p w 1 2
section
variable {h:Hp} {p:Pts}
theorem Tld.ob(t:Tld h p){k:Int}(hk:1≤k∧k≤4){o:Ob}(ho:o∈p.at k): ∃a n m:Nat,o.at_=a∧o.size=n∧o.ptrs=m∧a+(n+1)≤(Z5 h k).length∧n≤255∧m≤n:=by
 have hs:=((t.tiles k hk).stands o ho).1
 have h1:=Z2.1 hs.shape
 obtain⟨a,ha⟩:=Int.eq_ofNat_of_zero_le hs.nat
 obtain⟨n,hn⟩:=Int.eq_ofNat_of_zero_le h1.1
 obtain⟨m,hm⟩:=Int.eq_ofNat_of_zero_le h1.2.2.1
 have:=hs.fits
 exact⟨a,n,m,ha,hn,hm,by omega,by omega,by omega⟩
theorem Tld.start(t:Tld h p){k:Int}(hk:1≤k∧k≤4){o:Ob}(ho:o∈p.at k):Zs h k o.at_=fstL (layH h) k+o.at_:=by
 obtain⟨a,n,m,ha,_,_,hl,_⟩:=t.ob hk ho
 unfold Zs
 rw[Ji t.lay hk (by rw[Yy hk];omega)]
theorem Tld.same_at(t:Tld h p){k:Int}(hk:1≤k∧k≤4){o q:Ob}(ho:o∈p.at k)(hq:q∈p.at k)(e:q.at_=o.at_):q=o:=by
 rcases(t.tiles k hk).apart q hq o ho with h1|h1|h1
 ·exact h1
 ·have:=Z2.1 ((t.tiles k hk).stands q hq).1.shape;omega
 ·have:=Z2.1 ((t.tiles k hk).stands o ho).1.shape;omega
theorem Tld.find(t:Tld h p){k:Int}(hk:1≤k∧k≤4){o:Ob}(ho:o∈p.at k):atR h k (p.at k) (fstL (layH h) k+o.at_)=some o:=by
 rw[←t.start hk ho]
 refine Z2j ho fun q hq e=>t.same_at hk ho hq ?_
 rw[t.start hk ho,t.start hk hq]at e
 omega
theorem Tld.adr(t:Tld h p){k:Int}(hk:1≤k∧k≤4){o:Ob}(ho:o∈p.at k):adr (refR (layH h) k o.at_)=(fstL (layH h) k+o.at_,0):=by
 obtain⟨a,n,m,ha,_⟩:=t.ob hk ho
 exact S8 t.lay (by omega)
theorem Tld.at_iff(t:Tld h p){k:Int}(hk:1≤k∧k≤4){w:Int}(h0:(Vm.adr w).2=0):(atR h k (p.at k) (Vm.adr w).1).isSome=true↔ ∃o∈p.at k,w=refR (layH h) k o.at_:=by
 rw[LI]
 constructor
 ·rintro⟨o,ho,e⟩
  rw[t.start hk ho]at e
  exact⟨o,ho,yF h0 e.symm⟩
 ·rintro⟨o,ho,rfl⟩
  exact⟨o,ho,by rw[t.adr hk ho,t.start hk ho]⟩
theorem Tld.goes_iff(t:Tld h p){i j:Int}(hi:1≤i∧i≤4)(hj:1≤j∧j≤4){w:Int}:Yi h p w i j=true↔Gos h p w i j:=by
 unfold Yi Gos
 by_cases h0:w=0
 ·simp[h0]
 by_cases h1:(Vm.adr w).2=0
 ·simp only[h0,h1,decide_true,decide_false,Bool.false_or,Bool.true_and,Bool.or_eq_true,false_or,t.at_iff hi h1,t.at_iff hj h1]
  constructor
  ·rintro(⟨o,ho,e⟩ | ⟨o,ho,e⟩)
   ·exact⟨i,o,.inl rfl,ho,e⟩
   ·exact⟨j,o,.inr rfl,ho,e⟩
  ·rintro⟨k,o,rfl|rfl,ho,e⟩
   ·exact .inl ⟨o,ho,e⟩
   ·exact .inr ⟨o,ho,e⟩
 ·simp only[h0,h1,decide_false,Bool.false_and,Bool.or_self,Bool.false_eq_true,false_or,false_iff]
  rintro⟨k,o,hk,ho,rfl⟩
  have hk4:1≤k∧k≤4:=by rcases hk with rfl|rfl<;>assumption
  exact h1 (by rw[t.adr hk4 ho])
theorem UH: ∀ {l:List Int} {ptrs:Int} {i:Nat},Zt l true ptrs i=true→ ∀w∈l,w=0
 | [],_,_,_,w,hw=>by simp at hw
 |y::l,ptrs,i,hs,w,hw=>by
  simp only[Zt,Bool.and_eq_true]at hs
  rcases List.mem_cons.1 hw with rfl|hw
  ·have h1:=hs.1
   simp at h1
   exact h1.1
  ·exact UH hs.2 w hw
theorem Tld.slot(t:Tld h p){k:Int}(hk:1≤k∧k≤4){o:Ob}(ho:o∈p.at k){j:Nat}(hj:(j:Int) <o.size): ∃w,(Z5 h k)[o.at_.toNat+1+j]? =some w∧(o.gone=true→w=0):=by
 obtain⟨a,n,m,ha,hn,hm,hl,_⟩:=t.ob hk ho
 have hlt:a+1+j< (Z5 h k).length:=by omega
 refine⟨(Z5 h k)[a+1+j],by rw[ha,Int.toNat_natCast];exact List.getElem?_eq_getElem hlt,fun hg=> ?_⟩
 have hs:=((t.tiles k hk).stands o ho).1.slots
 rw[hg]at hs
 refine UH hs _ ?_
 rw[ha,hn,Int.toNat_natCast,Int.toNat_natCast]
 refine List.mem_of_getElem? (i:=j) ?_
 rw[List.getElem?_take_of_lt (by omega),List.getElem?_drop]
 exact List.getElem?_eq_getElem hlt
end
structure Body (h:Hp) (p:Pts):Prop extends Tld h p where
 gone: ∀k:Int,3≤k∧k≤4→ ∀o∈p.at k,o.gone=true→ ∃q∈p.low,o.target=fstL (layH h) 1+q.at_∧q.size=o.size∧q.ptrs=o.ptrs
 ptr: ∀k:Int,1≤k∧k≤4→ ∀o∈p.at k,o.gone=false→ ∀j:Nat,(j:Int) <o.ptrs→ ∀w,(Z5 h k)[o.at_.toNat+1+j]? =some w→Wn h p k (o.at_.toNat+1+j) w
 room:(h.low.length:Int)+h.high.length+YL p≤h.cap
structure Rt (h:Hp) (p:Pts):Prop extends Body h p where
 nroots:h.roots.length≤16
 scan0:0≤h.scan
 scanL:h.scan≤h.low.length
 cyc:h.cycle=true→h.scan<h.low.length
 rest:h.cycle=false→h.scan=h.low.length∧h.old= []∧h.far= []
 once:h.cycle=true→ ∀o∈p.low,VH p (fstL (layH h) 1+o.at_)=1
 roots: ∀w∈h.roots,Gos h p w 1 2
section
variable {h:Hp} {p:Pts}
theorem J2(t:Tld h p){k:Int}{i:Nat}{w:Int}(hw:(Z5 h k)[i]? =some w):Xq h p k i=true↔Wn h p k i w:=by
 unfold Xq Wn
 simp only[hw,Option.getD_some]
 split
 ·exact t.goes_iff (by omega) (by omega)
 split
 ·rw[Bool.or_eq_true,t.goes_iff (by omega) (by omega),t.goes_iff (by omega) (by omega)]
 ·exact t.goes_iff (by omega) (by omega)
theorem zi(k:Int)(i:Nat):Wn h p k i 0:=by
 unfold Wn
 split
 ·exact .inl rfl
 split
 ·exact .inl (.inl rfl)
 ·exact .inl rfl
theorem KU(t:Tld h p){k:Int}(hk:1≤k∧k≤4):YD h p k=true↔ ∀o∈p.at k,o.gone=false→ ∀j:Nat,(j:Int) <o.ptrs→ ∀w,(Z5 h k)[o.at_.toNat+1+j]? =some w→Wn h p k (o.at_.toNat+1+j) w:=by
 unfold YD U4
 simp only[List.all_eq_true,List.mem_range]
 constructor
 ·intro hp o ho _ j hj w hw
  exact(J2 t hw).1 (hp o ho j (by omega))
 ·intro hp o ho j hj
  obtain⟨a,n,m,ha,hn,hm,hl,_⟩:=t.ob hk ho
  obtain⟨w,hw,hz⟩:=t.slot hk ho (j:=j) (by omega)
  refine(J2 t hw).2 ?_
  cases hg:o.gone
  ·exact hp o ho hg j (by omega) w hw
  ·rw[hz hg];exact zi _ _
theorem RightH.tld(r:RightH h p):Tld h p:=⟨r.lay,fun k hk=>r.tiles hk⟩
theorem RightH.rt(r:RightH h p):Rt h p:=by
 have t:=r.tld
 have hn:=r.num
 have ho:=r.ok
 unfold numR at hn
 unfold VL at ho
 simp only[Bool.and_eq_true,decide_eq_true_eq]at hn ho
 obtain⟨⟨⟨⟨n1,n2⟩,n3⟩,n4⟩,n5⟩:=hn
 obtain⟨⟨⟨⟨⟨⟨o1,o2⟩,o3⟩,o4⟩,o5⟩,o6⟩,o7⟩:=ho
 have hptr: ∀k:Int,1≤k∧k≤4→YD h p k=true:=fun k hk=>by
  have:k=1∨k=2∨k=3∨k=4:=by omega
  rcases this with rfl|rfl|rfl|rfl<;>assumption
 refine⟨⟨t,fun k hk o ho hg=> ?_,fun k hk=>(KU t hk).1 (hptr k hk),o7⟩,n2,n3,n4,fun hc=> ?_,fun hc=> ?_,fun hc o ho=> ?_,fun w hw=> ?_⟩
 ·obtain⟨q,hq,e,e1,e2⟩:=r.gone_low hk ho hg
  exact⟨q,hq,by rw[←e,t.start (k:=1) (by omega) hq],e1,e2⟩
 ·rw[hc]at n5;simpa using n5
 ·rw[hc]at n5
  simp at n5
  exact⟨n5.1.1,n5.1.2,n5.2⟩
 ·rw[hc]at o1
  simp only[Bool.not_true,Bool.false_or,List.all_eq_true]at o1
  have:=o1 o ho
  unfold tgOk at this
  rw[t.start (k:=1) (by omega) ho]at this
  simpa using this
 ·exact(t.goes_iff (by omega) (by omega)).1 (List.all_eq_true.1 o2 w hw)
theorem Rt.parts(r:Rt h p):ZO h=some p:=by
 have g: ∀k:Int,3≤k∧k≤4→Qv h p.low (p.at k):=fun k hk o ho hg=>by
  obtain⟨q,hq,e,e1,e2⟩:=r.gone k hk o ho hg
  exact⟨q,by rw[e];exact r.toTld.find (k:=1) (by omega) hq,e1,e2⟩
 exact jl (r.tiles 1 (by omega)) (r.tiles 2 (by omega)) (r.tiles 3 (by omega)) (r.tiles 4 (by omega)) (g 3 (by omega)) (g 4 (by omega))
theorem Rt.right(r:Rt h p):ZY h=true:=by
 have t:=r.toTld
 refine j5 ?_ r.parts ?_
 ·unfold numR
  simp only[Bool.and_eq_true,decide_eq_true_eq]
  refine⟨⟨⟨⟨r.lay,r.nroots⟩,r.scan0⟩,r.scanL⟩,?_⟩
  cases hc:h.cycle
  ·obtain⟨e1,e2,e3⟩:=r.rest hc
   simp[e1,e2,e3]
  ·simp[r.cyc hc]
 ·unfold VL
  simp only[Bool.and_eq_true,decide_eq_true_eq]
  have hp:=fun k hk=>(KU t hk).2 (r.ptr k hk)
  refine⟨⟨⟨⟨⟨⟨?_,?_⟩,hp 1 (by omega)⟩,hp 2 (by omega)⟩,hp 3 (by omega)⟩,hp 4 (by omega)⟩,r.room⟩
  ·cases hc:h.cycle
   ·rfl
   ·simp only[Bool.not_true,Bool.false_or,List.all_eq_true]
    intro o ho
    unfold tgOk
    rw[t.start (k:=1) (by omega) ho,decide_eq_true_eq]
    exact r.once hc o ho
  ·rw[List.all_eq_true]
   exact fun w hw=>(t.goes_iff (by omega) (by omega)).2 (r.roots w hw)
theorem XH:ZY h=true↔ ∃p,Rt h p:=
 ⟨fun hr=>by obtain⟨p,r⟩:=qe hr;exact⟨p,r.rt⟩,fun⟨p,r⟩=>r.right⟩
end
end Vm
end
section
namespace Vm
open Go Go.Proofs
set_option maxRecDepth 100000
def szL(l:List Ob):Nat:=(l.map fun o=>1+o.size.toNat).sum
theorem Ld(l r:List Ob):szL (l++r)=szL l+szL r:=by simp[szL]
theorem Tiles.sum{ws:List Int}{old:Bool}: ∀ {a:Nat} {l:List Ob},Tiles ws old a l→a≤ws.length→a+szL l=ws.length
 |a,[],h,ha=>by have:ws.length≤a:=h;simp[szL];omega
 |a,o::l,h,ha=>by
  have hs:=Z2.1 h.2.1.shape
  have hf:=h.2.1.fits
  rw[h.1]at hf
  have:=Tiles.sum h.2.2 (by omega)
  simp[szL]at this⊢
  omega
theorem Tiles.last{ws:List Int}{old:Bool}{l:List Ob}(h:Tiles ws old ws.length l):l= []:=by
 cases l with
 |nil=>rfl
 |cons o l=>
  have hs:=Z2.1 h.2.1.shape
  have hf:=h.2.1.fits
  rw[h.1]at hf
  omega
theorem Tiles.det{ws ws':List Int}{old:Bool}: ∀ {a:Nat} {l l':List Ob},Tiles ws old a l→Tiles ws' old a l'→(∀i,i<ws.length→ws'[i]? =ws[i]?)→ws.length≤ws'.length→
  (∀o∈l,∀q∈l',o.gone=true→q.gone=true→o.target=q.target→o.size=q.size∧o.ptrs=q.ptrs)→a≤ws.length→ ∃r,l'=l++r∧Tiles ws' old ws.length r
 |a,[],l',h,h',_,_,_,ha=>by
  have:ws.length≤a:=h
  have:a=ws.length:=by omega
  subst this
  exact⟨l',rfl,h'⟩
 |a,o::l,[],h,h',_,hl,_,ha=>by
  have hs:=Z2.1 h.2.1.shape
  have hf:=h.2.1.fits
  have e:=h.1
  have:ws'.length≤a:=h'
  omega
 |a,o::l,q::l',h,h',hw,hl,hg,ha=>by
  obtain⟨h1,h2,h3⟩:=h
  obtain⟨k1,k2,k3⟩:=h'
  have hs:=Z2.1 h2.shape
  have hf:=h2.fits
  obtain⟨w,hw1,hc⟩:=h2.word
  obtain⟨u,hu1,hd⟩:=k2.word
  rw[h1]at hw1 hf
  rw[k1]at hu1
  simp only[Int.toNat_natCast]at hw1 hu1
  rw[hw a (by omega),hw1]at hu1
  cases hu1
  have e:o=q:=by
   obtain⟨oa,os,op,og,ot⟩:=o
   obtain⟨qa,qs,qp,qg,qt⟩:=q
   simp only at*
   subst h1 k1
   cases og<;>cases qg<;>simp at hc hd
   ·rw[hc.2.1]at hd
    simp at hd
    simp[hc.2.2,hd]
   ·exact absurd hd.2.1 (hc.1 hd.1)
   ·exact absurd hc.2.1 (hd.1 hc.1)
   ·have:=hg _ (.head _) _ (.head _) rfl rfl (by rw[hc.2.2,hd.2.2])
    simp at this
    simp[hc.2.2,hd.2.2,this]
  subst e
  obtain⟨r,e1,e2⟩:=Tiles.det h3 k3 hw hl (fun x hx y hy=>hg x (.tail _ hx) y (.tail _ hy)) (by omega)
  exact⟨r,by rw[e1];rfl,e2⟩
theorem Tiles.uniq{ws:List Int}{old:Bool}{l l':List Ob}(h:Tiles ws old 0 l)(h':Tiles ws old 0 l')(hg: ∀o∈l,∀q∈l',o.gone=true→q.gone=true→o.target=q.target→o.size=q.size∧o.ptrs=q.ptrs):l'=l:=by
 obtain⟨r,e1,e2⟩:=h.det h' (fun _ _=>rfl) (Nat.le_refl _) hg (Nat.zero_le _)
 rw[e1,e2.last,List.append_nil]
theorem Tiles.no_gone{ws:List Int}{a:Nat}{l:List Ob}(h:Tiles ws false a l): ∀o∈l,o.gone=false:=fun o ho=>by
 obtain⟨w,_,hc⟩:=(h.stands o ho).1.word
 cases hg:o.gone
 ·rfl
 ·rw[if_pos hg]at hc;cases hc.1
theorem Tiles.uniq0{ws:List Int}{l l':List Ob}(h:Tiles ws false 0 l)(h':Tiles ws false 0 l'):l'=l:=h.uniq h' fun o ho q hq hg=>by rw[h.no_gone o ho]at hg;cases hg
section
variable {h:Hp} {p:Pts}
theorem Tld.low_at(t:Tld h p){o:Ob}(ho:o∈p.low):0≤o.at_∧o.at_<h.low.length:=by
 obtain⟨a,n,m,ha,_,_,hl,_⟩:=t.ob (k:=1) (by omega) ho
 simp only[Xe]at hl
 omega
theorem Tiles.pairwise{ws:List Int}{old:Bool}: ∀ {a:Nat} {l:List Ob},Tiles ws old a l→l.Pairwise fun x y=>x.at_<y.at_
 |_,[],_=> .nil
 |a,o::l,h=>by
  have hs:=Z2.1 h.2.1.shape
  refine .cons (fun y hy=> ?_) (Tiles.pairwise h.2.2)
  have:=(Tiles.stands h.2.2 y hy).2
  rw[h.1]
  omega
theorem Gos.odd(t:Tld h p){w i j:Int}(hi:1≤i∧i≤4)(hj:1≤j∧j≤4)(hg:Gos h p w i j):w=0∨ ∃k,1≤k∧k≤4∧(k=i∨k=j)∧ ∃o∈p.at k,(adr w).2=0∧(adr w).1=fstL (layH h) k+o.at_∧o.at_<sizL (layH h) k∧0≤o.at_:=by
 rcases hg with rfl| ⟨k,o,hk,ho,rfl⟩
 ·exact .inl rfl
 ·have hk4:1≤k∧k≤4:=by rcases hk with rfl|rfl<;>assumption
  obtain⟨a,n,m,ha,_,_,hl,_⟩:=t.ob hk4 ho
  exact .inr ⟨k,hk4.1,hk4.2,hk,o,ho,by rw[t.adr hk4 ho],by rw[t.adr hk4 ho],by rw[Yy hk4];omega,by omega⟩
end
end Vm
end
section
namespace Vm
open Go Go.Proofs
set_option maxRecDepth 100000
section
variable {h:Hp} {p:Pts}
theorem Body.fwd_here(r:Body h p){k:Int}(hk:1≤k∧k≤2){o:Ob}(ho:o∈p.at k):Vm.fwd h (refR (layH h) k o.at_)=(refR (layH h) k o.at_,h,0):=by
 obtain⟨a,n,m,ea,_,_,hl,_⟩:=r.toTld.ob (by omega) ho
 exact Vm.fwd_here r.lay hk ⟨by omega,by omega⟩
theorem Body.fwd_gone(r:Body h p){k:Int}(hk:3≤k∧k≤4){o:Ob}(ho:o∈p.at k)(hg:o.gone=true):Vm.fwd h (refR (layH h) k o.at_)=(2*o.target+1,h,0):=by
 obtain⟨a,n,m,ea,_,_,hl,_⟩:=r.toTld.ob (by omega) ho
 obtain⟨u,hu,hc⟩:=((r.tiles k (by omega)).stands o ho).1.word
 rw[if_pos hg]at hc
 rw[ea,Int.toNat_natCast]at hu
 rw[ea,Vm.fwd_gone r.lay hk hu hc.2.1,yF hc.2.1 hc.2.2.symm]
theorem Body.fwd_wait(r:Body h p){k:Int}(hk:3≤k∧k≤4){o:Ob}(ho:o∈p.at k)(hg:o.gone=false){a n:Nat}(ea:o.at_=a)(en:o.size=n):
  Vm.fwd h (refR (layH h) k o.at_)=(refR (layH h) 1 h.low.length,movH h k a (n+1),0)∧((n+1:Nat):Int)≤Ye (layH h):=by
 obtain⟨a',n',m,ea',en',_,hl,_⟩:=r.toTld.ob (by omega) ho
 have:a'=a:=by omega
 subst this
 have:n'=n:=by omega
 subst this
 obtain⟨u,hu,hc⟩:=((r.tiles k (by omega)).stands o ho).1.word
 rw[if_neg (by simp[hg])]at hc
 rw[ea,Int.toNat_natCast]at hu
 have hrm:=r.room
 have hw:=zC hk ho
 unfold wtO at hw
 rw[hg,en]at hw
 simp at hw
 have e:Ye (layH h)=h.cap-h.low.length-h.high.length:=by unfold Ye;rw[if_pos r.lay];rfl
 have hm:((n'+1:Nat):Int)≤Ye (layH h):=by omega
 rw[ea]
 exact⟨Vm.fwd_wait r.lay hk hu (hc.1 (decide_eq_true (by omega))) (by rw[hc.2.1,en]) hl hm,hm⟩
end
theorem SM(h:Hp){k:Int}(hk:3≤k∧k≤4)(a n:Nat):(movH h k a n).low=h.low++((Z5 h k).take (a+n)).drop a∧(movH h k a n).high=h.high∧Z5 (movH h k a n) k=(zr (Z5 h k) a n).set a (refR (layH h) 1 h.low.length)∧Z5 (movH h k a n) (7-k)=Z5 h (7-k)∧
  (movH h k a n).roots=h.roots∧(movH h k a n).scan=h.scan∧(movH h k a n).cycle=h.cycle∧(movH h k a n).cap=h.cap∧(movH h k a n).base=h.base∧(movH h k a n).to=h.to:=by
 have:k=3∨k=4:=by omega
 rcases this with rfl|rfl<;>exact⟨rfl,rfl,rfl,rfl,rfl,rfl,rfl,rfl,rfl,rfl⟩
end Vm
end
section
namespace Vm
open Go Go.Proofs
set_option maxRecDepth 100000
set_option maxHeartbeats 1000000
def ndAt(b:Bt)(i:Nat):Nd:=(b.g.nodes[i]?).getD default
def L0(b:Bt)(i:Nat):Pl:=(b.here[i]?).getD ⟨0,0⟩
def Z30(b:Bt)(i:Nat):Pl:=(b.old[i]?).getD ⟨0,0⟩
def hdrN(n:Nd):Int:=(S7 ((n.ptrs.length:Int)+n.data.length) n.ptrs.length).1
def Z34(b:Bt)(p:Pl)(n:Nd)(tw:Int):List Int:=hdrN n::(YZ b p p.at_.toNat n.ptrs tw++n.data)
def Z50(b:Bt)(p:Pl)(n:Nd):List Int:=refB b.h p::List.replicate (sizN n-1) 0
def blk(b:Bt)(x:Rw)(k:Int)(i:Nat):List Int:=
 if(L0 b i).part=k then Z34 b (L0 b i) (ndAt b i) (IntKind.i64.wrap (x.slack+i))
 else if(Z30 b i).part=k then(if(L0 b i).part=0 then Z34 b (Z30 b i) (ndAt b i) 0 else Z50 b (L0 b i) (ndAt b i))
 else []
end Vm
end
section
namespace Vm
open Go Go.Proofs
set_option maxRecDepth 100000
set_option maxHeartbeats 1000000
end Vm
end
section
namespace Vm
open Go Go.Proofs
set_option maxRecDepth 100000
set_option maxHeartbeats 1000000
theorem X6{gone:Bool}{ptrs:Int}: ∀ {l:List Int} {i:Nat},(∀(j:Nat) (w:Int),l[j]? =some w→(gone=true→w=0)∧(((i+j:Nat):Int) <ptrs→Va w=true))→Zt l gone ptrs i=true
 | [],_,_=>rfl
 |w::l,i,h=>by
  obtain⟨h1,h2⟩:=h 0 w rfl
  have ih:Zt l gone ptrs (i+1)=true:=X6 fun j y hy=>by
   have:=h (j+1) y hy
   rw[show i+1+j=i+(j+1)by omega]
   exact this
  rw[Zt,ih]
  cases gone
  ·by_cases hp:(i:Int) <ptrs
   ·simp[h2 (by simpa using hp)]
   ·simp[hp]
  ·rw[h1 rfl]
   simp[Va]
end Vm
end
section
namespace Vm
open Go Go.Proofs
set_option maxRecDepth 100000
theorem XL{gone:Bool}{ptrs:Int}: ∀ {l:List Int} {i:Nat},Zt l gone ptrs i=true→ ∀(j:Nat) (w:Int),l[j]? =some w→(gone=true→w=0)∧(((i+j:Nat):Int) <ptrs→Va w=true)
 | [],_,_,j,w,hw=>by simp at hw
 |y::l,i,hs,j,w,hw=>by
  simp only[Zt,Bool.and_eq_true]at hs
  cases j with
  |zero=>
   simp at hw
   subst hw
   obtain⟨⟨h1,h2⟩,_⟩:=hs
   refine⟨fun hg=> ?_,fun hp=> ?_⟩
   ·rw[hg]at h1;simpa using h1
   ·simpa[show(i:Int) <ptrs by omega]using h2
  |succ j=>
   have:=XL hs.2 j w (by simpa using hw)
   rw[show i+1+j=i+(j+1)by omega]at this
   exact this
theorem Stands.congr{ws ws':List Int}{old:Bool}{o:Ob}(s:Stands ws old o)(hl:ws'.length=ws.length)(h0:ws'[o.at_.toNat]? =ws[o.at_.toNat]?)
  (h1: ∀j:Nat,(j:Int) <o.size→ws'[o.at_.toNat+1+j]? =ws[o.at_.toNat+1+j]? ∨(o.gone=false∧o.ptrs≤j)):Stands ws' old o:=by
 refine⟨s.nat,s.shape,by rw[hl];exact s.fits,X6 fun j w hw=> ?_,by rw[h0];exact s.word⟩
 have hlt:j<o.size.toNat:=by
  have:=(List.getElem?_eq_some_iff.1 hw).1
  simp at this
  omega
 rw[List.getElem?_take_of_lt hlt,List.getElem?_drop]at hw
 rcases h1 j (by omega)with h1| ⟨hg,hp⟩
 ·rw[h1]at hw
  refine XL s.slots j w ?_
  rw[List.getElem?_take_of_lt hlt,List.getElem?_drop]
  exact hw
 ·exact⟨fun h=>(by rw[hg]at h;cases h),fun h=>(by omega)⟩
theorem Tiles.congr{ws ws':List Int}{old:Bool}: ∀ {a:Nat} {l:List Ob},Tiles ws old a l→ws'.length=ws.length→(∀o∈l,Stands ws' old o)→Tiles ws' old a l
 |a,[],h,hl,_=>by show ws'.length≤a;rw[hl];exact h
 |a,o::l,h,hl,hs=>⟨h.1,hs o (.head _),Tiles.congr h.2.2 hl fun x hx=>hs x (.tail _ hx)⟩
section
variable {h g:Hp} {p:Pts}
theorem zK(hl:layH g=layH h){w i j:Int}:Gos g p w i j↔Gos h p w i j:=by
 unfold Gos
 rw[hl]
theorem Tiles.place{ws:List Int}{old:Bool}: ∀ {a:Nat} {l:List Ob},Tiles ws old a l→ ∀ {i:Nat} {o:Ob},l[i]? =some o→o.at_=((a+szL (l.take i):Nat):Int)
 |_,[],_,i,o,hi=>by simp at hi
 |a,x::l,ht,0,o,hi=>by simp at hi;subst hi;rw[ht.1];simp[szL]
 |a,x::l,ht,i+1,o,hi=>by
  have:=ht.2.2.place (i:=i) (o:=o) (by simpa using hi)
  rw[this]
  simp[szL]
  omega
theorem T2{l:List Ob}{i:Nat}{o:Ob}(hi:l[i]? =some o):szL (l.take (i+1))=szL (l.take i)+(1+o.size.toNat):=by
 unfold szL
 rw[List.take_add_one,hi,List.map_append,List.sum_append];simp
end
end Vm
end
section
namespace Vm
open Go Go.Proofs
set_option maxRecDepth 100000
theorem Z1K{ws:List Int}{a:Nat}: ∀ {n j:Nat},j<n→a+n≤ws.length→(zr ws a n)[a+j]? =some 0
 |0,_,h,_=>by omega
 |n+1,j,h,hl=>by
  rw[zr]
  by_cases e:j=n
  ·subst e
   rw[List.getElem?_set_self (by rw[KS];omega)]
  ·rw[List.getElem?_set_ne (by omega)]
   exact Z1K (by omega) (by omega)
theorem Stands.app{ws r:List Int}{old:Bool}{o:Ob}(s:Stands ws old o):Stands (ws++r) old o:=by
 have hs:=Z2.1 s.shape
 have hf:=s.fits
 have hn:=s.nat
 have e0:(ws++r)[o.at_.toNat]? =ws[o.at_.toNat]? :=List.getElem?_append_left (by omega)
 refine⟨s.nat,s.shape,by simp;omega,X6 fun j w hw=> ?_,by rw[e0];exact s.word⟩
 have hlt:j<o.size.toNat:=by
  have:=(List.getElem?_eq_some_iff.1 hw).1
  simp at this
  omega
 rw[List.getElem?_take_of_lt hlt,List.getElem?_drop,List.getElem?_append_left (by omega)]at hw
 refine XL s.slots j w ?_
 rw[List.getElem?_take_of_lt hlt,List.getElem?_drop]
 exact hw
theorem Tiles.append{ws r:List Int}{old:Bool}: ∀ {a:Nat} {l l':List Ob},Tiles ws old a l→a≤ws.length→Tiles (ws++r) old ws.length l'→Tiles (ws++r) old a (l++l')
 |a,[],l',h,ha,h'=>by
  have:ws.length≤a:=h
  have:a=ws.length:=by omega
  subst this
  exact h'
 |a,o::l,l',h,ha,h'=>by
  have hs:=Z2.1 h.2.1.shape
  have hf:=h.2.1.fits
  have e:=h.1
  exact⟨h.1,h.2.1.app,Tiles.append h.2.2 (by omega) h'⟩
theorem Tiles.map{ws ws':List Int}{old:Bool}{f:Ob→Ob}(hf: ∀o,(f o).at_=o.at_∧(f o).size=o.size)(hl:ws'.length=ws.length): ∀ {a:Nat} {l:List Ob},Tiles ws old a l→(∀o∈l,Stands ws' old (f o))→Tiles ws' old a (l.map f)
 |a,[],h,_=>by show ws'.length≤a;rw[hl];exact h
 |a,o::l,h,hs=>⟨by rw[(hf o).1];exact h.1,hs o (.head _),by rw[(hf o).2];exact Tiles.map hf hl h.2.2 fun x hx=>hs x (.tail _ hx)⟩
def goOb(a t:Int)(q:Ob):Ob:=if q.at_=a then {q with gone:=true,target:=t}else q
theorem Xo(a t:Int)(q:Ob):(goOb a t q).at_=q.at_∧(goOb a t q).size=q.size∧(goOb a t q).ptrs=q.ptrs:=by
 unfold goOb
 split<;>exact⟨rfl,rfl,rfl⟩
theorem Wb{a t:Int}{q:Ob}(h:q.at_≠a):goOb a t q=q:=if_neg h
theorem W5{a t:Int}{q:Ob}(h:q.at_=a):goOb a t q= {q with gone:=true,target:=t}:=if_pos h
def Pts.mv(p:Pts)(k:Int)(o:Ob)(L:Nat)(t:Int):Pts:=⟨p.low++ [⟨L,o.size,o.ptrs,false,0⟩],p.high,if k=3 then p.old.map (goOb o.at_ t)else p.old,if k=3 then p.far else p.far.map (goOb o.at_ t)⟩
section
variable {h:Hp} {p:Pts}
theorem jC{k:Int}(hk:3≤k∧k≤4)(o:Ob)(L:Nat)(t:Int):(p.mv k o L t).at 1=p.low++ [⟨L,o.size,o.ptrs,false,0⟩]∧(p.mv k o L t).at 2=p.high∧(p.mv k o L t).at k=(p.at k).map (goOb o.at_ t)∧(p.mv k o L t).at (7-k)=p.at (7-k):=by
 have:k=3∨k=4:=by omega
 rcases this with rfl|rfl<;>exact⟨rfl,rfl,rfl,rfl⟩
theorem Z3l{k:Int}(hk:3≤k∧k≤4){o:Ob}{L:Nat}{t:Int}{j:Int}(hj:1≤j∧j≤4){q:Ob}(hq:q∈p.at j): ∃q'∈(p.mv k o L t).at j,q'.at_=q.at_∧q'.size=q.size∧q'.ptrs=q.ptrs∧(q'.gone=false→q'=q)∧(j<3→q'=q):=by
 obtain⟨e1,e2,e3,e4⟩:=jC (p:=p) hk o L t
 by_cases j1:j=1
 ·subst j1
  exact⟨q,by rw[e1];exact List.mem_append_left _ hq,rfl,rfl,rfl,fun _=>rfl,fun _=>rfl⟩
 by_cases j2:j=2
 ·subst j2
  exact⟨q,by rw[e2];exact hq,rfl,rfl,rfl,fun _=>rfl,fun _=>rfl⟩
 by_cases jk:j=k
 ·subst jk
  refine⟨goOb o.at_ t q,by rw[e3];exact List.mem_map_of_mem hq,(Xo _ _ _).1,(Xo _ _ _).2.1,(Xo _ _ _).2.2,fun hg=> ?_,fun h=>by omega⟩
  by_cases e:q.at_=o.at_
  ·rw[W5 e]at hg;cases hg
  ·exact Wb e
 ·have:j=7-k:=by omega
  subst this
  exact⟨q,by rw[e4];exact hq,rfl,rfl,rfl,fun _=>rfl,fun h=>by omega⟩
theorem Z1M{g:Hp}{k:Int}(hk:3≤k∧k≤4){o:Ob}{L:Nat}{t:Int}(hr: ∀j b,refR (layH g) j b=refR (layH h) j b){w i j:Int}(hi:1≤i∧i≤4)(hj:1≤j∧j≤4)(hg:Gos h p w i j):Gos g (p.mv k o L t) w i j:=by
 rcases hg with rfl| ⟨m,q,hm,hq,rfl⟩
 ·exact .inl rfl
 ·obtain⟨q',hq',e,_⟩:=Z3l (p:=p) hk (o:=o) (L:=L) (t:=t) (j:=m) (by rcases hm with rfl|rfl<;>assumption) hq
  exact .inr ⟨m,q',hm,hq',by rw[hr,e]⟩
theorem Z1J{l:List Ob}{o:Ob}{t:Int}(hn:l.Pairwise fun x y=>x.at_<y.at_)(ho:o∈l)(hg:o.gone=false):wtL (l.map (goOb o.at_ t))+(1+o.size.toNat)=wtL l:=by
 induction l with
 |nil=>simp at ho
 |cons x l ih=>
  rw[List.pairwise_cons]at hn
  simp only[wtL,List.map_cons,List.sum_cons]at ih⊢
  rcases List.mem_cons.1 ho with rfl|ho
  ·have:l.map (goOb o.at_ t)=l:=by
    conv=>rhs;rw[←List.map_id l]
    refine List.map_congr_left fun y hy=>Wb ?_
    have:=hn.1 y hy
    omega
   rw[this,W5 rfl]
   simp[wtO,hg]
   omega
  ·have:=hn.1 o ho
   have ih:=ih hn.2 ho
   rw[Wb (by omega)]
   omega
theorem Body.move(r:Body h p)(hsc:h.scan≤h.low.length){k:Int}(hk:3≤k∧k≤4){o:Ob}(ho:o∈p.at k)(hg:o.gone=false){a n:Nat}(ea:o.at_=a)(en:o.size=n):
  Body (movH h k a (n+1)) (p.mv k o h.low.length (fstL (layH h) 1+h.low.length)):=by
 obtain⟨a',n',m,ea',en',em,hal,hn5,hmn⟩:=r.toTld.ob (k:=k) (by omega) ho
 have:a'=a:=by omega
 subst this
 have:n'=n:=by omega
 subst this
 obtain⟨_,hm⟩:=r.fwd_wait hk ho hg ea en
 obtain⟨m1,m2,m3,m4,m5,m6,m7,m8,m9,m10⟩:=SM h hk a' (n'+1)
 have mlay:=RA hk (g:=h) hal
 have mr:=Li r.lay hk hal hm
 have hr:=qk hk hal
 have hw: ∀ {j:Int} {b:Nat},3≤j∧j≤4→(j≠k∨b<a'∨a'+(n'+1)≤b)→(Z5 (movH h k a' (n'+1)) j)[b]? =(Z5 h j)[b]? :=fun hj hb=>Jc hk (by omega) hj hb
 have hlen: ∀ {j:Int},3≤j∧j≤4→(Z5 (movH h k a' (n'+1)) j).length=(Z5 h j).length:=fun hj=>R7 hk hj
 have hfst:fstL (layH (movH h k a' (n'+1))) 1=fstL (layH h) 1:=by rw[mlay];rfl
 have hws: ∀i,i<n'+1→(((Z5 h k).take (a'+(n'+1))).drop a')[i]? =(Z5 h k)[a'+i]? :=fun i hi=>by
  rw[List.getElem?_drop,List.getElem?_take_of_lt (by omega)]
 have hwl:(((Z5 h k).take (a'+(n'+1))).drop a').length=n'+1:=by simp;omega
 obtain⟨e1,e2,e3,e4⟩:=jC (p:=p) hk o h.low.length (fstL (layH h) 1+h.low.length)
 have hst:=((r.tiles k (by omega)).stands o ho).1
 obtain⟨u,hu,hc⟩:=hst.word
 rw[if_neg (by simp[hg])]at hc
 rw[ea,Int.toNat_natCast]at hu
 generalize hgm:movH h k a' (n'+1)=g at*
 generalize hws':((Z5 h k).take (a'+(n'+1))).drop a'=ws at*
 have hap: ∀q∈p.at k,q.at_≠o.at_→ ∀i:Nat,(i:Int)≤q.size→q.at_.toNat+i<a'∨a'+(n'+1)≤q.at_.toNat+i:=by
  intro q hq hne i hi
  obtain⟨b,l,_,eb,el,_⟩:=r.toTld.ob (k:=k) (by omega) hq
  rcases(r.tiles k (by omega)).apart q hq o ho with e|e|e
  ·rw[e]at hne;exact absurd rfl hne
  ·left;omega
  ·right;omega
 have hsame: ∀q∈p.at k,q.at_≠o.at_→ ∀i:Nat,(i:Int)≤q.size→(Z5 g k)[q.at_.toNat+i]? =(Z5 h k)[q.at_.toNat+i]? :=fun q hq hne i hi=>hw hk (.inr (hap q hq hne i hi))
 have hother: ∀b,(Z5 g (7-k))[b]? =(Z5 h (7-k))[b]? :=fun b=>hw (by omega) (.inl (by omega))
 have hnew:Stands (h.low++ws) false ⟨h.low.length,o.size,o.ptrs,false,0⟩:=by
  refine⟨by simp,hst.shape,by simp;omega,X6 fun j w hj=>⟨by simp,fun hp=> ?_⟩,u,?_,?_⟩
  ·have hlt:j<n':=by
    have:=(List.getElem?_eq_some_iff.1 hj).1
    simp[en]at this
    omega
   simp only[en,Int.toNat_natCast]at hj
   rw[List.getElem?_take_of_lt hlt,List.getElem?_drop,List.getElem?_append_right (by omega),show h.low.length+1+j-h.low.length=1+j by omega,hws _ (by omega)]at hj
   refine(XL hst.slots j w ?_).2 hp
   rw[ea,en,Int.toNat_natCast,Int.toNat_natCast,List.getElem?_take_of_lt hlt,List.getElem?_drop,←hj,Nat.add_assoc]
  ·simp only[Int.toNat_natCast]
   rw[List.getElem?_append_right (Nat.le_refl _),Nat.sub_self,hws 0 (by omega),Nat.add_zero,hu]
  ·simp only[Bool.false_eq_true,if_false]
   exact⟨by simp,hc.2.1,trivial⟩
 have hpos:=Zx r.lay 1
 refine⟨⟨mr,fun j hj=> ?_⟩,fun j hj q hq hqg=> ?_,fun j hj q hq hqg i hi w hwi=> ?_,?_⟩
 ·by_cases j1:j=1
  ·subst j1
   rw[e1]
   simp only[Xe,m1]
   exact(r.tiles 1 (by omega)).append (Nat.zero_le _) ⟨rfl,hnew,by show(h.low++ws).length≤_;simp[en,hwl];omega⟩
  by_cases j2:j=2
  ·subst j2
   rw[e2]
   simp only[KH,m2]
   exact r.tiles 2 (by omega)
  by_cases jk:j=k
  ·subst jk
   rw[e3]
   refine(r.tiles j (by omega)).map (fun q=>⟨(Xo _ _ q).1,(Xo _ _ q).2.1⟩) (hlen hk) fun q hq=> ?_
   by_cases e:q.at_=o.at_
   ·have:q=o:=r.toTld.same_at (by omega) ho hq e
    subst this
    rw[W5 rfl]
    refine⟨hst.nat,hst.shape,by rw[hlen hk];exact hst.fits,X6 fun i w hi=> ?_,refR (layH h) 1 h.low.length,?_,?_⟩
    ·have hlt:i<n':=by
      have:=(List.getElem?_eq_some_iff.1 hi).1
      simp[en]at this
      omega
     simp only[ea,en,Int.toNat_natCast]at hi
     rw[List.getElem?_take_of_lt hlt,List.getElem?_drop,m3,List.getElem?_set_ne (by omega),Nat.add_assoc,Z1K (by omega) hal]at hi
     cases hi
     exact⟨fun _=>rfl,fun _=>rfl⟩
    ·simp only[ea,Int.toNat_natCast]
     rw[m3,List.getElem?_set_self (by rw[KS];omega)]
    ·simp only[if_true]
     rw[S8 r.lay (by omega)]
     exact⟨decide_eq_true (by omega),rfl,rfl⟩
   ·rw[Wb e]
    refine((r.tiles j (by omega)).stands q hq).1.congr (hlen hk) (by simpa using hsame q hq e 0 (by have:=Z2.1 ((r.tiles j (by omega)).stands q hq).1.shape;omega)) fun i hi=> .inl ?_
    rw[Nat.add_assoc]
    exact hsame q hq e (1+i) (by omega)
  ·have:j=7-k:=by omega
   subst this
   rw[e4,m4]
   exact r.tiles (7-k) (by omega)
 ·by_cases jk:j=k
  ·subst jk
   rw[e3,List.mem_map]at hq
   obtain⟨x,hx,rfl⟩:=hq
   by_cases e:x.at_=o.at_
   ·have:x=o:=r.toTld.same_at (by omega) ho hx e
    subst this
    rw[W5 rfl]
    exact⟨_,List.mem_append_right _ (.head _),by rw[hfst],rfl,rfl⟩
   ·rw[Wb e]at hqg⊢
    obtain⟨y,hy,y1,y2,y3⟩:=r.gone j hj x hx hqg
    exact⟨y,List.mem_append_left _ hy,by rw[hfst];exact y1,y2,y3⟩
  ·have:j=7-k:=by omega
   subst this
   rw[e4]at hq
   obtain⟨y,hy,y1,y2,y3⟩:=r.gone _ hj q hq hqg
   exact⟨y,List.mem_append_left _ hy,by rw[hfst];exact y1,y2,y3⟩
 ·have gos: ∀ {w i j:Int},1≤i∧i≤4→1≤j∧j≤4→Gos h p w i j→Gos g (p.mv k o h.low.length (fstL (layH h) 1+h.low.length)) w i j:=fun hi hj=>Z1M hk hr hi hj
  have pat: ∀ {j:Int} {i:Nat} {w:Int},Wn h p j i w→Wn g (p.mv k o h.low.length (fstL (layH h) 1+h.low.length)) j i w:=fun {j i w} hp=>by
   unfold Wn at hp⊢
   rw[m6]
   by_cases c1:2<j
   ·rw[if_pos c1]at hp⊢;exact gos (by omega) (by omega) hp
   rw[if_neg c1]at hp⊢
   by_cases c2:j=1∧h.scan≤i
   ·rw[if_pos c2]at hp⊢
    exact hp.imp (gos (by omega) (by omega)) (gos (by omega) (by omega))
   ·rw[if_neg c2]at hp⊢;exact gos (by omega) (by omega) hp
  by_cases j1:j=1
  ·subst j1
   rw[e1]at hq
   rcases List.mem_append.1 hq with hq|hq
   ·obtain⟨b,l,l',eb,el,el',hbl,_⟩:=r.toTld.ob (k:=1) (by omega) hq
    simp only[Xe]at hbl hwi
    rw[m1,List.getElem?_append_left (by omega)]at hwi
    exact pat (r.ptr 1 (by omega) q hq hqg i hi w hwi)
   ·simp at hq
    subst hq
    simp only at hi hwi⊢
    simp only[Int.toNat_natCast,Xe,m1]at hwi⊢
    rw[List.getElem?_append_right (by omega),show h.low.length+1+i-h.low.length=1+i by omega,hws _ (by omega)]at hwi
    have:=r.ptr k (by omega) o ho hg i hi w (by rw[ea,Int.toNat_natCast,Nat.add_assoc];exact hwi)
    unfold Wn at this⊢
    rw[if_pos (by omega)]at this
    rw[if_neg (by omega),if_pos ⟨rfl,by rw[m6];omega⟩]
    exact .inr (gos (by omega) (by omega) this)
  by_cases j2:j=2
  ·subst j2
   rw[e2]at hq
   simp only[KH,m2]at hwi
   exact pat (r.ptr 2 (by omega) q hq hqg i hi w hwi)
  by_cases jk:j=k
  ·subst jk
   rw[e3,List.mem_map]at hq
   obtain⟨x,hx,rfl⟩:=hq
   by_cases e:x.at_=o.at_
   ·rw[W5 e]at hqg;cases hqg
   ·rw[Wb e]at hqg hi hwi⊢
    have hps:=(Z2.1 ((r.tiles j (by omega)).stands x hx).1.shape).2.2.2
    rw[Nat.add_assoc,hsame x hx e (1+i) (by omega),←Nat.add_assoc]at hwi
    exact pat (r.ptr j hj x hx hqg i hi w hwi)
  ·have:j=7-k:=by omega
   subst this
   rw[e4]at hq
   rw[m4]at hwi
   exact pat (r.ptr _ hj q hq hqg i hi w hwi)
 ·have hrm:=r.room
  have hwt:YL (p.mv k o h.low.length (fstL (layH h) 1+h.low.length))+(1+n')=YL p:=by
   have h1:=(r.tiles k (by omega)).pairwise
   have:=Z1J (t:=fstL (layH h) 1+h.low.length) h1 ho hg
   rw[en,Int.toNat_natCast]at this
   unfold YL
   have hk2:k=3∨k=4:=by omega
   rcases hk2 with rfl|rfl
   ·simp only[Pts.at3]at this
    simp only[Pts.mv,if_true]
    omega
   ·simp only[Pts.at4]at this
    simp only[Pts.mv,show ¬(4:Int)=3 by omega,if_false]
    omega
  rw[m1,m2,m8]
  simp only[List.length_append,hwl]
  omega
end
end Vm
end
section
namespace Vm
open Go Go.Proofs
set_option maxRecDepth 100000
def Once(h:Hp)(p:Pts):Prop:= ∀o∈p.low,VH p (fstL (layH h) 1+o.at_)=1
section
variable {h g:Hp} {p q:Pts}
theorem Z4I{l:List Ob}{o:Ob}{t b:Int}(hn:l.Pairwise fun x y=>x.at_<y.at_)(ho:o∈l)(hg:o.gone=false):tgL (l.map (goOb o.at_ t)) b=tgL l b+if t=b then 1 else 0:=by
 induction l with
 |nil=>simp at ho
 |cons x l ih=>
  rw[List.pairwise_cons]at hn
  have e: ∀(y:Ob) (r:List Ob),tgL (y::r) b=(if y.gone=true∧y.target=b then 1 else 0)+tgL r b:=fun y r=>by
   unfold tgL
   rw[List.filter_cons]
   by_cases c:y.gone=true∧y.target=b
   ·rw[if_pos c,if_pos (by simp[c]),List.length_cons,Nat.add_comm]
   ·rw[if_neg c,if_neg (by simpa using c),Nat.zero_add]
  rw[List.map_cons,e,e]
  rcases List.mem_cons.1 ho with rfl|ho
  ·have:l.map (goOb o.at_ t)=l:=by
    conv=>rhs;rw[←List.map_id l]
    refine List.map_congr_left fun y hy=>Wb ?_
    have:=hn.1 y hy
    omega
   rw[this,W5 rfl]
   simp[hg]
   omega
  ·have h1:=hn.1 o ho
   rw[ih hn.2 ho,Wb (by omega)]
   omega
theorem Z33(r:Body h p){b:Int}(hb:h.low.length≤b):VH p (fstL (layH h) 1+b)=0:=by
 have key: ∀k:Int,3≤k∧k≤4→tgL (p.at k) (fstL (layH h) 1+b)=0:=fun k hk=>by
  unfold tgL
  rw[List.length_eq_zero_iff,List.filter_eq_nil_iff]
  intro o ho hg
  simp only[Bool.and_eq_true,decide_eq_true_eq]at hg
  obtain⟨y,hy,e,_⟩:=r.gone k hk o ho hg.1
  have:=r.toTld.low_at hy
  omega
 have h3:=key 3 (by omega)
 have h4:=key 4 (by omega)
 simp only[Pts.at3,Pts.at4]at h3 h4
 unfold VH
 omega
theorem Z11(r:Body h p){k:Int}(hk:3≤k∧k≤4){o:Ob}(ho:o∈p.at k)(hg:o.gone=false){L:Nat}{t b:Int}:VH (p.mv k o L t) b=VH p b+if t=b then 1 else 0:=by
 have h1:=Z4I (t:=t) (b:=b) (r.tiles k (by omega)).pairwise ho hg
 unfold VH
 have hk2:k=3∨k=4:=by omega
 rcases hk2 with rfl|rfl
 ·simp only[Pts.at3]at h1
  simp only[Pts.mv,if_true]
  omega
 ·simp only[Pts.at4]at h1
  simp only[Pts.mv,show ¬(4:Int)=3 by omega,if_false]
  omega
structure Ext (h:Hp) (p:Pts) (g:Hp) (q:Pts):Prop where
 low: ∃ws,g.low=h.low++ws
 high:g.high=h.high
 base:g.base=h.base
 cap:g.cap=h.cap
 tos:g.to=h.to
 cycle:g.cycle=h.cycle
 scan:g.scan=h.scan
 roots:g.roots=h.roots
 oldL:g.old.length=h.old.length
 farL:g.far.length=h.far.length
 obsL: ∃r,q.low=p.low++r
 obsH:q.high=p.high
 obsO: ∀k:Int,3≤k∧k≤4→(q.at k).map (fun o=>(o.at_,o.size,o.ptrs))=(p.at k).map (fun o=>(o.at_,o.size,o.ptrs))
 gone: ∀k:Int,3≤k∧k≤4→ ∀(i:Nat) (o o':Ob),(p.at k)[i]? =some o→(q.at k)[i]? =some o'→(o.gone=true→o'=o)∧(o'.gone=false→o'=o∧ ∀j:Nat,(j:Int)≤o.size→(Z5 g k)[o.at_.toNat+j]? =(Z5 h k)[o.at_.toNat+j]?)
 room:(g.low.length:Int)+YL q=h.low.length+YL p
theorem Ext.refl(h:Hp)(p:Pts):Ext h p h p:=
 ⟨⟨[],by simp⟩,rfl,rfl,rfl,rfl,rfl,rfl,rfl,rfl,rfl,⟨[],by simp⟩,rfl,fun _ _=>rfl,fun k hk i o o' h1 h2=>by rw[h1]at h2;cases h2;exact⟨fun _=>rfl,fun _=>⟨rfl,fun _ _=>rfl⟩⟩,rfl⟩
theorem Ext.fst(e:Ext h p g q)(k a:Int)(hk:k=1∨k=3∨k=4∨k=2):refR (layH g) k a=refR (layH h) k a:=by
 unfold refR fstL layH
 simp only[e.base,e.cap,e.tos,e.high,e.farL]
theorem Ext.mem(e:Ext h p g q){j:Int}(hj:1≤j∧j≤4){o:Ob}(ho:o∈p.at j): ∃o'∈q.at j,o'.at_=o.at_∧o'.size=o.size∧o'.ptrs=o.ptrs:=by
 have h4:j=1∨j=2∨j=3∨j=4:=by omega
 rcases h4 with rfl|rfl|h3
 ·obtain⟨r,hr⟩:=e.obsL
  exact⟨o,by show o∈q.low;rw[hr];exact List.mem_append_left _ ho,rfl,rfl,rfl⟩
 ·exact⟨o,by show o∈q.high;rw[e.obsH];exact ho,rfl,rfl,rfl⟩
 ·have:=e.obsO j (by omega)
  have hm:(o.at_,o.size,o.ptrs)∈(q.at j).map (fun o=>(o.at_,o.size,o.ptrs)):=by rw[this];exact List.mem_map_of_mem ho
  obtain⟨o',h1,h2⟩:=List.mem_map.1 hm
  simp only[Prod.mk.injEq]at h2
  exact⟨o',h1,h2⟩
theorem Ext.gos(e:Ext h p g q){w i j:Int}(hi:1≤i∧i≤4)(hj:1≤j∧j≤4)(hg:Gos h p w i j):Gos g q w i j:=by
 rcases hg with rfl| ⟨m,o,hm,ho,rfl⟩
 ·exact .inl rfl
 ·have hm4:1≤m∧m≤4:=by rcases hm with rfl|rfl<;>assumption
  obtain⟨o',ho',e1,_⟩:=e.mem hm4 ho
  exact .inr ⟨m,o',hm,ho',by rw[e.fst _ _ (by omega),e1]⟩
theorem Body.ext(r:Body h p)(hsc:h.scan≤h.low.length){k:Int}(hk:3≤k∧k≤4){o:Ob}(ho:o∈p.at k)(hg:o.gone=false){a n:Nat}(ea:o.at_=a)(en:o.size=n):
  Ext h p (movH h k a (n+1)) (p.mv k o h.low.length (fstL (layH h) 1+h.low.length)):=by
 obtain⟨a',n',m,ea',en',em,hal,hn5,hmn⟩:=r.toTld.ob (k:=k) (by omega) ho
 have:a'=a:=by omega
 subst this
 have:n'=n:=by omega
 subst this
 obtain⟨m1,m2,m3,m4,m5,m6,m7,m8,m9,m10⟩:=SM h hk a' (n'+1)
 obtain⟨e1,e2,e3,e4⟩:=jC (p:=p) hk o h.low.length (fstL (layH h) 1+h.low.length)
 have l3:(movH h k a' (n'+1)).old.length=h.old.length:=R7 (j:=3) hk (by omega)
 have l4:(movH h k a' (n'+1)).far.length=h.far.length:=R7 (j:=4) hk (by omega)
 refine⟨⟨_,m1⟩,m2,m9,m8,m10,m7,m6,m5,l3,l4,⟨_,e1⟩,e2,fun j hj=> ?_,fun j hj i x x' h1 h2=> ?_,?_⟩
 ·by_cases jk:j=k
  ·subst jk
   rw[e3,List.map_map]
   refine List.map_congr_left fun x _=> ?_
   obtain⟨g1,g2,g3⟩:=Xo o.at_ (fstL (layH h) 1+h.low.length) x
   simp only[Function.comp,g1,g2,g3]
  ·have:j=7-k:=by omega
   subst this
   rw[e4]
 ·by_cases jk:j=k
  ·subst jk
   rw[e3,List.getElem?_map,h1]at h2
   simp at h2
   subst h2
   have hxm:=List.mem_of_getElem? h1
   by_cases e:x.at_=o.at_
   ·have:x=o:=r.toTld.same_at (by omega) ho hxm e
    subst this
    rw[W5 rfl]
    exact⟨fun h=>(by rw[hg]at h;cases h),fun h=>(by cases h)⟩
   ·rw[Wb e]
    refine⟨fun _=>rfl,fun _=>⟨rfl,fun i hi=>Jc hk (by omega) hj (.inr ?_)⟩⟩
    obtain⟨b,l,_,eb,el,_⟩:=r.toTld.ob (k:=j) (by omega) hxm
    rcases(r.tiles j (by omega)).apart x hxm o ho with e'|e'|e'
    ·rw[e']at e;exact absurd rfl e
    ·left;omega
    ·right;omega
  ·have:j=7-k:=by omega
   subst this
   rw[e4,h1]at h2
   cases h2
   exact⟨fun _=>rfl,fun _=>⟨rfl,fun i _=>by rw[m4]⟩⟩
 ·have h1:=(r.tiles k (by omega)).pairwise
  have hw:=Z1J (t:=fstL (layH h) 1+h.low.length) h1 ho hg
  rw[en,Int.toNat_natCast]at hw
  have hlow:=jh hk hal
  unfold YL
  have hk2:k=3∨k=4:=by omega
  rcases hk2 with rfl|rfl
  ·simp only[Pts.at3]at hw
   simp only[Pts.mv,if_true]
   omega
  ·simp only[Pts.at4]at hw
   simp only[Pts.mv,show ¬(4:Int)=3 by omega,if_false]
   omega
theorem ym(r:Body h p)(ho1:Once h p)(hsc:h.scan≤h.low.length){k:Int}(hk:3≤k∧k≤4){o:Ob}(ho:o∈p.at k)(hg:o.gone=false){a n:Nat}(ea:o.at_=a)(en:o.size=n):
  Once (movH h k a (n+1)) (p.mv k o h.low.length (fstL (layH h) 1+h.low.length)):=by
 have e:=r.ext hsc hk ho hg ea en
 have hf:fstL (layH (movH h k a (n+1))) 1=fstL (layH h) 1:=by
  have:=e.fst 1 0 (.inl rfl)
  unfold refR at this
  omega
 intro x hx
 rw[Z11 r hk ho hg,hf]
 rcases List.mem_append.1 hx with hx|hx
 ·have:=r.toTld.low_at hx
  rw[ho1 x hx,if_neg (by omega)]
 ·simp at hx
  subst hx
  simp only
  rw[Z33 r (Int.le_refl _)]
  simp
def Res(g:Hp)(q:Pts)(w v:Int):Prop:=(w=0∧v=0)∨ ∃k o,(k=3∨k=4)∧o∈q.at k∧w=refR (layH g) k o.at_∧o.gone=true∧v=2*o.target+1
structure FwdTo (h:Hp) (p:Pts) (w v:Int) (g:Hp) (q:Pts):Prop where
 fwd:fwd h w=(v,g,0)
 body:Body g q
 once:Once g q
 ext:Ext h p g q
 tgo:Gos g q v 1 2
 zero:v=0↔w=0
 res:(Gos h p w 1 2∧v=w∧g=h∧q=p)∨Res g q w v
theorem Body.forward(r:Body h p)(ho1:Once h p)(hsc:h.scan≤h.low.length){w:Int}(hw:Gos h p w 1 2∨Gos h p w 3 4): ∃v g q,FwdTo h p w v g q:=by
 by_cases h0:w=0
 ·subst h0
  exact⟨0,h,p,L3 r.lay,r,ho1,.refl h p,.inl rfl,by simp,.inr (.inl ⟨rfl,rfl⟩)⟩
 have hw': ∃k o,1≤k∧k≤4∧o∈p.at k∧w=refR (layH h) k o.at_:=by
  rcases hw with (h1| ⟨k,o,hk,ho,e⟩) | (h1| ⟨k,o,hk,ho,e⟩)
  ·exact absurd h1 h0
  ·exact⟨k,o,by omega,by omega,ho,e⟩
  ·exact absurd h1 h0
  ·exact⟨k,o,by omega,by omega,ho,e⟩
 obtain⟨k,o,k1,k4,ho,rfl⟩:=hw'
 by_cases h2:k≤2
 ·exact⟨_,h,p,r.fwd_here ⟨k1,h2⟩ ho,r,ho1,.refl h p,.inr ⟨k,o,by omega,ho,rfl⟩,Iff.rfl,.inl ⟨.inr ⟨k,o,by omega,ho,rfl⟩,rfl,rfl,rfl⟩⟩
 have hk:3≤k∧k≤4:=by omega
 cases hg:o.gone
 ·obtain⟨a,n,m,ea,en,em,hal,_⟩:=r.toTld.ob ⟨k1,k4⟩ ho
  obtain⟨f1,_⟩:=r.fwd_wait hk ho hg ea en
  have e:=r.ext hsc hk ho hg ea en
  have b:=r.move hsc hk ho hg ea en
  have hin:(⟨h.low.length,o.size,o.ptrs,false,0⟩:Ob)∈(p.mv k o h.low.length (fstL (layH h) 1+h.low.length)).low:=List.mem_append_right _ (.head _)
  have hrf:refR (layH h) 1 h.low.length=refR (layH (movH h k a (n+1))) 1 h.low.length:=(e.fst 1 _ (.inl rfl)).symm
  exact⟨_,_,_,f1,b,ym r ho1 hsc hk ho hg ea en,e,.inr ⟨1,_,.inl rfl,hin,hrf⟩,iff_of_false (TS r.lay (by omega)) h0,.inr (.inr ⟨k,_,by omega,by rw[(jC hk o _ _).2.2.1];exact List.mem_map_of_mem ho,by rw[e.fst _ _ (by omega),(Xo _ _ _).1],by rw[W5 rfl],by rw[W5 rfl];rfl⟩)⟩
 ·obtain⟨y,hy,e,_⟩:=r.gone k hk o ho hg
  have hv:2*o.target+1=refR (layH h) 1 y.at_:=by unfold refR;omega
  have hyl:=r.toTld.low_at hy
  refine⟨_,h,p,r.fwd_gone hk ho hg,r,ho1,.refl h p,.inr ⟨1,y,.inl rfl,hy,hv⟩,?_,.inr (.inr ⟨k,o,by omega,ho,rfl,hg,rfl⟩)⟩
  rw[hv]
  exact iff_of_false (TS r.lay hyl.1) h0
end
end Vm
end
section
namespace Vm
open Go Go.Proofs
set_option maxRecDepth 100000
end Vm
end
