import Derived.Conc.SmallLaws
import Derived.RangeFuncNested
import Derived.RangeFuncBound
import Derived.LoopNIn
import Derived.LoopIn
import Derived.Shelf.RegionOpen
import Derived.RecoverIn
import Derived.Maps.OwnIn
import Derived.Test.YtffknkhabklijaaGreatSForwardKeeps5
set_option linter.unusedSimpArgs false
set_option linter.unusedVariables false
set_option linter.defProp false
set_option maxHeartbeats 8000000
set_option maxRecDepth 100000
theorem ZcE{p:Prop}(h:p:=by rw[cell_of_row _ _ _ _ _ _ d];rfl):p:=h
theorem Zcz{p:Prop}(h:p:=by show w1.heap.size<u.heap.size;omega):p:=h
theorem Zd8{p:Prop}(h:p:=by simp[results,Tryz.results18,go_sem,y,YN]):p:=h
theorem Zd3{p:Prop}(h:p:=by rw[cell_of_row _ _ _ _ _ _ d.out.2.1];rfl):p:=h
theorem ZcY{p:Prop}(h:p:=by have:=d.out.size;simp at this;omega):p:=h
theorem Zcv{p:Prop}(h:p:=by have:=heap_alloc_new (w.alloc (.cells #[.int .i64 0,.int .i64 0,.int .i64 0,.bool false,.int .u64 0] 68)) (.cells #[.int .i64 a,.int .i64 0,.int .i64 0,.bool false,.int .u64 0] 68);simp_all):p:=h
theorem ZcQ{p:Prop}(h:p:=by rw[cell_of_row _ _ _ _ _ _ n];rfl):p:=h
theorem ZcP{p:Prop}(h:p:=by rw[cell_of_row _ _ _ _ _ _ h];rfl):p:=h
theorem ZcR{p:Prop}(h:p:=by rw[cell_of_row _ _ _ _ _ _ u];rfl):p:=h
def ZeO:=@Go.World.cell?_alloc_lt
def Zh4:=@not_true_eq_false
def ZfT:=@List.getElem?_eq_none_iff
def Zg3:=@List.findIdx?_cons
def ZgF:=@List.find?_cons
def ZgK:=@decide_true
def Zeg:=@List.findIdx?_eq_some_iff_getElem
def ZgH:=@List.take_succ_cons
def Zen:=@Decidable.byContradiction
def ZgR:=@List.pairwise_cons
def ZhC:=@decide_false
def ZfO:=@Bool.false_or
def Zhj:=@Bool.eq_iff_iff
def ZgD:=@Go.grownBy_putObj'
def Zew:=@Go.World.putObj_heap_other
def Zht:=@eq_false
def Zfy:=@List.length_nil
def ZfR:=@Array.replicate_succ
def ZfS:=@Array.replicate_zero
def Zgh:=@List.push_toArray
def ZfY:=@List.append_toArray
def ZgO:=@Go.callsIn_wide
def Zgq:=@Go.grownBy_setCell'
def ZgM:=@List.getD_eq_getElem?_getD
def Zfc:=@List.flatMap_append
section
namespace Vm
open Go Go.Proofs Go.RowKit
structure Now (B:Nat) (w:World) (b:Nat) (h:Hp) (x:Nat->Value):Prop where
 blk:w.heap[b]?=some (.cells #[.int .u64 h.base,.int .i64 h.cap,.int .i64 h.to,.bool h.cycle,.int .i64 h.scan,x 0,x 1,x 2,x 3,x 4] 99 (0,0))
 own:HOwn B w h x
 far:∀j,j<5->∀c,(x j).ownBlock=some c->c≠b
 new:B<=b
def Tj(h:Hp)(part:Int)(a n:Nat):Int:=(XJ (ZW (Zv (Xt h part a n)) 1 h.low.length).1).1
def Od(B:Nat)(w:World)(b:Nat)(h:Hp)(p a n:Nat)(e:Ending)(w':World):Prop:=
 ∃d,e=.returned (.int .u64 (Tj h (p+1) a n))/\Below B w w'/\Now B w' b (Xq (Xt h (p+1) a n) (p+1) ((zr (Zu h p) a n).set a (Tj h (p+1) a n))) d
def Z82{P:Program}(w:World){o:Oper}{a:Act}{K:Act->World->Prop}{Q:Exit->Act->World->Prop}(s:Operand)(t:TypeId)
  (d:o.op=.call {callee:=.builtin .clear,args:=#[s],argTypes:=#[t]}) (vs:Value) (g:a.eval s=vs)
  (w':World) (f:(Builtin.clear_ #[t] o.type #[vs]).run P w=.ok (.tuple #[]) w') (h:K (a.put o.dst (.tuple #[])) w'):o.wp P a w K Q:=by
 unfold Oper.wp execOp;simp only[d,resolve,invoke,builtin,ZdX,Zfn,ZdR,List.map_toArray,ZdK,Zf8,g,f];exact h
def Z80{P:Program}(w:World){ops:Array Oper}{rest:List Oper}{o:Oper}{a:Act}{Q:Exit->Act->World->Prop}(d:o.guard=none)(s:Operand)(t:TypeId)
  (g:o.op=.call {callee:=.builtin .clear,args:=#[s],argTypes:=#[t]}) (vs:Value) (k:a.eval s=vs)
  (w':World) (j:(Builtin.clear_ #[t] o.type #[vs]).run P w=.ok (.tuple #[]) w') (h:wpList P ops Q rest (a.put o.dst (.tuple #[])) w'):wpList P ops Q (o::rest) a w:=
 wpList_plain d λ_ f=>Z82 w s t g vs k w' j (f _ _ h)
def MP{b c:Nat}(hc:c≠b):∀(vs:List Value) (o:Nat) (w:World),(w.setCells b o vs).heap[c]?=w.heap[c]?
 | [],_,_=>rfl
 |v::r,o,w=>by
  show((w.setCell ⟨b,o,none⟩ v).setCells b (o+1) r).heap[c]?=_;rw[MP hc r];exact ZdS _ _ _ _ hc
def MQ(b:Nat):∀(vs:List Value) (o:Nat) (w:World),(w.setCells b o vs).heap.size=w.heap.size
 | [],_,_=>rfl
 |v::r,o,w=>by
  show((w.setCell ⟨b,o,none⟩ v).setCells b (o+1) r).heap.size=_;rw[MQ b r];simp[World.setCell]
def MN{B b:Nat}(d:B<=b):∀(vs:List Value) (o:Nat) (a w:World),Below B a w->Below B a (w.setCells b o vs)
 | [],_,_,_,h=>h
 |v::r,o,a,w,h=>MN d r (o+1) a _ (h.setCell d _)
def H9{B g len cap:Nat}{L:List Int}(a:Nat):∀(n k:Nat) (w:World),a+k+n<=len->w.ownsRow B 22 1 (.slice (some ⟨g,0,none⟩) len cap) len (X8 .u64 (zr L a k))->
  (w.setCells g (a+k) (List.replicate n (.int .u64 0))).ownsRow B 22 1 (.slice (some ⟨g,0,none⟩) len cap) len (X8 .u64 (zr L a (k+n)))
 |0,k,w,_,h=>h
 |n+1,k,w,j,h=>by
  have d:=(h.stored (a+k) (.int .u64 0)).1;have f:(X8 .u64 (zr L a k)).set (a+k) (.int .u64 0)=X8 .u64 (zr L a (k+1)):=by rw[zr,GG]
  rw[f]at d;have:=H9 a n (k+1) _ Z0 d;rw[show k+1+n=k+(n+1)by omega]at this;exact this
def Z0d(w:World)(B b:Nat)(h:Hp)(x:Nat->Value)(q:Now B w b h x)(hB:B<=w.heap.size)(hh:h.ok)(p a n:Nat)(hp:p=2\/p=3)(Q:0<n)(hn:n<=1000)(e9:(n:Int)<=Xu (Zv h))
  (g cap:Nat) (hx:x p=.slice (some ⟨g,0,none⟩) (Zu h p).length cap) (i8:a+n<=(Zu h p).length) (c':Nat):
  Calls Sol.prog 49 #[.pointer (some ⟨b,0,none⟩),.slice (some ⟨g,a,none⟩) n c'] w (Od B w b h p a n):=by
 obtain⟨iU,e4,i5,i2,i9⟩:=info_parts Z2B;have k3:(Zu h 0).length<=1000000:=QE hh 0;obtain⟨v1,w1,i1,e8,z,a6⟩:=Z6e (P:=Sol.prog) (w:=w) (T:=23) (tI:=3) (ty:=23) Sol.underlying23 Sol.underlying3 e4 i5 rfl rfl i2 i9 (q.own.own 0 Z0) hB Q Z0 .i64;obtain⟨a0,q0,e0⟩:=YP (q.own.own 0 Z0);have b0:w.cell? ⟨b,5,none⟩=some (x 0):=by rw[ZdE _ _ _ _ _ _ q.blk];rfl
 have f0:w.frozen? ⟨b,5,none⟩=false:=YD q.blk;have b8:=YT q.blk;have F:some b≠(x 0).ownBlock:=λe=>q.far 0 Z0 b e.symm rfl;have c1:=(z.cell_far ⟨b,5,none⟩ b8 F).trans b0;have f1:=(z.frozen_far ⟨b,5,none⟩ b8 F).trans f0;rw[e0]at i1 b0 c1;have h8:(X8 .u64 (Zu h 0)).length=(Zu h 0).length:=by simp[X8]
 obtain⟨_,j8⟩|⟨g0,q1,y,j7,a9,g4,j5,j6,a7,f3⟩:=e8.2
 ·omega
 subst j7;have j9:¬q1=(Zu h 0).length:=Z0
 have O:g0≠b:=by
  intro e;obtain r|⟨_,r⟩:=a6
  ·exact F (by rw[<-r,e];rfl)
  ·have:=(r.lt g0 rfl).1;omega
 have b9:g≠b:=q.far p Z0 g (by rw[hx];rfl);have h5:g<w.heap.size:=((q.own.own p Z0).lt g (by rw[hx];rfl)).2;have c0:some g≠(x 0).ownBlock:=λe=>q.own.apart 0 p Z0 Z0 g e.symm (by rw[hx];rfl)
 have b1:g≠g0:=by
  intro e;obtain r|⟨_,r⟩:=a6
  ·exact c0 (by rw[<-r,e];rfl)
  ·have:=(r.lt g0 rfl).1;omega
 obtain⟨w2,H⟩:∃w2,w2=w1.setCell ⟨b,5,none⟩ (.slice (some ⟨g0,0,none⟩) ((Zu h 0).length+n) q1):=⟨_,rfl⟩;have N:w2.heap[g0]?=some (.cells y 22 (0,0)):=by rw[H,ZdS _ _ _ _ O];exact g4
 have g8:∀c,c≠b->c<w.heap.size->some c≠(x 0).ownBlock->w2.heap[c]?=w.heap[c]? :=λc A h2 h3=>by
  rw[H,ZdS _ _ _ _ A,z.block c h2 h3]
 have K:w2.heap[b]?=some (.cells #[.int .u64 h.base,.int .i64 h.cap,.int .i64 h.to,.bool h.cycle,.int .i64 h.scan,.slice (some ⟨g0,0,none⟩) ((Zu h 0).length+n) q1,x 1,x 2,x 3,x 4] 99 (0,0)):=by
  have:=(z.block b b8 F).trans q.blk;rw[H];simp[World.setCell,Zep,this]
 have i6:w2.cell? ⟨b,5,none⟩=some (.slice (some ⟨g0,0,none⟩) ((Zu h 0).length+n) q1):=by rw[ZdE _ _ _ _ _ _ K];rfl
 have R:w2.ownsRow B 22 1 (x p) (Zu h p).length (X8 .u64 (Zu h p)):=V3 (q.own.own p Z0) λc f=>by
  rw[hx]at f;cases f;exact g8 g b9 h5 c0
 obtain⟨J,a5⟩:∃J,J=X8 .u64 (((Zu h p).take (a+n)).drop a):=⟨_,rfl⟩;have M:J.length=n:=by rw[a5];simp[X8];omega
 have i3:∀j v,J[j]?=some v->w2.cell? ((⟨g,a,none⟩:Addr).add j)=some v:=by
  intro j v hv;have o:j<n:=by rw[<-M];exact(Zdl.1 hv).1
  rw[hx]at R;have:=R.cellAt (a+j) Z0;rw[Zf4,this];rw[a5]at hv;simp only[X8]at hv⊢;rw[<-hv];simp[ZdY,show a+j<a+n by omega]
 obtain⟨w3,I⟩:∃w3,w3=w2.setRow g0 (y.toList.take (Zu h 0).length++(J++y.toList.drop ((Zu h 0).length+J.length))).toArray:=⟨_,rfl⟩;have a8:(Zu h 0).length+J.length<=y.size:=by rw[M];simp at a7;omega
 have i0:∀v∈J,v.oneCell'=true:=by
  intro v hv;rw[a5]at hv;obtain⟨_,_,rfl⟩:=ZdB.1 hv;rfl
 have h9:J.length=Nat.min n n:=by rw[M];simp
 have i4:(Sol.prog.info? 22).map (·.size)=some 1:=by rw[e4];simp[i2]
 have d:w3.heap[b]?=some (.cells #[.int .u64 h.base,.int .i64 h.cap,.int .i64 h.to,.bool h.cycle,.int .i64 h.scan,.slice (some ⟨g0,0,none⟩) ((Zu h 0).length+n) q1,x 1,x 2,x 3,x 4] 99 (0,0)):=by
  rw[I,Zf7 _ _ _ _ O.symm];exact K
 have h6:∀c,c≠b->c≠g0->c<w.heap.size->some c≠(x 0).ownBlock->w3.heap[c]?=w.heap[c]? :=λc A h2 h3 h4=>by
  rw[I,Zf7 _ _ _ _ h2];exact g8 c A h3 h4
 have k0:w.heap.size<=w3.heap.size:=by
  have:=z.size;have e2:w2.heap.size=w1.heap.size:=by rw[H];simp[World.setCell]
  have e3:w3.heap.size=w2.heap.size:=by rw[I];simp[World.setRow]
  omega
 have j2:Zu (Xt h (p+1) a n) 0=Zu h 0++((Zu h p).take (a+n)).drop a:=by
  obtain rfl|rfl:=hp<;>rfl
 have h7:∀j,j≠0->Zu (Xt h (p+1) a n) j=Zu h j:=λj o=>by
  unfold Zu Xt;simp[o]
 have S:∀j,j<5->w3.ownsRow B 22 1 (if j=0 then .slice (some ⟨g0,0,none⟩) ((Zu h 0).length+n) q1 else x j) (Zu (Xt h (p+1) a n) j).length (X8 .u64 (Zu (Xt h (p+1) a n) j)):=by
  intro j o;by_cases e5:j=0
  ·subst e5;rw[if_pos rfl,j2];have hd:(((Zu h p).take (a+n)).drop a).length=n:=Zcr;refine⟨by simp[X8],.inr ⟨g0,q1,(y.toList.take (Zu h 0).length++(J++y.toList.drop ((Zu h 0).length+J.length))).toArray,?_,a9,?_,?_,j6,?_,?_⟩⟩
   ·rw[Ze8,hd]
   ·rw[I];exact Zhy _ _ _ _ _ _ N
   ·rw[Ze8,hd];exact j5
   ·simp[M]at a7 a8⊢;omega
   ·have ht:y.toList.take ((Zu h 0).length)=X8 .u64 (Zu h 0):=by
     have:=Zez (List.take (Zu h 0).length) f3;rw[List.take_take,Zhs Z0]at this;rw[this,List.take_left' h8]
    rw[Ze8,hd,ht];simp only[Zhz];rw[<-Zei,List.take_left' (by simp[h8,M]),a5];simp[X8]
  ·rw[if_neg e5,h7 j e5];have ho:=q.own.own j o
   exact V3 ho λc f=>h6 c (q.far j o c f) (λe=>by
    obtain r|⟨_,r⟩:=a6
    ·exact q.own.apart 0 j Z0 o c (by rw[<-r,e];rfl) f
    ·have A:=(r.lt g0 rfl).1;have h2:=(ho.lt c f).2;omega) (ho.lt c f).2 (λe=>q.own.apart 0 j Z0 o c e.symm f)
 have g5:∀j,0<j->j<5->(x j).ownBlock≠some g0:=λj h0 o f=>by
  obtain r|⟨_,r⟩:=a6
  ·exact q.own.apart 0 j h0 o g0 (by rw[<-r];rfl) f
  ·have A:=(r.lt g0 rfl).1;have h2:=((q.own.own j o).lt g0 f).2;omega
 have j0:∀j,j<5->j≠p->(x j).ownBlock≠some g:=λj o F f=>by
  have g9:(x p).ownBlock=some g:=by rw[hx];rfl
  obtain A|A:=Zg9 F
  ·exact q.own.apart j p A Z0 g f g9
  ·exact q.own.apart p j A o g g9 f
 have g7:B<=g:=((q.own.own p Z0).lt g (by rw[hx];rfl)).1;have b2:=q.own.own p Z0;rw[hx]at b2
 have U:∀W:World,W.heap[g]?=w.heap[g]? ->W.ownsRow B 22 1 (.slice (some ⟨g,0,none⟩) (Zu h p).length cap) (Zu h p).length (X8 .u64 (Zu h p)):=λW hW=>V3 b2 λc f=>by
  cases f;exact hW
 have j3:(X8 .u64 (Zu h p)).length=(Zu h p).length:=by simp[X8]
 have l:∀W:World,W.heap[g]?=w.heap[g]? ->(∀j,j<n->(W.cell? ⟨g,a+j,none⟩).isSome=true)/\(∀j,j<n->W.frozen? ⟨g,a+j,none⟩=false):=λW hW=>⟨λj o=>by
  rw[(U W hW).cellAt (a+j) Z0];simp[j3];omega,λj o=>(U W hW).frozenAt _⟩
 have g6:w3.heap[g]?=w.heap[g]? :=h6 g b9 b1 h5 c0;have HN:=Zdv q;have HO:=Zdv e8;have HG:=Zdv z;have f5:=Zdv H;have f8:=Zdv I;have f4:=Zdv S;have d0:w3.cell? ⟨b,0,none⟩=some (Value.int .u64 h.base):=ZcE;have d1:w3.cell? ⟨b,1,none⟩=some (Value.int .i64 h.cap):=ZcE;have d2:w3.cell? ⟨b,2,none⟩=some (Value.int .i64 h.to):=ZcE;have d3:w3.cell? ⟨b,3,none⟩=some (Value.bool h.cycle):=ZcE;have d4:w3.cell? ⟨b,4,none⟩=some (Value.int .i64 h.scan):=ZcE;have d5:w3.cell? ⟨b,5,none⟩=some (Value.slice (some ⟨g0,0,none⟩) ((Zu h 0).length+n) q1):=ZcE;have d6:w3.cell? ⟨b,6,none⟩=some (x 1):=ZcE;have d7:w3.cell? ⟨b,7,none⟩=some (x 2):=ZcE;have d8:w3.cell? ⟨b,8,none⟩=some (x 3):=ZcE;have d9:w3.cell? ⟨b,9,none⟩=some (x 4):=ZcE;have j4:(Xt h (p+1) a n).ok:=Gm hh (by obtain rfl|rfl:=hp<;>exact i8) e9 Q;clear q e8 z H I S;go_enter Sol.func49,Tryz.ntmps49
 go_wp2_with (first
  |(at_builtin;refine Lib.wpList_append_run _ rfl _ _ 23 3 rfl _ _ rfl rfl _ _ i1 ?_)
  |(rw[<-f5.out];refine wpList_copy_own rfl _ _ 23 23 rfl 22 Sol.underlying23 i4 g0 (Zu h 0).length n (q1- (Zu h 0).length) ⟨g,a,none⟩ n c' rfl rfl y 22 N J h9 i3 a8 i0 ?_;rw[<-f8.out])
  |(go_at_call 42;refine(Tm (h:=Xt h (p+1) a n) (x:=λj=>if j=0 then .slice (some ⟨g0,0,none⟩) ((Zu h 0).length+n) q1 else x j) (G:=λc=>B<=c/\c<w3.heap.size) (λc f=>f.2) (λj o=>H8 (f4.out j o) (λc A h2=>⟨A,h2⟩))).mono ?_;rintro e w4 ⟨rfl,g3⟩;have t:=Zdv g3;clear g3)
  |(go_at_call 57;refine(D5 j4.lay _ _ _).mono ?_;rintro e C ⟨rfl,a3⟩;have D:C.heap[g]?=w.heap[g]? :=(a3.block g (by have:=t.out.size;omega)).trans ((t.out.block g (by omega)).trans g6);have k5:w3.heap.size<=C.heap.size:=ZdP t.out.size a3.size;have a1:=Zdv a3;clear a3;obtain⟨w6,Z⟩:∃w6,w6=C.setCells g a (List.replicate n (.int .u64 0)):=⟨_,rfl⟩;have k6:w6.heap.size=C.heap.size:=by {rw[Z];exact MQ _ _ _ _};have c6:w6.cell? ⟨g,a,none⟩=some (.int .u64 0):=by {rw[Z];have:=World.cell?_setCells_in g (List.replicate n (Value.int .u64 0)) a C (by simpa using(l C D).1) 0 (by simpa using Q);simpa using this};have f6:w6.frozen? ⟨g,a,none⟩=false:=by {rw[Z,World.frozen?_setCells];exact(l C D).2 0 Q};have a2:=Zdv Z;clear Z)
  |(refine Z80 _ rfl _ 23 rfl _ rfl _ (Lib.run_clear_slice _ _ 22 _ (.int .u64 0) Sol.underlying23 (yF e4 i5) rfl rfl g a n c' Q (l C D).1 (l C D).2) ?_;rw[<-a2.out])
  |(go_at_call 79;refine(Z59 OI _).mono ?_;rintro e w7 ⟨rfl,a4⟩;have c7:=(a4.cell (p:=⟨g,a,none⟩) (by show g<w6.heap.size;omega)).trans c6;have f7:=(a4.frozen (p:=⟨g,a,none⟩) (by show g<w6.heap.size;omega)).trans f6;have b3:=Zdv a4;clear a4))
 go_ret
 have b4:Below B w w3:=by
  rw[f8.out,f5.out];exact Go.below_setRow (ZeV (p:=⟨b,5,none⟩) ((ZdZ B w).grown HG.out hB (λk hk=>((HN.out.own.own 0 Z0).lt k hk).1)) HN.out.new _) a9 _
 have i7:B<=w3.heap.size:=Z0;have b5:Below B w C:=(b4.trans (t.out.mono i7)).trans (a1.out.mono (by have:=t.out.size;omega));have b6:Below B w w6:=by rw[a2.out];exact MN g7 _ _ _ _ b5
 have b7:Below B w w7:=b6.trans (b3.out.mono Z0);have k4:=t.out.size;have k2:=a1.out.size
 have f9:∀(c:Nat) (u:Value),c≠g->c<w3.heap.size->(w7.setCell ⟨g,a,none⟩ u).heap[c]?=w3.heap[c]? :=λc u A h2=>by
  rw[ZdS _ _ _ _ A,b3.out.block c Z0,a2.out,MP A,a1.out.block c Z0,t.out.block c h2]
 have D:C.heap[g]?=w.heap[g]? :=(a1.out.block g Z0).trans ((t.out.block g Z0).trans g6);have X:=H9 (L:=Zu h p) a n 0 C Z0 (U C D);have e6:C.setCells g (a+0) (List.replicate n (.int .u64 0))=w6:=a2.out.symm;rw[e6,Ze7]at X
 have f2:=V3 (w':=w7) X λc f=>by
  cases f;exact b3.out.block g Z0
 have Y:=(f2.stored a (.int .u64 (Tj h (p+1) a n))).1;rw[<-GG]at Y;refine⟨λj=>if j=0 then .slice (some ⟨g0,0,none⟩) ((Zu h 0).length+n) q1 else x j,rfl,b7.setCell g7 _,?_,⟨?_,?_⟩,?_,HN.out.new⟩
 ·rw[f9 b _ (λe=>b9 e.symm) Z0,d];obtain rfl|rfl:=hp<;>rfl
 ·intro j o;by_cases e7:j=p
  ·subst e7
   have r:Zu (Xq (Xt h (j+1) a n) (j+1) ((zr (Zu h j) a n).set a (Tj h (j+1) a n))) j=(zr (Zu h j) a n).set a (Tj h (j+1) a n):=by
    obtain rfl|rfl:=hp<;>rfl
   rw[r,if_neg Z0,hx,List.length_set,qi];exact Y
  ·have r:Zu (Xq (Xt h (p+1) a n) (p+1) ((zr (Zu h p) a n).set a (Tj h (p+1) a n))) j=Zu (Xt h (p+1) a n) j:=by
    have:j=0\/j=1\/j=2\/j=3\/j=4:=Z0;obtain rfl|rfl:=hp<;>obtain rfl|rfl|rfl|rfl|rfl:=this<;>first|rfl|exact(e7 rfl).elim
   rw[r];have ho:=f4.out j o;refine V3 ho λc f=>f9 c _ (λe=> ?_) (ho.lt c f).2;subst e;by_cases h0:j=0
   ·rw[if_pos h0]at f;cases f;exact b1 rfl
   ·rw[if_neg h0]at f;exact j0 j o e7 f
 ·intro i j j1 o c f;rw[if_neg (Z0:¬j=0)];by_cases h0:i=0
  ·rw[if_pos h0]at f;cases f;exact g5 j Z0 o
  ·rw[if_neg h0]at f;exact HN.out.own.apart i j j1 o c f
 ·intro j o c f;by_cases h0:j=0
  ·rw[if_pos h0]at f;cases f;exact O
  ·rw[if_neg h0]at f;exact HN.out.far j o c f
end Vm
namespace Vm
open Go Go.Proofs Go.RowKit
def EH(w:World)(B b:Nat)(h:Hp)(x:Nat->Value)(j:Now B w b h x)(o:h.ok)(p a:Nat)(q:p=2\/p=3)(g cap:Nat)
  (hx:x p=.slice (some ⟨g,0,none⟩) (Zu h p).length cap) (t:a< (Zu h p).length):
  Calls Sol.prog 46 #[.pointer (some ⟨b,0,none⟩),.agg #[.int .i64 ((p:Int)+1),.int .i64 a]] w λe r=>e=.returned (.slice (some ⟨g,a,none⟩) ((Zu h p).length-a) (cap-a))/\Below w.heap.size w r:=by
 have f:=YT j.blk;have u:=QE o p
 have l:(Zu h p).length<=cap:=by
  have:=(j.own.own p Z0).2;rw[hx]at this;obtain⟨k,_⟩|⟨_,_,_,k,_,_,n,_⟩:=this
  ·cases k
  ·cases k;exact n
 obtain rfl|rfl:=q
 ·have c7:(w.alloc (.cells #[.int .i64 3,.int .i64 a] 92)).cell? ⟨b,7,none⟩=some (.slice (some ⟨g,0,none⟩) (Zu h 2).length cap):=by
   rw[ZeO _ _ _ f,ZdE _ _ _ _ _ _ j.blk,<-hx];rfl
  have d:((Zu h 2).length:Int)<=9223372036854775807:=Z0;go_enter Sol.func46,Tryz.ntmps46;go_wp2;go_region;go_wp2
  go_ret
  exact⟨rfl,((ZdZ _ _).alloc (Zdp _) _).drew⟩
 ·have c8:(w.alloc (.cells #[.int .i64 4,.int .i64 a] 92)).cell? ⟨b,8,none⟩=some (.slice (some ⟨g,0,none⟩) (Zu h 3).length cap):=by
   rw[ZeO _ _ _ f,ZdE _ _ _ _ _ _ j.blk,<-hx];rfl
  have d:((Zu h 3).length:Int)<=9223372036854775807:=Z0;go_enter Sol.func46,Tryz.ntmps46;go_wp2;go_region;go_wp2
  go_ret
  exact⟨rfl,((ZdZ _ _).alloc (Zdp _) _).drew⟩
end Vm
namespace Vm
open Go Go.Proofs Go.RowKit
def Je(w:World)(r:Int×Hp×Int)(e:Ending)(w':World):Prop:=
 ∃x,e=.returned (.tuple #[.int .u64 r.1,Y1 r.2.1 x,.int .i64 r.2.2])/\Below w.heap.size w w'/\HOwn w.heap.size w' r.2.1 x
def zR{B' B:Nat}{w:World}{e:TypeId}{n:Nat}{v:Value}{l:List Value}(h:w.ownsRow B' e 1 v n l)(j:∀c,B'<=c->c<w.heap.size->B<=c/\c<w.heap.size):w.ownsRow B e 1 v n l:=by
 refine⟨h.1,?_⟩;obtain f|⟨g,cap,a,o,k,d,r⟩:=h.2
 ·exact .inl f
 ·exact .inr ⟨g,cap,a,o,(j g k (YT d)).1,d,r⟩
def Jb(B:Nat)(w':World):HOwn B w' Hp.zero (λ_=>.slice none 0 0):=⟨λj d=>by
 have:Zu Hp.zero j=[]:=by
  unfold Zu Hp.zero;split
  ·rfl
  split
  ·rfl
  split
  ·rfl
  split<;>rfl
 rw[this];exact ZeN _ _ _ _,λi j _ _ c a=>by cases a⟩
def YN:Array Value:=#[.int .u64 0,.int .i64 0,.int .i64 0,.bool false,.int .i64 0,.slice none 0 0,.slice none 0 0,.slice none 0 0,.slice none 0 0,.slice none 0 0]
def Q2(w:World)(o:Obj):((w.alloc o).alloc (.cells #[.int .u64 0,.int .i64 0,.int .i64 0,.bool false,.int .i64 0,.slice none 0 0,.slice none 0 0,.slice none 0 0,.slice none 0 0,.slice none 0 0] 25)).heap[w.heap.size+1]?=some (.cells YN 25 (0,0)):=by
 have e:(w.alloc o).heap.size=w.heap.size+1:=Z1;have:=ZdO (w.alloc o) (.cells YN 25);rw[e]at this;exact this
def Z5e{w2:World}{b:Nat}{T:TypeId}(a:w2.heap[b]?=some (.cells YN T (0,0)))(v0 v1 d f v4 g v6 h j k:Value):((((((((((w2.setCell ⟨b,0,none⟩ v0).setCell ⟨b,1,none⟩ v1).setCell ⟨b,2,none⟩ d).setCell ⟨b,3,none⟩ f).setCell ⟨b,4,none⟩ v4).setCell ⟨b,5,none⟩ g).setCell ⟨b,6,none⟩ v6).setCell ⟨b,7,none⟩ h).setCell ⟨b,8,none⟩ j).setCell ⟨b,9,none⟩ k).heap[b]?=some (.cells #[v0,v1,d,f,v4,g,v6,h,j,k] T (0,0)):=by
 unfold YN at a;simp[World.setCell,Zep,a]
def Te{w2:World}{b:Nat}{T:TypeId}(l:w2.heap[b]?=some (.cells YN T (0,0)))(v0 v1 a d v4 f v6 g h k:Value)(j:Nat):((((((((((w2.setCell ⟨b,0,none⟩ v0).setCell ⟨b,1,none⟩ v1).setCell ⟨b,2,none⟩ a).setCell ⟨b,3,none⟩ d).setCell ⟨b,4,none⟩ v4).setCell ⟨b,5,none⟩ f).setCell ⟨b,6,none⟩ v6).setCell ⟨b,7,none⟩ g).setCell ⟨b,8,none⟩ h).setCell ⟨b,9,none⟩ k).cell? ⟨b,j,none⟩=(#[v0,v1,a,d,v4,f,v6,g,h,k]:Array Value)[j]? :=
 ZdE _ _ _ _ _ _ (Z5e l v0 v1 a d v4 f v6 g h k)
def Td{B:Nat}{w0 w2:World}{b:Nat}(h:Below B w0 w2)(a:B<=b)(v0 v1 d f v4 g v6 j k l:Value):Below B w0 ((((((((((w2.setCell ⟨b,0,none⟩ v0).setCell ⟨b,1,none⟩ v1).setCell ⟨b,2,none⟩ d).setCell ⟨b,3,none⟩ f).setCell ⟨b,4,none⟩ v4).setCell ⟨b,5,none⟩ g).setCell ⟨b,6,none⟩ v6).setCell ⟨b,7,none⟩ j).setCell ⟨b,8,none⟩ k).setCell ⟨b,9,none⟩ l):=
 (((((((((h.setCell a _).setCell a _).setCell a _).setCell a _).setCell a _).setCell a _).setCell a _).setCell a _).setCell a _).setCell a _
def IP{w2:World}{b c:Nat}(hc:c≠b)(v0 v1 a d v4 f v6 g h j:Value):((((((((((w2.setCell ⟨b,0,none⟩ v0).setCell ⟨b,1,none⟩ v1).setCell ⟨b,2,none⟩ a).setCell ⟨b,3,none⟩ d).setCell ⟨b,4,none⟩ v4).setCell ⟨b,5,none⟩ f).setCell ⟨b,6,none⟩ v6).setCell ⟨b,7,none⟩ g).setCell ⟨b,8,none⟩ h).setCell ⟨b,9,none⟩ j).heap[c]?=w2.heap[c]? :=by
 have:¬b=c:=λe=>hc e.symm;simp[World.setCell,Zep,this]
end Vm
namespace Vm
open Go Go.Proofs Go.RowKit
def qe(h:Hp)(x:Nat->Value):Obj:=.cells #[.int .u64 h.base,.int .i64 h.cap,.int .i64 h.to,.bool h.cycle,.int .i64 h.scan,x 0,x 1,x 2,x 3,x 4] 99
def Au{B:Nat}{a:World}{h:Hp}{x:Nat->Value}(f:HOwn B a h x)(k:B<=a.heap.size):Now B (a.alloc (qe h x)) a.heap.size h x:=by
 refine⟨ZdO a _,⟨λj d=> ?_,f.apart⟩,λj d c g=> ?_,k⟩
 ·exact V3 (f.own j d) λc g=>Zds _ _ _ ((f.own j d).lt c g).2
 ·have:=((f.own j d).lt c g).2;omega
def Z0u(W:World):W.drew.heap=W.heap:=rfl
def Bm{w2:World}{b c:Nat}(hc:c≠b)(v0 v1 a d v4 f v6 g h j:Value):((((((((((w2.setCell ⟨b,0,none⟩ v0).setCell ⟨b,1,none⟩ v1).setCell ⟨b,2,none⟩ a).setCell ⟨b,3,none⟩ d).setCell ⟨b,4,none⟩ v4).setCell ⟨b,5,none⟩ f).setCell ⟨b,6,none⟩ v6).setCell ⟨b,7,none⟩ g).setCell ⟨b,8,none⟩ h).setCell ⟨b,9,none⟩ j).drew.heap[c]?=w2.heap[c]? :=by
 rw[Z0u];exact IP hc v0 v1 a d v4 f v6 g h j
def H7{w:World}{B n q:Nat}{e:TypeId}{z:Nat}{a:Option Addr}{v:Value}{xs:List Value}(h:w.ownsRow B e z v n xs)(j:v=.slice a n q)(l:0<n):∃g,a=some ⟨g,0,none⟩:=by
 subst j;obtain⟨_,k⟩|⟨g,cap,d,f,_⟩:=h.2
 ·omega
 ·cases f;exact⟨g,rfl⟩
def Z4r{w:World}{B n q:Nat}{e:TypeId}{z:Nat}{a:Option Addr}{xs:List Value}(h:w.ownsRow B e z (.slice a n q) n xs)(o:0<n):n<=q/\q<=maxLen:=by
 obtain⟨_,l⟩|⟨g,cap,d,k,_,_,f,j,_⟩:=h.2
 ·omega
 ·cases k;exact⟨f,j⟩
def RF{w:World}{B g cap:Nat}{l:List Int}(h:w.ownsRow B 22 1 (.slice (some ⟨g,0,none⟩) l.length cap) l.length (X8 .u64 l)){i:Nat}{v:Int}(a:l[i]?=some v):w.cell? ⟨g,i,none⟩=some (.int .u64 v):=by
 obtain⟨d,f⟩:=Zdl.1 a;rw[h.cellAt i Z0];simp[X8,a]
structure FwSt (w W:World) (rb lb kb b B:Nat) (part at_:Int) (h:Hp) (x:Nat->Value):Prop where
 res:W.heap[rb]?=some (.cells YN 25 (0,0))
 lay:W.heap[lb]?=some (.cells #[.int .u64 (Zv h).base,.int .i64 (Zv h).cap,.int .i64 (Zv h).to,.int .i64 (Zv h).low,.int .i64 (Zv h).high,.int .i64 (Zv h).old,.int .i64 (Zv h).far] 89 (0,0))
 plc:W.heap[kb]?=some (.cells #[.int .i64 part,.int .i64 at_] 92 (0,0))
 now:Now B W b h x
 bel:Below w.heap.size w W
 old:w.heap.size<=rb
 rbB:rb<B
 lbB:lb<B
 kbB:kb<B
 sz:B<=W.heap.size
def FwSt.below{w W f:World}{l lb k b B:Nat}{part at_:Int}{h:Hp}{x:Nat->Value}(s:FwSt w W l lb k b B part at_ h x)(a:Below W.heap.size W f):FwSt w f l lb k b B part at_ h x:=by
 have t:=s.sz;have n:=s.rbB;have o:=s.lbB;have p:=s.kbB;have r:=a.size;have d:=s.bel.size;refine⟨(a.block _ Z0).trans s.res,(a.block _ Z0).trans s.lay,(a.block _ Z0).trans s.plc,⟨(a.block _ (YT s.now.blk)).trans s.now.blk,⟨λj g=> ?_,s.now.own.apart⟩,s.now.far,s.now.new⟩,s.bel.trans (a.mono d),s.old,n,o,p,Z0⟩;exact V3 (s.now.own.own j g) λc q=>a.block _ ((s.now.own.own j g).lt c q).2
def FwSt.drew{w W:World}{d lb a b B:Nat}{part at_:Int}{h:Hp}{x:Nat->Value}(s:FwSt w W d lb a b B part at_ h x):FwSt w W.drew d lb a b B part at_ h x:=
 ⟨s.res,s.lay,s.plc,⟨s.now.blk,⟨λj f=>V3 (s.now.own.own j f) λc g=>rfl,s.now.own.apart⟩,s.now.far,s.now.new⟩,s.bel.drew,s.old,s.rbB,s.lbB,s.kbB,s.sz⟩
def FwSt.F{w W:World}{a lb d b B:Nat}{part at_:Int}{h:Hp}{x:Nat->Value}(s:FwSt w W a lb d b B part at_ h x):(∀j,W.cell? ⟨a,j,none⟩=(#[.int .u64 0,.int .i64 0,.int .i64 0,.bool false,.int .i64 0,.slice none 0 0,.slice none 0 0,.slice none 0 0,.slice none 0 0,.slice none 0 0]:Array Value)[j]?)/\(∀j,W.frozen? ⟨a,j,none⟩=false)/\
  (∀j,W.cell? ⟨b,j,none⟩=(#[.int .u64 h.base,.int .i64 h.cap,.int .i64 h.to,.bool h.cycle,.int .i64 h.scan,x 0,x 1,x 2,x 3,x 4]:Array Value)[j]?)/\(∀j,W.cell? ⟨d,j,none⟩=(#[.int .i64 part,.int .i64 at_]:Array Value)[j]?)/\∀j,W.cell? ⟨lb,j,none⟩=(#[.int .u64 (Zv h).base,.int .i64 (Zv h).cap,.int .i64 (Zv h).to,.int .i64 (Zv h).low,.int .i64 (Zv h).high,.int .i64 (Zv h).old,.int .i64 (Zv h).far]:Array Value)[j]? :=
 ⟨λj=>ZdE _ _ _ _ _ _ s.res,λj=>YD s.res,λj=>ZdE _ _ _ _ _ _ s.now.blk,λj=>ZdE _ _ _ _ _ _ s.plc,λj=>ZdE _ _ _ _ _ _ s.lay⟩
def Oi(w:World)(G:Nat->Prop)(O:∀b,G b->b<w.heap.size)(h:Hp)(hh:h.ok)(p:Nat->Value)(hs:∀j,j<5->Rd w G (.sl ((Zu h j).map vu)) (p j))(v:Int)(hv:ZA v)
  (hr:ZJ (Zv h)=true) (Z:¬v=0) (h1:(adr v).2=0) (part:Int) (at_:Nat) (hf:Yc (Zv h) (adr v).1=(part,(at_:Int),0)) (hp:part=1\/part=2):
  Calls Sol.prog 18 #[Y1 h p,.int .u64 v] w (Je w (fwd h v)):=by
 have HS:=Zdv hs;have R:=Zdv hh;clear hs hh;unfold Y1;go_enter Sol.func18,Tryz.ntmps18;obtain rfl|rfl:=hp
 all_goals
  go_wp2_with (first
   |(go_at_call 42;go_loud (refine(Tm (h:=h) (x:=p) (G:=G) (λc T=>by have:=O c T;simp;omega) (λj M=>(HS.out j M).keep (λb L=>by have:=O b L;rw[Zds _ _ _ (by simp;omega),Zds _ _ _ (by omega)]) (λ_ h=>h))).mono ?_;rintro e w1 ⟨rfl,n⟩;unfold Vg;have z1:=(n.block (w.heap.size+1) (by simp)).trans (Q2 w _);have p1:=(n.block w.heap.size (by simp;omega)).trans ((Zds _ _ w.heap.size (by simp)).trans (ZdO w _));have W:=n.size;simp at W;have P:=Zdv n;clear n))
   |(go_at_call 43;go_loud (refine(RM R.out.lay _).mono ?_;rintro e w2 ⟨rfl,d⟩;rw[hr];have z2:=(d.block (w.heap.size+1) (by simp;omega)).trans ((Zds w1 _ (w.heap.size+1) (by omega)).trans z1);have p2:=(d.block w.heap.size (by simp;omega)).trans ((Zds w1 _ w.heap.size (by omega)).trans p1);have x2:=λj=>ZdE _ _ j _ _ _ p2;have r:Below w.heap.size w w2:=((((((ZdZ _ _).alloc (Zdp _) _).alloc (by simp) _).trans (P.out.mono (by simp;omega))).alloc (by omega) _).trans (d.mono (by simp;omega)));have X:=d.size;simp at X;have m2:=(d.block w1.heap.size (by simp)).trans (ZdO w1 _);have A:=Zdv r;clear d r))
   |(go_at_call 29;go_loud (refine(VK hv _).mono ?_;rintro e w3 ⟨rfl,f⟩;have z3:=(f.block (w.heap.size+1) (by omega)).trans z2;have p3:=(f.block w.heap.size (by omega)).trans p2;have m3:=(f.block w1.heap.size (by omega)).trans m2;have l3:=λj=>ZdE _ _ j _ _ _ m3;have a7:=f.size;have Q:=Zdv f;clear f))
   |(go_at_call 45;go_loud (refine(Lx R.out.lay (L8 hv) _).mono ?_;rintro e w4 ⟨rfl,g⟩;rw[hf];dsimp only;have a8:=g.size;have z4:=λo=>(Zds w4 o (w.heap.size+1) (by omega)).trans ((g.block (w.heap.size+1) (by omega)).trans z3);have p4:=λo=>(Zds w4 o w.heap.size (by omega)).trans ((g.block w.heap.size (by omega)).trans p3);have x4:=λo j=>ZdE _ _ j _ _ _ (p4 o);have t:∀o,Below w.heap.size w (w4.alloc o):=λo=>((A.out.trans (Q.out.mono (by omega))).trans (g.mono (by omega))).alloc (by omega) o;have m4:=λo=>(Zds w4 o w1.heap.size (by omega)).trans ((g.block w1.heap.size (by omega)).trans m3);have q:=Zdv t;clear g t z3 p3 m3 l3 z2 p2 x2 m2))
   |(go_at_call 44;go_loud (refine(L3 _ G (λb L=>by have:=O b L;simp;omega) h R.out p (λj M=>(HS.out j M).keep (λb L=>(q.out _).block b (O b L)) (λ_ h=>h))).mono ?_;rintro e z ⟨x,rfl,k,a⟩;obtain⟨a0,q0,C⟩:=YP (a.own 0 Z0);obtain⟨a1,q1,D⟩:=YP (a.own 1 Z0);obtain⟨a2,q2,H⟩:=YP (a.own 2 Z0);obtain⟨a3,q3,I⟩:=YP (a.own 3 Z0);obtain⟨a4,q4,J⟩:=YP (a.own 4 Z0);unfold Y1;rw[C,D,H,I,J];have Y:=k.size;simp at Y;have N:∀o,(w4.alloc o).heap.size=w4.heap.size+1:=λo=>Z1;rw[N]at a;have K:=Au a Z0;unfold qe at K;rw[C,D,H,I,J]at K;have l:∀o,Below w.heap.size w (z.alloc o):=λo=>((q.out _).trans (k.mono Zcr)).alloc Z0 o;have z6:=λo=>(Zds z o (w.heap.size+1) Z0).trans ((k.block (w.heap.size+1) Zcr).trans (z4 _));have u:FwSt w (z.alloc _) (w.heap.size+1) w1.heap.size w4.heap.size z.heap.size (w4.heap.size+1) _ (at_:Nat) h x:=⟨z6 _,(Zds z _ w1.heap.size Z0).trans ((k.block w1.heap.size Zcr).trans (m4 _)),(Zds z _ w4.heap.size Z0).trans ((k.block w4.heap.size Z1).trans (ZdO w4 _)),K,l _,Z0,Z0,Z0,Z0,Zcr⟩;obtain⟨y6,f6,a5,a9,b0⟩:=u.F;rw[C,D,H,I,J]at a5;have S:=Zdv u;clear u;have B:=Zdv l;have HN:=Zdv K;have E0:=Zdv C;have E1:=Zdv D;have E2:=Zdv H;have E3:=Zdv I;have E4:=Zdv J;clear l K C D H I J a k z4 p4 x4 m4)))
  go_region
  all_goals
   go_wp2
   try simp only[Exit.inBlock,Exit.then]
   have y:=Te S.out.res (.int .u64 h.base) (.int .i64 h.cap) (.int .i64 h.to) (.bool h.cycle) (.int .i64 h.scan) (.slice a0 (Zu h 0).length q0) (.slice a1 (Zu h 1).length q1) (.slice a2 (Zu h 2).length q2) (.slice a3 (Zu h 3).length q3) (.slice a4 (Zu h 4).length q4);have U:fwd h v=(v,h,0):=by simp[fwd,hr,Z,h1,hf]
   rw[U];refine Zeu (v:=.tuple #[.int .u64 v,Y1 h x,.int .i64 0]) ?_ rfl ?_
   ·unfold Y1;rw[E0.out,E1.out,E2.out,E3.out,E4.out];simp[results,Tryz.results18,go_sem,y]
   ·refine⟨x,rfl,?_,?_⟩
    ·exact(Td (B.out _) Z0 _ _ _ _ _ _ _ _ _ _).drew
    ·refine⟨λj M=> ?_,HN.out.own.apart⟩;have ho:=HN.out.own.own j M;refine zR (V3 ho ?_) ?_
     ·intro c T;have a6:=(ho.lt c T).1;exact Bm Z0 _ _ _ _ _ _ _ _ _ _
     ·intro c h1 h2;exact⟨Z0,h2⟩
def Oh(w:World)(G:Nat->Prop)(hG:∀b,G b->b<w.heap.size)(h:Hp)(hh:h.ok)(A:Nat->Value)(hs:∀j,j<5->Rd w G (.sl ((Zu h j).map vu)) (A j))(v:Int)(hv:ZA v)
  (hr:ZJ (Zv h)=true) (b7:¬v=0) (h1:(adr v).2=0) (part:Int) (at_:Nat) (hf:Yc (Zv h) (adr v).1=(part,(at_:Int),0)) (j:Nat) (M:((j:Nat):Int)+1=part) (hp:part=3\/part=4)
  (C:Int) (z:(Zu h j)[at_]?=some C) (d7:at_< (Zu h j).length) (b8:ZA C) (b1:(adr C).2=0):
  Calls Sol.prog 18 #[Y1 h A,.int .u64 v] w (Je w (fwd h v)):=by
 have HS:=Zdv hs;have HH:=Zdv hh;clear hs hh;unfold Y1;go_enter Sol.func18,Tryz.ntmps18;obtain rfl|rfl:=hp
 all_goals
  have d9:j=2\/j=3:=Z0
  go_wp2_with (first
   |(go_at_call 46;go_loud (have L:=EH _ (w4.heap.size+1) P.heap.size h x R.out.now HH.out j at_ (by omega) g qj EP.out (by omega);rw[M]at L;refine L.mono ?_;clear L;rintro e w7 ⟨rfl,J⟩;obtain⟨m,hm⟩:∃m,(Zu h j).length-at_=m:=⟨_,rfl⟩;obtain⟨qm,b2⟩:∃qm,qj-at_=qm:=⟨_,rfl⟩;rw[hm,b2];have e5:0<m:=(by omega);have d6:(0:Int)< (m:Int):=(by omega);have d5:at_+0=at_:=rfl;have d:=R.out.below J;have b6:=J.size;simp at b6;obtain⟨y7,f7,c0,f2,f5⟩:=d.F;rw[E0.out,E1.out,E2.out,E3.out,E4.out]at c0;have r:=d.now.own.own j (by omega);rw[EP.out]at r;have c7:=RF r z;have a9:=Zdv d;clear J d r))
   |(go_at_call 29;go_loud (have d:=a9.out;refine(VK b8 _).mono ?_;rintro e w8 ⟨rfl,K⟩;have B:=d.below K;have f0:=K.size;obtain⟨y8,f8,c1,f3,f9⟩:=B.F;rw[E0.out,E1.out,E2.out,E3.out,E4.out]at c1;have t:=B.now.own.own j (by omega);rw[EP.out]at t;have c8:=RF t z;have u:=Zdv B;clear K B d t))
   |(go_at_call 42;go_loud (refine(Tm (h:=h) (x:=A) (G:=G) (λc hc=>by have:=hG c hc;simp;omega) (λj M=>(HS.out j M).keep (λb Z=>by have:=hG b Z;rw[Zds _ _ _ (by simp;omega),Zds _ _ _ (by omega)]) (λ_ h=>h))).mono ?_;rintro e w1 ⟨rfl,q⟩;unfold Vg;have z1:=(q.block (w.heap.size+1) (by simp)).trans (Q2 w _);have p1:=(q.block w.heap.size (by simp;omega)).trans ((Zds _ _ w.heap.size (by simp)).trans (ZdO w _));have b3:=q.size;simp at b3;have a7:=Zdv q;clear q))
   |(go_at_call 43;go_loud (refine(RM HH.out.lay _).mono ?_;rintro e w2 ⟨rfl,f⟩;rw[hr];have z2:=(f.block (w.heap.size+1) (by simp;omega)).trans ((Zds w1 _ (w.heap.size+1) (by omega)).trans z1);have p2:=(f.block w.heap.size (by simp;omega)).trans ((Zds w1 _ w.heap.size (by omega)).trans p1);have x2:=λj=>ZdE _ _ j _ _ _ p2;have H:Below w.heap.size w w2:=((((((ZdZ _ _).alloc (Zdp _) _).alloc (by simp) _).trans (a7.out.mono (by simp;omega))).alloc (by omega) _).trans (f.mono (by simp;omega)));have b4:=f.size;simp at b4;have m2:=(f.block w1.heap.size (by simp)).trans (ZdO w1 _);have Q:=Zdv H;clear f H))
   |(go_at_call 29;go_loud (refine(VK hv _).mono ?_;rintro e w3 ⟨rfl,k⟩;have z3:=(k.block (w.heap.size+1) (by omega)).trans z2;have p3:=(k.block w.heap.size (by omega)).trans p2;have m3:=(k.block w1.heap.size (by omega)).trans m2;have l3:=λj=>ZdE _ _ j _ _ _ m3;have e8:=k.size;have a8:=Zdv k;clear k))
   |(go_at_call 45;go_loud (refine(Lx HH.out.lay (L8 hv) _).mono ?_;rintro e w4 ⟨rfl,l⟩;rw[hf];dsimp only;have e9:=l.size;have z4:=λo=>(Zds w4 o (w.heap.size+1) (by omega)).trans ((l.block (w.heap.size+1) (by omega)).trans z3);have p4:=λo=>(Zds w4 o w.heap.size (by omega)).trans ((l.block w.heap.size (by omega)).trans p3);have x4:=λo j=>ZdE _ _ j _ _ _ (p4 o);have I:∀o,Below w.heap.size w (w4.alloc o):=λo=>((Q.out.trans (a8.out.mono (by omega))).trans (l.mono (by omega))).alloc (by omega) o;have m4:=λo=>(Zds w4 o w1.heap.size (by omega)).trans ((l.block w1.heap.size (by omega)).trans m3);have D:=Zdv I;clear l I z3 p3 m3 l3 z2 p2 x2 m2))
   |(go_at_call 44;go_loud (refine(L3 _ G (λb Z=>by have:=hG b Z;simp;omega) h HH.out A (λj M=>(HS.out j M).keep (λb Z=>(D.out _).block b (hG b Z)) (λ_ h=>h))).mono ?_;rintro e P ⟨x,rfl,n,a⟩;obtain⟨a0,q0,S⟩:=YP (a.own 0 Z0);obtain⟨a1,q1,T⟩:=YP (a.own 1 Z0);obtain⟨a2,q2,U⟩:=YP (a.own 2 Z0);obtain⟨a3,q3,W⟩:=YP (a.own 3 Z0);obtain⟨a4,q4,X⟩:=YP (a.own 4 Z0);obtain⟨aj,qj,ej⟩:=YP (a.own j Z0);obtain⟨g,hg⟩:=H7 (a.own j Z0) ej Z0;subst hg;unfold Y1;rw[S,T,U,W,X];have b5:=n.size;simp at b5;have a6:∀o,(w4.alloc o).heap.size=w4.heap.size+1:=λo=>Z1;rw[a6]at a;have Y:=Au a Z0;unfold qe at Y;rw[S,T,U,W,X]at Y;have p:∀o,Below w.heap.size w (P.alloc o):=λo=>((D.out _).trans (n.mono Zcr)).alloc Z0 o;have z6:=λo=>(Zds P o (w.heap.size+1) Z0).trans ((n.block (w.heap.size+1) Zcr).trans (z4 _));have O:FwSt w (P.alloc _) (w.heap.size+1) w1.heap.size w4.heap.size P.heap.size (w4.heap.size+1) _ (at_:Nat) h x:=⟨z6 _,(Zds P _ w1.heap.size Z0).trans ((n.block w1.heap.size Zcr).trans (m4 _)),(Zds P _ w4.heap.size Z0).trans ((n.block w4.heap.size Z1).trans (ZdO w4 _)),Y,p _,Z0,Z0,Z0,Z0,Zcr⟩;obtain⟨y6,f6,b9,f1,f4⟩:=O.F;rw[S,T,U,W,X]at b9;have R:=Zdv O;have EP:=Zdv ej;clear ej;clear O;have d0:=Zdv p;have HN:=Zdv Y;have E0:=Zdv S;have E1:=Zdv T;have E2:=Zdv U;have E3:=Zdv W;have E4:=Zdv X;clear p Y S T U W X a n z4 p4 x4 m4)))
  have b0:fwd h v=(C,h,0):=by
   first
   | (have N:j=2:=by omega
      subst N)
   | (have N:j=3:=by omega
      subst N)
   first
   |have a5:h.old.getD at_ 0=C:=by show(Zu h 2).getD at_ 0=C;simp[List.getD,z]
   |have a5:h.far.getD at_ 0=C:=by show(Zu h 3).getD at_ 0=C;simp[List.getD,z]
   have e6:h.old.length=(Zu h 2).length:=rfl;have e7:h.far.length=(Zu h 3).length:=rfl;simp[fwd,hr,b7,h1,hf,-List.getD_eq_getElem?_getD,a5,b1]
  go_region
  all_goals
   go_wp2
   try simp only[Exit.inBlock,Exit.then]
   have y:=Te u.out.res (.int .u64 h.base) (.int .i64 h.cap) (.int .i64 h.to) (.bool h.cycle) (.int .i64 h.scan) (.slice a0 (Zu h 0).length q0) (.slice a1 (Zu h 1).length q1) (.slice a2 (Zu h 2).length q2) (.slice a3 (Zu h 3).length q3) (.slice a4 (Zu h 4).length q4);rw[b0];refine Zeu (v:=.tuple #[.int .u64 C,Y1 h x,.int .i64 0]) ?_ rfl ?_
   ·unfold Y1;rw[E0.out,E1.out,E2.out,E3.out,E4.out];simp[results,Tryz.results18,go_sem,y]
   ·refine⟨x,rfl,?_,?_⟩
    ·exact(Td u.out.bel Z0 _ _ _ _ _ _ _ _ _ _).drew
    ·refine⟨λj M=> ?_,u.out.now.own.apart⟩;have ho:=u.out.now.own.own j M;refine zR (V3 ho ?_) ?_
     ·intro c hc;have d8:=(ho.lt c hc).1;exact Bm Z0 _ _ _ _ _ _ _ _ _ _
     ·intro c h1 h2;exact⟨Z0,h2⟩
def CP(w:World)(G:Nat->Prop)(hG:∀b,G b->b<w.heap.size)(h:Hp)(hh:h.ok)(f0:Nat->Value)(hs:∀j,j<5->Rd w G (.sl ((Zu h j).map vu)) (f0 j))(v:Int)(hv:ZA v)
  (hr:ZJ (Zv h)=true) (e9:¬v=0) (h1:(adr v).2=0) (part:Int) (at_:Nat) (hf:Yc (Zv h) (adr v).1=(part,(at_:Int),0)) (j:Nat) (hj:((j:Nat):Int)+1=part) (hp:part=3\/part=4)
  (I:Int) (q:(Zu h j)[at_]?=some I) (n2:at_< (Zu h j).length) (j5:ZA I) (e8:¬(adr I).2=0) (sz:Nat) (pt er:Int) (d9:ZO I=((sz:Int),pt,er)) (o1:sz<=255)
  (hc:¬er=0\/(er=0/\(Zu h j).length<at_+(sz+1))\/(er=0/\at_+(sz+1)<=(Zu h j).length/\Xu (Zv h)< ((sz+1:Nat):Int))\/(er=0/\at_+(sz+1)<=(Zu h j).length/\¬Xu (Zv h)< ((sz+1:Nat):Int))):
  Calls Sol.prog 18 #[Y1 h f0,.int .u64 v] w (Je w (fwd h v)):=by
 have HS:=Zdv hs;have HH:=Zdv hh;clear hs hh;unfold Y1;go_enter Sol.func18,Tryz.ntmps18;obtain S|⟨S,k9⟩|⟨S,O,X⟩|⟨S,O,X⟩:=hc
 all_goals obtain rfl|rfl:=hp
 all_goals
  have n4:j=2\/j=3:=Z0
  go_wp2_with (first
   |(go_at_call 46;go_loud (have h8:=EH _ (w4.heap.size+1) K.heap.size h x i8.out.now HH.out j at_ (by omega) g qj EP.out (by omega);rw[hj]at h8;refine h8.mono ?_;clear h8;rintro e w7 ⟨rfl,h5⟩;obtain⟨m,hm⟩:∃m,(Zu h j).length-at_=m:=⟨_,rfl⟩;obtain⟨qm,h9⟩:∃qm,qj-at_=qm:=⟨_,rfl⟩;rw[hm,h9];have n5:0<m:=(by omega);have m5:(0:Int)< (m:Int):=(by omega);have f5:at_+0=at_:=rfl;have Y:=i8.out.below h5;have l4:=h5.size;simp at l4;obtain⟨y7,f7,i0,j6,j8⟩:=Y.F;rw[E0.out,E1.out,E2.out,E3.out,E4.out]at i0;have d6:=Y.now.own.own j (by omega);rw[EP.out]at d6;have c7:=RF d6 q;have k6:=Zdv Y;clear h5 Y d6))
   |(go_at_call 29;go_loud (have Y:=k6.out;refine(VK j5 _).mono ?_;rintro e w8 ⟨rfl,h6⟩;have f1:=Y.below h6;have n9:=h6.size;obtain⟨y8,f8,i1,j7,j9⟩:=f1.F;rw[E0.out,E1.out,E2.out,E3.out,E4.out]at i1;have d7:=f1.now.own.own j (by omega);rw[EP.out]at d7;have c8:=RF d7 q;have k7:=Zdv f1;clear h6 f1 Y d7))
   |(go_at_call 47;go_loud (refine(KV j5 _).mono ?_;rintro e t ⟨rfl,h7⟩;rw[d9];dsimp only;have o0:=h7.size;have a8:FwSt w (t.alloc (.cells #[.int .i64 (sz:Nat),.int .i64 pt] 66)) _ _ _ _ _ _ _ h x:=(k7.out.below h7).below ((ZdZ _ _).alloc (Zdp _) _);obtain⟨k2,j0,e5,g6,d⟩:=a8.F;rw[E0.out,E1.out,E2.out,E3.out,E4.out]at e5;have T:=a8.now.own.own j (by omega);rw[EP.out]at T;have n0:=RF T q;have a7:=λj=>ZdE _ _ j _ _ _ (ZdO t (.cells #[.int .i64 (sz:Nat),.int .i64 pt] 66));have z:=Zdv a8;have n6:m<=1000000:=(by have:=QE HH.out j;omega);have m1:at_+m=(Zu h j).length:=(by omega);clear h7 a8 T))
   |(go_at_call 42;go_loud (refine(Tm (h:=h) (x:=f0) (G:=G) (λc hc=>by have:=hG c hc;simp;omega) (λj hj=>(HS.out j hj).keep (λb p=>by have:=hG b p;rw[Zds _ _ _ (by simp;omega),Zds _ _ _ (by omega)]) (λ_ h=>h))).mono ?_;rintro e w1 ⟨rfl,b9⟩;unfold Vg;have z1:=(b9.block (w.heap.size+1) (by simp)).trans (Q2 w _);have p1:=(b9.block w.heap.size (by simp;omega)).trans ((Zds _ _ w.heap.size (by simp)).trans (ZdO w _));have l0:=b9.size;simp at l0;have k4:=Zdv b9;clear b9))
   |(go_at_call 43;go_loud (refine(RM HH.out.lay _).mono ?_;rintro e w2 ⟨rfl,a9⟩;rw[hr];have z2:=(a9.block (w.heap.size+1) (by simp;omega)).trans ((Zds w1 _ (w.heap.size+1) (by omega)).trans z1);have p2:=(a9.block w.heap.size (by simp;omega)).trans ((Zds w1 _ w.heap.size (by omega)).trans p1);have x2:=λj=>ZdE _ _ j _ _ _ p2;have f9:Below w.heap.size w w2:=((((((ZdZ _ _).alloc (Zdp _) _).alloc (by simp) _).trans (k4.out.mono (by simp;omega))).alloc (by omega) _).trans (a9.mono (by simp;omega)));have l1:=a9.size;simp at l1;have m2:=(a9.block w1.heap.size (by simp)).trans (ZdO w1 _);have i3:=Zdv f9;clear a9 f9))
   |(go_at_call 29;go_loud (refine(VK hv _).mono ?_;rintro e w3 ⟨rfl,b5⟩;have z3:=(b5.block (w.heap.size+1) (by omega)).trans z2;have p3:=(b5.block w.heap.size (by omega)).trans p2;have m3:=(b5.block w1.heap.size (by omega)).trans m2;have l3:=λj=>ZdE _ _ j _ _ _ m3;have n7:=b5.size;have k5:=Zdv b5;clear b5))
   |(go_at_call 45;go_loud (refine(Lx HH.out.lay (L8 hv) _).mono ?_;rintro e w4 ⟨rfl,b6⟩;rw[hf];dsimp only;have n8:=b6.size;have z4:=λo=>(Zds w4 o (w.heap.size+1) (by omega)).trans ((b6.block (w.heap.size+1) (by omega)).trans z3);have p4:=λo=>(Zds w4 o w.heap.size (by omega)).trans ((b6.block w.heap.size (by omega)).trans p3);have x4:=λo j=>ZdE _ _ j _ _ _ (p4 o);have g5:∀o,Below w.heap.size w (w4.alloc o):=λo=>((i3.out.trans (k5.out.mono (by omega))).trans (b6.mono (by omega))).alloc (by omega) o;have m4:=λo=>(Zds w4 o w1.heap.size (by omega)).trans ((b6.block w1.heap.size (by omega)).trans m3);have f3:=Zdv g5;clear b6 g5 z3 p3 m3 l3 z2 p2 x2 m2))
   |(go_at_call 44;go_loud (refine(L3 _ G (λb p=>by have:=hG b p;simp;omega) h HH.out f0 (λj hj=>(HS.out j hj).keep (λb p=>(f3.out _).block b (hG b p)) (λ_ h=>h))).mono ?_;rintro e K ⟨x,rfl,b7,D⟩;obtain⟨a0,q0,e0⟩:=YP (D.own 0 Z0);obtain⟨a1,q1,e1⟩:=YP (D.own 1 Z0);obtain⟨a2,q2,e2⟩:=YP (D.own 2 Z0);obtain⟨a3,q3,e3⟩:=YP (D.own 3 Z0);obtain⟨a4,q4,e4⟩:=YP (D.own 4 Z0);obtain⟨aj,qj,ej⟩:=YP (D.own j Z0);obtain⟨g,hg⟩:=H7 (D.own j Z0) ej Z0;subst hg;unfold Y1;rw[e0,e1,e2,e3,e4];have l2:=b7.size;simp at l2;have j4:∀o,(w4.alloc o).heap.size=w4.heap.size+1:=λo=>Z1;rw[j4]at D;have hN:=Au D Z0;unfold qe at hN;rw[e0,e1,e2,e3,e4]at hN;have b8:∀o,Below w.heap.size w (K.alloc o):=λo=>((f3.out _).trans (b7.mono Zcr)).alloc Z0 o;have z6:=λo=>(Zds K o (w.heap.size+1) Z0).trans ((b7.block (w.heap.size+1) Zcr).trans (z4 _));have i2:FwSt w (K.alloc _) (w.heap.size+1) w1.heap.size w4.heap.size K.heap.size (w4.heap.size+1) _ (at_:Nat) h x:=⟨z6 _,(Zds K _ w1.heap.size Z0).trans ((b7.block w1.heap.size Zcr).trans (m4 _)),(Zds K _ w4.heap.size Z0).trans ((b7.block w4.heap.size Z1).trans (ZdO w4 _)),hN,b8 _,Z0,Z0,Z0,Z0,Zcr⟩;obtain⟨y6,f6,l6,o3,o4⟩:=i2.F;rw[e0,e1,e2,e3,e4]at l6;have i8:=Zdv i2;have EP:=Zdv ej;clear ej;clear i2;have l8:=Zdv b8;have HN:=Zdv hN;have E0:=Zdv e0;have E1:=Zdv e1;have E2:=Zdv e2;have E3:=Zdv e3;have E4:=Zdv e4;clear b8 hN e0 e1 e2 e3 e4 D b7 z4 p4 x4 m4)))
 iterate 2
  focus
   have N:fwd h v=(0,Hp.zero,3):=by
    first
    | (have k:j=2:=by omega
       subst k)
    | (have k:j=3:=by omega
       subst k)
    first
    |have B:h.old.getD at_ 0=I:=by show(Zu h 2).getD at_ 0=I;simp[List.getD,q]
    |have B:h.far.getD at_ 0=I:=by show(Zu h 3).getD at_ 0=I;simp[List.getD,q]
    have U:h.old.length=(Zu h 2).length:=rfl;have W:h.far.length=(Zu h 3).length:=rfl;simp[fwd,Tv,hr,e9,h1,hf,-List.getD_eq_getElem?_getD,B,U,W,e8,d9,S]
   have y:=Te z.out.res (.int .u64 0) (.int .i64 0) (.int .i64 0) (.bool false) (.int .i64 0) (.slice none 0 0) (.slice none 0 0) (.slice none 0 0) (.slice none 0 0) (.slice none 0 0);rw[N];refine Zeu (v:=.tuple #[.int .u64 0,.agg YN,.int .i64 3]) ?_ rfl ?_
   ·simp[results,Tryz.results18,go_sem,y,YN]
   ·refine⟨λ_=>.slice none 0 0,?_,?_,Jb _ _⟩
    ·simp[Y1,Hp.zero,YN]
    ·exact Td z.out.bel Z0 _ _ _ _ _ _ _ _ _ _
 iterate 2
  focus
   have N:fwd h v=(0,Hp.zero,2):=by
    first
    | (have k:j=2:=by omega
       subst k)
    | (have k:j=3:=by omega
       subst k)
    first
    |have B:h.old.getD at_ 0=I:=by show(Zu h 2).getD at_ 0=I;simp[List.getD,q]
    |have B:h.far.getD at_ 0=I:=by show(Zu h 3).getD at_ 0=I;simp[List.getD,q]
    have U:h.old.length=(Zu h 2).length:=rfl;have W:h.far.length=(Zu h 3).length:=rfl;simp[fwd,Tv,hr,e9,h1,hf,-List.getD_eq_getElem?_getD,B,U,W,e8,d9,S,k9]
   have y:=Te z.out.res (.int .u64 0) (.int .i64 0) (.int .i64 0) (.bool false) (.int .i64 0) (.slice none 0 0) (.slice none 0 0) (.slice none 0 0) (.slice none 0 0) (.slice none 0 0);rw[N];refine Zeu (v:=.tuple #[.int .u64 0,.agg YN,.int .i64 2]) ?_ rfl ?_
   ·simp[results,Tryz.results18,go_sem,y,YN]
   ·refine⟨λ_=>.slice none 0 0,?_,?_,Jb _ _⟩
    ·simp[Y1,Hp.zero,YN]
    ·exact Td z.out.bel Z0 _ _ _ _ _ _ _ _ _ _
 iterate 2
  focus
   obtain⟨H,P⟩:∃H:Nat,sz+1=H:=⟨_,rfl⟩;have l5:IntKind.i64.wrap ((sz:Int)+1)=(H:Int):=by rw[Zy ((sz:Int)+1) Z0 Z0];omega
   have j2:Xu (Zv h)< (H:Int):=Z0;have h0:=Zdv P;have i7:=Zdv X;have g9:=Zdv O;clear P X O;have d5:t.heap.size< ((t.alloc (.cells #[.int .i64 (sz:Nat),.int .i64 pt] 66))).heap.size:=Z1;clear j8 j9 g6 j6 j7 y7 y8 f7 f8 i0 i1 c7 c8;generalize (t.alloc (.cells #[.int .i64 (sz:Nat),.int .i64 pt] 66))=e7 at*;have A:FwSt w e7 (w.heap.size+1) w1.heap.size w4.heap.size K.heap.size (w4.heap.size+1) (((j:Nat):Int)+1) (at_:Nat) h x:=by rw[hj];exact z.out
   have Q:(λa=>a.cell? ⟨w1.heap.size,0,none⟩=some (.int .u64 (Zv h).base)/\a.cell? ⟨w1.heap.size,1,none⟩=some (.int .i64 (Zv h).cap)/\a.cell? ⟨w1.heap.size,2,none⟩=some (.int .i64 (Zv h).to)/\a.cell? ⟨w1.heap.size,3,none⟩=some (.int .i64 (Zv h).low)/\a.cell? ⟨w1.heap.size,4,none⟩=some (.int .i64 (Zv h).high)/\a.cell? ⟨w1.heap.size,5,none⟩=some (.int .i64 (Zv h).old)/\a.cell? ⟨w1.heap.size,6,none⟩=some (.int .i64 (Zv h).far)/\a.cell? ⟨t.heap.size,0,none⟩=some (.int .i64 (sz:Nat))/\FwSt w a (w.heap.size+1) w1.heap.size w4.heap.size K.heap.size (w4.heap.size+1) (((j:Nat):Int)+1) (at_:Nat) h x/\t.heap.size<a.heap.size) e7.drew:=⟨d 0,d 1,d 2,d 3,d 4,d 5,d 6,a7 0,A.drew,d5⟩
   have L:∀(u u':World),(λa=>a.cell? ⟨w1.heap.size,0,none⟩=some (.int .u64 (Zv h).base)/\a.cell? ⟨w1.heap.size,1,none⟩=some (.int .i64 (Zv h).cap)/\a.cell? ⟨w1.heap.size,2,none⟩=some (.int .i64 (Zv h).to)/\a.cell? ⟨w1.heap.size,3,none⟩=some (.int .i64 (Zv h).low)/\a.cell? ⟨w1.heap.size,4,none⟩=some (.int .i64 (Zv h).high)/\a.cell? ⟨w1.heap.size,5,none⟩=some (.int .i64 (Zv h).old)/\a.cell? ⟨w1.heap.size,6,none⟩=some (.int .i64 (Zv h).far)/\a.cell? ⟨t.heap.size,0,none⟩=some (.int .i64 (sz:Nat))/\FwSt w a (w.heap.size+1) w1.heap.size w4.heap.size K.heap.size (w4.heap.size+1) (((j:Nat):Int)+1) (at_:Nat) h x/\t.heap.size<a.heap.size) u->Below u.heap.size u u'->(λa=>a.cell? ⟨w1.heap.size,0,none⟩=some (.int .u64 (Zv h).base)/\a.cell? ⟨w1.heap.size,1,none⟩=some (.int .i64 (Zv h).cap)/\a.cell? ⟨w1.heap.size,2,none⟩=some (.int .i64 (Zv h).to)/\a.cell? ⟨w1.heap.size,3,none⟩=some (.int .i64 (Zv h).low)/\a.cell? ⟨w1.heap.size,4,none⟩=some (.int .i64 (Zv h).high)/\a.cell? ⟨w1.heap.size,5,none⟩=some (.int .i64 (Zv h).old)/\a.cell? ⟨w1.heap.size,6,none⟩=some (.int .i64 (Zv h).far)/\a.cell? ⟨t.heap.size,0,none⟩=some (.int .i64 (sz:Nat))/\FwSt w a (w.heap.size+1) w1.heap.size w4.heap.size K.heap.size (w4.heap.size+1) (((j:Nat):Int)+1) (at_:Nat) h x/\t.heap.size<a.heap.size) u':=by
    rintro u u' ⟨c0,c1,c2,c3,c4,c5,c6,c7,st,hs⟩ p;have hl:=st.lbB;have hz:=st.sz;exact⟨(p.cell Zcz).trans c0,(p.cell Zcz).trans c1,(p.cell Zcz).trans c2,(p.cell Zcz).trans c3,(p.cell Zcz).trans c4,(p.cell Zcz).trans c5,(p.cell Zcz).trans c6,(p.cell hs).trans c7,st.below p,by have:=p.size;omega⟩
   go_region_held3 (λa=>a.cell? ⟨w1.heap.size,0,none⟩=some (.int .u64 (Zv h).base)/\a.cell? ⟨w1.heap.size,1,none⟩=some (.int .i64 (Zv h).cap)/\a.cell? ⟨w1.heap.size,2,none⟩=some (.int .i64 (Zv h).to)/\a.cell? ⟨w1.heap.size,3,none⟩=some (.int .i64 (Zv h).low)/\a.cell? ⟨w1.heap.size,4,none⟩=some (.int .i64 (Zv h).high)/\a.cell? ⟨w1.heap.size,5,none⟩=some (.int .i64 (Zv h).old)/\a.cell? ⟨w1.heap.size,6,none⟩=some (.int .i64 (Zv h).far)/\a.cell? ⟨t.heap.size,0,none⟩=some (.int .i64 (sz:Nat))/\FwSt w a (w.heap.size+1) w1.heap.size w4.heap.size K.heap.size (w4.heap.size+1) (((j:Nat):Int)+1) (at_:Nat) h x/\t.heap.size<a.heap.size) (first|exact Q|assumption)
    (first|(go_at_call 48;refine(Mq HH.out.lay _).mono ?_;rintro e k0 ⟨rfl,M⟩;have h4:=L _ _ Q M))
   obtain⟨-,-,-,-,-,-,-,k8,n,j3⟩:=h4;clear Q A L a7 k2 j0 e5 d M d5;rename_i R;clear R;obtain⟨k3,j1,a6,g7,g8⟩:=n.F;rw[E0.out,E1.out,E2.out,E3.out,E4.out]at a6;have l:=n.now.own.own j Z0;rw[EP.out]at l;have i9:=RF l q;clear l hm h9 f5;have f:=Zdv n;clear n;go_wp2;have a5:Xu (Zv h)< (sz:Int)+1:=by have:=h0.out;omega
   have N:fwd h v=(0,Hp.zero,7):=by
    first
    | (have k:j=2:=by omega
       subst k)
    | (have k:j=3:=by omega
       subst k)
    first
    |have B:h.old.getD at_ 0=I:=by show(Zu h 2).getD at_ 0=I;simp[List.getD,q]
    |have B:h.far.getD at_ 0=I:=by show(Zu h 3).getD at_ 0=I;simp[List.getD,q]
    have U:h.old.length=(Zu h 2).length:=rfl;have W:h.far.length=(Zu h 3).length:=rfl;simp[fwd,Tv,hr,e9,h1,hf,-List.getD_eq_getElem?_getD,B,U,W,e8,d9,S,Zgx.2 g9.out,a5]
   have y:=Te f.out.res (.int .u64 0) (.int .i64 0) (.int .i64 0) (.bool false) (.int .i64 0) (.slice none 0 0) (.slice none 0 0) (.slice none 0 0) (.slice none 0 0) (.slice none 0 0);rw[N];refine Zeu (v:=.tuple #[.int .u64 0,.agg YN,.int .i64 7]) ?_ rfl ?_
   ·simp[results,Tryz.results18,go_sem,y,YN]
   ·refine⟨λ_=>.slice none 0 0,?_,?_,Jb _ _⟩
    ·simp[Y1,Hp.zero,YN]
    ·exact Td f.out.bel Z0 _ _ _ _ _ _ _ _ _ _
 iterate 2
  focus
   obtain⟨H,P⟩:∃H:Nat,sz+1=H:=⟨_,rfl⟩;have l5:IntKind.i64.wrap ((sz:Int)+1)=(H:Int):=by rw[Zy ((sz:Int)+1) Z0 Z0];omega
   have j2:¬(Xu (Zv h)< (H:Int)):=Z0;have d8:=z.out.now.own.own j Z0;rw[EP.out]at d8;have m0:=Z4r d8 Z0;have m8:(H:Int)<=(qm:Int):=Z0;have m7:(0:Int)<=(H:Int):=Z0;clear d8;have h0:=Zdv P;have i7:=Zdv X;have g9:=Zdv O;clear P X O;have d5:t.heap.size< ((t.alloc (.cells #[.int .i64 (sz:Nat),.int .i64 pt] 66))).heap.size:=Z1;clear j8 j9 g6 j6 j7 y7 y8 f7 f8 i0 i1 c7 c8;generalize (t.alloc (.cells #[.int .i64 (sz:Nat),.int .i64 pt] 66))=e7 at*;have A:FwSt w e7 (w.heap.size+1) w1.heap.size w4.heap.size K.heap.size (w4.heap.size+1) (((j:Nat):Int)+1) (at_:Nat) h x:=by rw[hj];exact z.out
   have Q:(λa=>a.cell? ⟨w1.heap.size,0,none⟩=some (.int .u64 (Zv h).base)/\a.cell? ⟨w1.heap.size,1,none⟩=some (.int .i64 (Zv h).cap)/\a.cell? ⟨w1.heap.size,2,none⟩=some (.int .i64 (Zv h).to)/\a.cell? ⟨w1.heap.size,3,none⟩=some (.int .i64 (Zv h).low)/\a.cell? ⟨w1.heap.size,4,none⟩=some (.int .i64 (Zv h).high)/\a.cell? ⟨w1.heap.size,5,none⟩=some (.int .i64 (Zv h).old)/\a.cell? ⟨w1.heap.size,6,none⟩=some (.int .i64 (Zv h).far)/\a.cell? ⟨t.heap.size,0,none⟩=some (.int .i64 (sz:Nat))/\FwSt w a (w.heap.size+1) w1.heap.size w4.heap.size K.heap.size (w4.heap.size+1) (((j:Nat):Int)+1) (at_:Nat) h x/\t.heap.size<a.heap.size) e7.drew:=⟨d 0,d 1,d 2,d 3,d 4,d 5,d 6,a7 0,A.drew,d5⟩
   have L:∀(u u':World),(λa=>a.cell? ⟨w1.heap.size,0,none⟩=some (.int .u64 (Zv h).base)/\a.cell? ⟨w1.heap.size,1,none⟩=some (.int .i64 (Zv h).cap)/\a.cell? ⟨w1.heap.size,2,none⟩=some (.int .i64 (Zv h).to)/\a.cell? ⟨w1.heap.size,3,none⟩=some (.int .i64 (Zv h).low)/\a.cell? ⟨w1.heap.size,4,none⟩=some (.int .i64 (Zv h).high)/\a.cell? ⟨w1.heap.size,5,none⟩=some (.int .i64 (Zv h).old)/\a.cell? ⟨w1.heap.size,6,none⟩=some (.int .i64 (Zv h).far)/\a.cell? ⟨t.heap.size,0,none⟩=some (.int .i64 (sz:Nat))/\FwSt w a (w.heap.size+1) w1.heap.size w4.heap.size K.heap.size (w4.heap.size+1) (((j:Nat):Int)+1) (at_:Nat) h x/\t.heap.size<a.heap.size) u->Below u.heap.size u u'->(λa=>a.cell? ⟨w1.heap.size,0,none⟩=some (.int .u64 (Zv h).base)/\a.cell? ⟨w1.heap.size,1,none⟩=some (.int .i64 (Zv h).cap)/\a.cell? ⟨w1.heap.size,2,none⟩=some (.int .i64 (Zv h).to)/\a.cell? ⟨w1.heap.size,3,none⟩=some (.int .i64 (Zv h).low)/\a.cell? ⟨w1.heap.size,4,none⟩=some (.int .i64 (Zv h).high)/\a.cell? ⟨w1.heap.size,5,none⟩=some (.int .i64 (Zv h).old)/\a.cell? ⟨w1.heap.size,6,none⟩=some (.int .i64 (Zv h).far)/\a.cell? ⟨t.heap.size,0,none⟩=some (.int .i64 (sz:Nat))/\FwSt w a (w.heap.size+1) w1.heap.size w4.heap.size K.heap.size (w4.heap.size+1) (((j:Nat):Int)+1) (at_:Nat) h x/\t.heap.size<a.heap.size) u':=by
    rintro u u' ⟨c0,c1,c2,c3,c4,c5,c6,c7,st,hs⟩ p;have hl:=st.lbB;have hz:=st.sz;exact⟨(p.cell Zcz).trans c0,(p.cell Zcz).trans c1,(p.cell Zcz).trans c2,(p.cell Zcz).trans c3,(p.cell Zcz).trans c4,(p.cell Zcz).trans c5,(p.cell Zcz).trans c6,(p.cell hs).trans c7,st.below p,by have:=p.size;omega⟩
   go_region_held3 (λa=>a.cell? ⟨w1.heap.size,0,none⟩=some (.int .u64 (Zv h).base)/\a.cell? ⟨w1.heap.size,1,none⟩=some (.int .i64 (Zv h).cap)/\a.cell? ⟨w1.heap.size,2,none⟩=some (.int .i64 (Zv h).to)/\a.cell? ⟨w1.heap.size,3,none⟩=some (.int .i64 (Zv h).low)/\a.cell? ⟨w1.heap.size,4,none⟩=some (.int .i64 (Zv h).high)/\a.cell? ⟨w1.heap.size,5,none⟩=some (.int .i64 (Zv h).old)/\a.cell? ⟨w1.heap.size,6,none⟩=some (.int .i64 (Zv h).far)/\a.cell? ⟨t.heap.size,0,none⟩=some (.int .i64 (sz:Nat))/\FwSt w a (w.heap.size+1) w1.heap.size w4.heap.size K.heap.size (w4.heap.size+1) (((j:Nat):Int)+1) (at_:Nat) h x/\t.heap.size<a.heap.size) (first|exact Q|assumption)
    (first|(go_at_call 48;refine(Mq HH.out.lay _).mono ?_;rintro e k0 ⟨rfl,M⟩;have h4:=L _ _ Q M))
   obtain⟨-,-,-,-,-,-,-,k8,n,j3⟩:=h4;clear Q A L a7 k2 j0 e5 d M d5;rename_i R;clear R;obtain⟨k3,j1,a6,g7,g8⟩:=n.F;rw[E0.out,E1.out,E2.out,E3.out,E4.out]at a6;have l:=n.now.own.own j Z0;rw[EP.out]at l;have i9:=RF l q;clear l hm h9 f5;have f:=Zdv n;clear n;have P:=h0.out;have X:=i7.out;have O:=g9.out;have a5:¬Xu (Zv h)< (sz:Int)+1:=Z0
   have N:fwd h v=(Tj h (((j:Nat):Int)+1) at_ H,Xq (Xt h (((j:Nat):Int)+1) at_ H) (((j:Nat):Int)+1) ((zr (Zu h j) at_ H).set at_ (Tj h (((j:Nat):Int)+1) at_ H)),0):=by
    first
    | (have k:j=2:=by omega
       subst k)
    | (have k:j=3:=by omega
       subst k)
    first
    |have B:h.old.getD at_ 0=I:=by show(Zu h 2).getD at_ 0=I;simp[List.getD,q]
    |have B:h.far.getD at_ 0=I:=by show(Zu h 3).getD at_ 0=I;simp[List.getD,q]
    have U:h.old.length=(Zu h 2).length:=rfl;have W:h.far.length=(Zu h 3).length:=rfl;subst P;simp only[fwd,hr,e9,h1,hf,Ze1,Ze3,ZeQ,ne_eq,Zh4];simp[-List.getD_eq_getElem?_getD,B,e8,d9,S,Tv,U,W,Zgx.2 O,a5];exact⟨rfl,rfl⟩
   have HC:=Zdv (Z0d k0 (w4.heap.size+1) K.heap.size h x f.out.now f.out.sz HH.out j at_ H Z0 Z0 Z0 Z0 g qj EP.out Z0 qm);have i5:=Zdv N;clear P X O N a5;have i6:=Zdv f.out.res
   go_wp2_with (first|(go_at_call 49;go_loud (refine HC.out.mono ?_;rintro e f2 ⟨x',rfl,Z,r⟩;have J:=(Z.block _ f.out.rbB).trans i6.out;have d0:=f.out.bel.trans (Z.mono (by have:=f.out.old;have:=f.out.rbB;omega));obtain⟨b0,r0,g0⟩:=YP (r.own.own 0 Z0);obtain⟨b1,r1,g1⟩:=YP (r.own.own 1 Z0);obtain⟨b2,r2,g2⟩:=YP (r.own.own 2 Z0);obtain⟨b3,r3,g3⟩:=YP (r.own.own 3 Z0);obtain⟨b4,r4,g4⟩:=YP (r.own.own 4 Z0);have e6:=r.blk;have e1:fwd h v=(Tj h (((j:Nat):Int)+1) at_ H,_,0):=i5.out;generalize o2:Tj h (((j:Nat):Int)+1) at_ H=to at*;generalize Xq (Xt h (((j:Nat):Int)+1) at_ H) (((j:Nat):Int)+1) ((zr (Zu h j) at_ H).set at_ to)=C at*;rw[g0,g1,g2,g3,g4]at e6)))
   have l7:∀j,f2.cell? ⟨w.heap.size+1,j,none⟩=YN[j]? :=λj=>ZdE _ _ _ _ _ _ J;unfold YN at l7;have n1:∀j,f2.frozen? ⟨w.heap.size+1,j,none⟩=false:=λj=>YD J;have m9:∀j,f2.cell? ⟨K.heap.size,j,none⟩=(#[.int .u64 C.base,.int .i64 C.cap,.int .i64 C.to,.bool C.cycle,.int .i64 C.scan,.slice b0 (Zu C 0).length r0,.slice b1 (Zu C 1).length r1,.slice b2 (Zu C 2).length r2,.slice b3 (Zu C 3).length r3,.slice b4 (Zu C 4).length r4]:Array Value)[j]? :=λj=>ZdE _ _ _ _ _ _ e6;have m6:=d0.size;have l9:w4.heap.size+1<=f2.heap.size:=by have:=Z.size;have:=f.out.sz;omega
   have f4:=Zdv r;have i4:=Zdv d0;have h3:=Zdv J;have G0:=Zdv g0;have G1:=Zdv g1;have G2:=Zdv g2;have G3:=Zdv g3;have G4:=Zdv g4;clear e6 r d0 Z J g0 g1 g2 g3 g4 k3 j1 a6 g7 g8;go_region
   all_goals
    go_wp2
    try simp only[Exit.inBlock,Exit.then]
    have y:=Te h3.out (.int .u64 C.base) (.int .i64 C.cap) (.int .i64 C.to) (.bool C.cycle) (.int .i64 C.scan) (.slice b0 (Zu C 0).length r0) (.slice b1 (Zu C 1).length r1) (.slice b2 (Zu C 2).length r2) (.slice b3 (Zu C 3).length r3) (.slice b4 (Zu C 4).length r4);rw[i5.out];refine Zeu (v:=.tuple #[.int .u64 to,Y1 C x',.int .i64 0]) ?_ rfl ?_
    ·unfold Y1;rw[G0.out,G1.out,G2.out,G3.out,G4.out];simp[results,Tryz.results18,go_sem,y]
    ·refine⟨x',rfl,?_,?_⟩
     ·exact(Td i4.out Z0 _ _ _ _ _ _ _ _ _ _).drew
     ·refine⟨λj hj=> ?_,f4.out.own.apart⟩;have ho:=f4.out.own.own j hj;refine zR (V3 ho ?_) ?_
      ·intro c hc;have n3:=(ho.lt c hc).1;exact Bm Z0 _ _ _ _ _ _ _ _ _ _
      ·intro c h1 h2;exact⟨Z0,h2⟩
def Og(w:World)(G:Nat->Prop)(y:∀b,G b->b<w.heap.size)(h:Hp)(t:h.ok)(f:Nat->Value)(B:∀j,j<5->Rd w G (.sl ((Zu h j).map vu)) (f j))(v:Int)(C:ZA v)
  (A:ZJ (Zv h)=true) (o:¬v=0) (x:(adr v).2=0) (h2:(Yc (Zv h) (adr v).1).2.2=0):
  Calls Sol.prog 18 #[Y1 h f,.int .u64 v] w (Je w (fwd h v)):=by
 obtain⟨_,K,L,M,D,_⟩:=Z0L h2;rw[UG ⟨K,L⟩]at D;obtain⟨k,J⟩:=Zdz M;have z:Yc (Zv h) (adr v).1=((Yc (Zv h) (adr v).1).1,(k:Int),0):=by rw[<-J,<-h2]
 rw[J]at D;generalize (Yc (Zv h) (adr v).1).1=part at*;have:(part=1\/part=2)\/(part=3\/part=4):=Z0;obtain r|r:=this
 ·exact Oi w G y h t f B v C A o x part k z r
 ·obtain⟨j,F,I⟩:∃j:Nat,((j:Nat):Int)+1=part/\Zz h part=Zu h j:=by
   obtain rfl|rfl:=r
   ·exact⟨2,rfl,rfl⟩
   ·exact⟨3,rfl,rfl⟩
  have d:=(YZ t part).1;rw[I]at D d;have g:k< (Zu h j).length:=Z0;have q:(Zu h j)[k]?=some (Zu h j)[k]:=Zdk g;replace d:=d _ (ZdA g);generalize (Zu h j)[k]=l at*;by_cases p:(adr l).2=0
  ·exact Oh w G y h t f B v C A o x part k z j F r l q g d p
  by_cases a:(ZO l).2.2=0
  ·have P:=Yf.1 (KW (w:=l) a);obtain⟨n,O⟩:=Zdz P.1;refine CP w G y h t f B v C A o x part k z j F r l q g d p n (ZO l).2.1 (ZO l).2.2 (by rw[<-O]) Z0 ?_;by_cases H:(Zu h j).length<k+(n+1)
   ·exact .inr (.inl ⟨a,H⟩)
   by_cases u:Xu (Zv h)< ((n+1:Nat):Int)
   ·exact .inr (.inr (.inl ⟨a,Z0,u⟩))
   ·exact .inr (.inr (.inr ⟨a,Z0,u⟩))
  ·have N:ZO l=(((0:Nat):Int),(ZO l).2.1,(ZO l).2.2):=by
    unfold ZO at a⊢;split
    ·rename_i c;rw[if_pos c]at a;exact absurd rfl a
    ·rfl
   exact CP w G y h t f B v C A o x part k z j F r l q g d p 0 _ _ N Z0 (.inl a)
end Vm
namespace Vm
open Go Go.Proofs Go.RowKit
def Oj(w:World)(G:Nat->Prop)(t:∀b,G b->b<w.heap.size)(h:Hp)(hh:h.ok)(a:Nat->Value)(hs:∀j,j<5->Rd w G (.sl ((Zu h j).map vu)) (a j))(v:Int)(T:ZA v):
  Calls Sol.prog 18 #[Y1 h a,.int .u64 v] w (Je w (fwd h v)):=by
 have M:=Zdv hs;have K:=Zdv hh;clear hs hh;by_cases z:ZJ (Zv h)=true/\¬v=0/\(adr v).2=0/\(Yc (Zv h) (adr v).1).2.2=0
 ·exact Og w G t h K.out a M.out v T z.1 z.2.1 z.2.2.1 z.2.2.2
 unfold Y1;go_enter Sol.func18,Tryz.ntmps18;cases D:ZJ (Zv h)
 ·go_wp2_with (first
   |(go_at_call 42;refine(Tm (h:=h) (x:=a) (G:=G) (λc H=>by have:=t c H;simp;omega) (λj A=>(M.out j A).keep (λb u=>by have:=t b u;rw[Zds _ _ _ (by simp;omega),Zds _ _ _ (by omega)]) (λ_ h=>h))).mono ?_;rintro e w1 ⟨rfl,d⟩;unfold Vg;have L:=(d.block (w.heap.size+1) (by simp)).trans (Q2 w _);have q:=d.size;simp at q;have n:=Zdv d;clear d)
   |(go_at_call 43;refine(RM K.out.lay _).mono ?_;rintro e w2 ⟨rfl,f⟩;rw[D];have I:=(f.block (w.heap.size+1) (by simp;omega)).trans ((Zds w1 _ (w.heap.size+1) (by omega)).trans L);have y2:∀j,w2.cell? ⟨w.heap.size+1,j,none⟩=YN[j]? :=λj=>ZdE _ _ _ _ _ _ I;have f2:∀j,w2.frozen? ⟨w.heap.size+1,j,none⟩=false:=λj=>YD I;unfold YN at y2;have U:=Zdv f;clear f))
  have y:=Te I (.int .u64 0) (.int .i64 0) (.int .i64 0) (.bool false) (.int .i64 0) (.slice none 0 0) (.slice none 0 0) (.slice none 0 0) (.slice none 0 0) (.slice none 0 0);refine Zeu (v:=.tuple #[.int .u64 0,.agg YN,.int .i64 1]) Zd8 rfl ⟨λ_=>.slice none 0 0,?_,Td ?_ Z0 _ _ _ _ _ _ _ _ _ _,?_⟩
  ·simp[fwd,D,Y1,Hp.zero,YN]
  ·exact((((((ZdZ _ _).alloc (Zdp _) _).alloc Z1 _).trans (n.out.mono Zcr)).alloc Z0 _).trans (U.out.mono Zcr))
  ·have:(fwd h v).2.1=Hp.zero:=by simp[fwd,D]
   rw[this];exact Jb _ _
 ·by_cases Q:v=0
  ·subst Q
   go_wp2_with (first
    |(go_at_call 42;refine(Tm (h:=h) (x:=a) (G:=G) (λc H=>by have:=t c H;simp;omega) (λj A=>(M.out j A).keep (λb u=>by have:=t b u;rw[Zds _ _ _ (by simp;omega),Zds _ _ _ (by omega)]) (λ_ h=>h))).mono ?_;rintro e w1 ⟨rfl,d⟩;unfold Vg;have L:=(d.block (w.heap.size+1) (by simp)).trans (Q2 w _);have O:=(d.block w.heap.size (by simp;omega)).trans ((Zds (w.alloc (.cells #[.int .u64 h.base,.int .i64 h.cap,.int .i64 h.to,.bool h.cycle,.int .i64 h.scan,a 0,a 1,a 2,a 3,a 4] 25)) _ w.heap.size (by simp)).trans (ZdO w _));have q:=d.size;simp at q;have n:=Zdv d;clear d)
    |(go_at_call 43;refine(RM K.out.lay _).mono ?_;rintro e w2 ⟨rfl,f⟩;rw[D];have I:=(f.block (w.heap.size+1) (by simp;omega)).trans ((Zds w1 _ (w.heap.size+1) (by omega)).trans L);have p2:=(f.block w.heap.size (by simp;omega)).trans ((Zds w1 _ w.heap.size (by omega)).trans O);have x2:∀j,w2.cell? ⟨w.heap.size,j,none⟩=(#[.int .u64 h.base,.int .i64 h.cap,.int .i64 h.to,.bool h.cycle,.int .i64 h.scan,a 0,a 1,a 2,a 3,a 4]:Array Value)[j]? :=λj=>ZdE _ _ _ _ _ _ p2;have k:Below w.heap.size w w2:=((((((ZdZ _ _).alloc (Zdp _) _).alloc (by simp) _).trans (n.out.mono (by simp;omega))).alloc (by omega) _).trans (f.mono (by simp;omega)));have B:=f.size;simp at B;have l:=Zdv k;clear f k)
    |(go_at_call 44;refine(L3 _ G (λb u=>by have:=t b u;omega) h K.out a (λj A=>(M.out j A).keep (λb u=>l.out.block b (t b u)) (λ_ h=>h))).mono ?_;rintro e w3 ⟨x,rfl,g,p⟩;obtain⟨a0,q0,Z⟩:=YP (p.own 0 Z0);obtain⟨a1,q1,e1⟩:=YP (p.own 1 Z0);obtain⟨a2,q2,e2⟩:=YP (p.own 2 Z0);obtain⟨a3,q3,e3⟩:=YP (p.own 3 Z0);obtain⟨a4,q4,e4⟩:=YP (p.own 4 Z0);unfold Y1;rw[Z,e1,e2,e3,e4];have C:=(g.block (w.heap.size+1) Z0).trans I;have P:∀j,w3.cell? ⟨w.heap.size+1,j,none⟩=YN[j]? :=λj=>ZdE _ _ _ _ _ _ C;have f3:∀j,w3.frozen? ⟨w.heap.size+1,j,none⟩=false:=λj=>YD C;unfold YN at P;have r:=Zdv g;have N:=Zdv p;clear g p))
   have y:=Te C (.int .u64 h.base) (.int .i64 h.cap) (.int .i64 h.to) (.bool h.cycle) (.int .i64 h.scan) (.slice a0 (Zu h 0).length q0) (.slice a1 (Zu h 1).length q1) (.slice a2 (Zu h 2).length q2) (.slice a3 (Zu h 3).length q3) (.slice a4 (Zu h 4).length q4);have J:fwd h 0=(0,h,0):=by simp[fwd,D]
   refine Zeu (v:=.tuple #[.int .u64 0,Y1 h x,.int .i64 0]) (by unfold Y1;rw[Z,e1,e2,e3,e4];simp[results,Tryz.results18,go_sem,y]) rfl ⟨x,?_,Td (l.out.trans (r.out.mono Z0)) Z0 _ _ _ _ _ _ _ _ _ _,?_⟩
   ·rw[J]
   ·rw[J];refine⟨λj A=> ?_,N.out.apart⟩;have ho:=N.out.own j A;refine zR (B':=w2.heap.size) (V3 ho λc H=>IP (by have:=(ho.lt c H).1;omega) _ _ _ _ _ _ _ _ _ _) (λc R S=>⟨Z0,S⟩)
  ·have X:¬(v=0):=Q;by_cases R:(adr v).2=0
   ·by_cases S:(Yc (Zv h) (adr v).1).2.2=0
    ·exact(z ⟨D,X,R,S⟩).elim
    ·go_wp2_with (first
     |(go_at_call 42;refine(Tm (h:=h) (x:=a) (G:=G) (λc H=>by have:=t c H;simp;omega) (λj A=>(M.out j A).keep (λb u=>by have:=t b u;rw[Zds _ _ _ (by simp;omega),Zds _ _ _ (by omega)]) (λ_ h=>h))).mono ?_;rintro e w1 ⟨rfl,d⟩;unfold Vg;have L:=(d.block (w.heap.size+1) (by simp)).trans (Q2 w _);have O:=(d.block w.heap.size (by simp;omega)).trans ((Zds (w.alloc (.cells #[.int .u64 h.base,.int .i64 h.cap,.int .i64 h.to,.bool h.cycle,.int .i64 h.scan,a 0,a 1,a 2,a 3,a 4] 25)) _ w.heap.size (by simp)).trans (ZdO w _));have q:=d.size;simp at q;have n:=Zdv d;clear d)
     |(go_at_call 43;refine(RM K.out.lay _).mono ?_;rintro e w2 ⟨rfl,f⟩;rw[D];have I:=(f.block (w.heap.size+1) (by simp;omega)).trans ((Zds w1 _ (w.heap.size+1) (by omega)).trans L);have p2:=(f.block w.heap.size (by simp;omega)).trans ((Zds w1 _ w.heap.size (by omega)).trans O);have x2:∀j,w2.cell? ⟨w.heap.size,j,none⟩=(#[.int .u64 h.base,.int .i64 h.cap,.int .i64 h.to,.bool h.cycle,.int .i64 h.scan,a 0,a 1,a 2,a 3,a 4]:Array Value)[j]? :=λj=>ZdE _ _ _ _ _ _ p2;have k:Below w.heap.size w w2:=((((((ZdZ _ _).alloc (Zdp _) _).alloc (by simp) _).trans (n.out.mono (by simp;omega))).alloc (by omega) _).trans (f.mono (by simp;omega)));have B:=f.size;simp at B;have m2:=(f.block w1.heap.size (by simp)).trans (ZdO w1 _);have l:=Zdv k;clear f k)
     |(go_at_call 29;refine(VK T _).mono ?_;rintro e w3 ⟨rfl,g⟩;have C:=(g.block (w.heap.size+1) (by omega)).trans I;have P:∀j,w3.cell? ⟨w.heap.size+1,j,none⟩=YN[j]? :=λj=>ZdE _ _ _ _ _ _ C;have f3:∀j,w3.frozen? ⟨w.heap.size+1,j,none⟩=false:=λj=>YD C;unfold YN at P;have m3:=(g.block w1.heap.size (by omega)).trans m2;have l3:∀j,w3.cell? ⟨w1.heap.size,j,none⟩=(#[.int .u64 (Zv h).base,.int .i64 (Zv h).cap,.int .i64 (Zv h).to,.int .i64 (Zv h).low,.int .i64 (Zv h).high,.int .i64 (Zv h).old,.int .i64 (Zv h).far]:Array Value)[j]? :=λj=>ZdE _ _ _ _ _ _ m3;have a5:=g.size;have r:=Zdv g;clear g)
     |(go_at_call 45;refine(Lx K.out.lay (L8 T) _).mono ?_;rintro e w4 ⟨rfl,F⟩;have a6:=F.size;have Y:∀o,(w4.alloc o).heap[w.heap.size+1]?=some (.cells YN 25 (0,0)):=λo=>(Zds w4 o (w.heap.size+1) (by omega)).trans ((F.block (w.heap.size+1) (by omega)).trans C);have y4:∀o j,(w4.alloc o).cell? ⟨w.heap.size+1,j,none⟩=YN[j]? :=λo j=>ZdE _ _ _ _ _ _ (Y o);have f4:∀o j,(w4.alloc o).frozen? ⟨w.heap.size+1,j,none⟩=false:=λo j=>YD (Y o);unfold YN at y4;have W:=Zdv F;clear F))
     have y:=Te (Y (.cells #[.int .i64 (Yc (Zv h) (adr v).1).1,.int .i64 (Yc (Zv h) (adr v).1).2.1] 92)) (.int .u64 0) (.int .i64 0) (.int .i64 0) (.bool false) (.int .i64 0) (.slice none 0 0) (.slice none 0 0) (.slice none 0 0) (.slice none 0 0) (.slice none 0 0);have J:fwd h v=(0,Hp.zero,6):=by simp[fwd,D,Q,R,S]
     refine Zeu (v:=.tuple #[.int .u64 0,.agg YN,.int .i64 6]) Zd8 rfl ⟨λ_=>.slice none 0 0,?_,Td (((l.out.trans (r.out.mono Z0)).trans (W.out.mono Z0)).alloc Z0 _) Z0 _ _ _ _ _ _ _ _ _ _,?_⟩
     ·rw[J];simp[Y1,Hp.zero,YN]
     ·rw[J];exact Jb _ _
   ·go_wp2_with (first
    |(go_at_call 42;refine(Tm (h:=h) (x:=a) (G:=G) (λc H=>by have:=t c H;simp;omega) (λj A=>(M.out j A).keep (λb u=>by have:=t b u;rw[Zds _ _ _ (by simp;omega),Zds _ _ _ (by omega)]) (λ_ h=>h))).mono ?_;rintro e w1 ⟨rfl,d⟩;unfold Vg;have L:=(d.block (w.heap.size+1) (by simp)).trans (Q2 w _);have O:=(d.block w.heap.size (by simp;omega)).trans ((Zds (w.alloc (.cells #[.int .u64 h.base,.int .i64 h.cap,.int .i64 h.to,.bool h.cycle,.int .i64 h.scan,a 0,a 1,a 2,a 3,a 4] 25)) _ w.heap.size (by simp)).trans (ZdO w _));have q:=d.size;simp at q;have n:=Zdv d;clear d)
    | (go_at_call 43;refine(RM K.out.lay _).mono ?_;rintro e w2 ⟨rfl,f⟩;rw[D];have I:=(f.block (w.heap.size+1) (by simp;omega)).trans ((Zds w1 _ (w.heap.size+1) (by omega)).trans L);have p2:=(f.block w.heap.size (by simp;omega)).trans ((Zds w1 _ w.heap.size (by omega)).trans O);have x2:∀j,w2.cell? ⟨w.heap.size,j,none⟩=(#[.int .u64 h.base,.int .i64 h.cap,.int .i64 h.to,.bool h.cycle,.int .i64 h.scan,a 0,a 1,a 2,a 3,a 4]:Array Value)[j]? :=λj=>ZdE _ _ _ _ _ _ p2;have k:Below w.heap.size w w2:=((((((ZdZ _ _).alloc (Zdp _) _).alloc (by simp) _).trans (n.out.mono (by simp;omega))).alloc (by omega) _).trans (f.mono (by simp;omega)));have B:=f.size;simp at B;have l:=Zdv k;clear f k)
      |(go_at_call 29;refine(VK T _).mono ?_;rintro e w3 ⟨rfl,g⟩;have C:=(g.block (w.heap.size+1) (by omega)).trans I;have P:∀j,w3.cell? ⟨w.heap.size+1,j,none⟩=YN[j]? :=λj=>ZdE _ _ _ _ _ _ C;have f3:∀j,w3.frozen? ⟨w.heap.size+1,j,none⟩=false:=λj=>YD C;unfold YN at P;have r:=Zdv g;clear g))
    have y:=Te C (.int .u64 0) (.int .i64 0) (.int .i64 0) (.bool false) (.int .i64 0) (.slice none 0 0) (.slice none 0 0) (.slice none 0 0) (.slice none 0 0) (.slice none 0 0);have J:fwd h v=(0,Hp.zero,3):=by simp[fwd,D,Q,R]
    refine Zeu (v:=.tuple #[.int .u64 0,.agg YN,.int .i64 3]) Zd8 rfl ⟨λ_=>.slice none 0 0,?_,Td (l.out.trans (r.out.mono Z0)) Z0 _ _ _ _ _ _ _ _ _ _,?_⟩
    ·rw[J];simp[Y1,Hp.zero,YN]
    ·rw[J];exact Jb _ _
end Vm
namespace Vm
open Go Go.Proofs Go.RowKit
def Ks{w:World}{G:Nat->Prop}{k:IntKind}{n:Int}{v:Value}(r:Rd w G (.int k n) v):v=.int k n:=by cases r;rfl
def Z5s{w:World}{G:Nat->Prop}{b:Bool}{v:Value}(r:Rd w G (.bool b) v):v=.bool b:=by cases r;rfl
def Z1q{w:World}{G:Nat->Prop}{h:Hp}{v:Value}(r:Rd w G (ZD h) v):∃f,v=Y1 h f/\∀j,j<5->Rd w G (.sl ((Zu h j).map vu)) (f j):=by
 cases r with
 |agg _ vs t _ a=>
  refine⟨λj=>vs.getD (5+j) undef,?_,?_⟩
  ·have g:=Ks (a 0 _ rfl);have k:=Ks (a 1 _ rfl);have l:=Ks (a 2 _ rfl);have n:=Z5s (a 3 _ rfl);have o:=Ks (a 4 _ rfl);have d:vs.size=10:=t;unfold Y1;rw[<-g,<-k,<-l,<-n,<-o];congr 1;apply ZgX
   ·simp[d]
   ·intro i u x;have p:i<10:=Z0
    match i,p with
    |0,_|1,_|2,_|3,_|4,_|5,_|6,_|7,_|8,_|9,_=>simp[Array.getD,d]
  ·intro j q
   match j,q with
   |0,_=>exact a 5 _ rfl
   |1,_=>exact a 6 _ rfl
   |2,_=>exact a 7 _ rfl
   |3,_=>exact a 8 _ rfl
   |4,_=>exact a 9 _ rfl
def Z1p{w:World}{G:Nat->Prop}{h:Hp}{x:Nat->Value}(d:∀j,j<5->Rd w G (.sl ((Zu h j).map vu)) (x j)):Rd w G (ZD h) (Y1 h x):=by
 refine .agg _ _ rfl (by simp[V.one]) ?_;intro i y a
 match i,a with
 |0,a=>cases a;exact .int _ _
 |1,a=>cases a;exact .int _ _
 |2,a=>cases a;exact .int _ _
 |3,a=>cases a;exact .bool _
 |4,a=>cases a;exact .int _ _
 |5,a=>cases a;exact d 0 Z0
 |6,a=>cases a;exact d 1 Z0
 |7,a=>cases a;exact d 2 Z0
 |8,a=>cases a;exact d 3 Z0
 |9,a=>cases a;exact d 4 Z0
def Z14:SY:=by
 intro h v p u;refine⟨Z2,λw G vs o a f=> ?_⟩;have r0:=f 0 _ rfl;have n:=f 1 _ rfl;obtain⟨⟨l⟩⟩:=vs
 ·simp at a
 rename_i v0 l;cases l with
 |nil=>simp at a
 |cons v1 l=>
  cases l with
  |cons _ _=>simp at a
  |nil=>
   simp at r0 n;obtain⟨k,rfl,t⟩:=Z1q r0;have:=Ks n;subst this;refine(Oj w G o h p k t v u).mono ?_;rintro e z ⟨x,rfl,g,r⟩;refine⟨_,rfl,g,?_⟩;refine .tup _ _ rfl ?_;intro i y d
   match i,d with
   |0,d=>cases d;exact .int _ _
   |1,d=>cases d;exact Z1p λj q=>H8 (r.own j q) λb g _=>.inr ⟨g,by assumption⟩
   |2,d=>cases d;exact .int _ _
end Vm
end
section
namespace Vm
open Go Go.Conc Go.ConcN
section
section
variable {P:Z4}{Stop:Z9}{b:Zf}{k:Zi}{cs:Z5}{a:Act}{w:Z3}
def Walk.two{x y:Code}(h:Walk P Stop (b.at a (.code x:: .code y::k)) cs w):Walk P Stop (b.at a (.code (.seq x y)::k)) cs w:=.go (λw=>stepG_seq) h
def Walk.region{id:Nat}{ops:Zq}(h:Walk P Stop (b.at a (.inRegion ops (List.range ops.size)::k)) cs w):Walk P Stop (b.at a (.code (.region id ops false)::k)) cs w:=.go (λw=>stepG_region) h
def Walk.regEnd{ops:Zq}(h:Walk P Stop (b.at a k) cs w):Walk P Stop (b.at a (.inRegion ops []::k)) cs w:=.go (λw=>stepG_region_end) h
def Walk.val{ops:Zq}{i:Nat}{rest:Zd}{o:Oper}{v:Z7}(q:ops[i]?=some o)(r:Region.wanted o (yielded ops a.tmps)=true)(p:b.kind≠.early)(n:Qf P o.op=true)(j:∀g:Z3,g.heap=w.heap->(execOp a.eval o).run P g=.ok (.value v) g)
  (h:Walk P Stop (b.at (a.put o.dst v) (.inRegion ops rest::k)) cs w):Walk P Stop (b.at a (.inRegion ops (i::rest)::k)) cs w:=by
 refine .one λd=> ?_;have f:EvsB (Ya ((execOp a.eval o).run P (w.at d))).heap.size (listed P b.fn a o (w.at d)):=λe l=>Ea n a (w.at d) e (mem_listed l);rw[j (w.at d) rfl]at f;exact⟨_,_,_,_,stepG_value q r p (j (w.at d) rfl),Zdp _,f,h.at d⟩
def Walk.chan{ops:Zq}{i:Nat}{rest:Zd}{o:Oper}{t p:Z8}{dir:ChanDir}{inf:TypeInfo}{f:Zl}(z:ops[i]?=some o)(B:Region.wanted o (yielded ops a.tmps)=true)(y:b.kind≠.early)(j:o.op=.makeChan t (.const (.int f 0)))(l:P.underlying t=some (.chan dir p))(g:P.info? p=some inf)
  (h:Walk P Stop (b.at (a.put o.dst (.chan (some w.heap.size))) (.inRegion ops rest::k)) cs (w.alloc (.chan 0 #[] false 0 0 false))):Walk P Stop (b.at a (.inRegion ops (i::rest)::k)) cs w:=by
 refine .one λd=> ?_;have n:execOp a.eval o=(do pure (.value (<-Instr.makeChan t (.int f (0:Nat)))):Sem Next):=by unfold execOp;simp only[j];rfl
 have A:(execOp a.eval o).run P (w.at d)=.ok (.value (.chan (some w.heap.size))) ((w.alloc (.chan 0 #[] false 0 0 false)).at d):=by
  rw[n];simp only[ZdX,run_makeChan (w:=w.at d) l g f 0 Z0 Z0,ZdR];rfl
 have x:(execOp a.eval o).events P (w.at d) #[]=#[]:=by
  rw[n];have q:=events_makeChan (P:=P) (w:=w.at d) l g f 0 Z0 Z0 #[]
  have r:(Instr.makeChan t (.int f (0:Nat))).runT P (w.at d) #[]=(.ok (.chan (some w.heap.size)) ((w.alloc (.chan 0 #[] false 0 0 false)).at d), #[]):=by
   refine ZfI ?_ q;rw[Zfm];exact run_makeChan (w:=w.at d) l g f 0 Z0 Z0
  show((Sem.bind _ _).runT P (w.at d) #[]).2=_;rw[Zfs,r];rfl
 refine⟨_,_,_,_,stepG_value z B y A,by show w.heap.size<=(w.alloc _).heap.size;simp,λe u=> ?_,h.at d⟩;have:=mem_listed u;simp_all
def Walk.fork{fr D:Zf}{l:Zj}(T:∀w:Z3,stepG P true (G fr cs) w=.spawn (G D cs) l w #[])
  (H:∀(n d:Nat) (gs:Zg) (sl:Option (Nat×Nat)) (t:Trace) (q:Zb),0<n->gs.size=n+1->gs[0]?=some (G D cs)->gs[n]?=some l->YI P n gs q->(∀Y Z M,TI n Y Z M w.heap.size t)->Win P (CJ P Stop) gs (w.at d) sl t):Walk P Stop fr cs w:=by
 intro d0 gs sl t q hl N r
 have R:∀(f:Zg) g,f[f.size]? ≠some g:=λf g e=>by
  simp_all
 refine skip hl (λi g O z=> ?_) ⟨0,_,.inl rfl,N,rfl⟩ λf d L q' i g a1 B Q O a2 a0=> ?_
 ·obtain rfl|rfl:=O
  ·rw[N]at z;cases z;exact⟨awake_of (.inl rfl),λg1 g2 d=>woken_run rfl⟩
  simp_all
 ·obtain rfl|rfl:=O
  ·have F:f[0]?=some (G fr cs):=by rw[B 0 (.inl rfl)];exact N
   have J:0<f.size:=(Zdq.1 F).1;have A:=runT_crowd_spawn (P:=P) (sl:=L) (i:=0) (w:=w.at d) F (T (w.at d));refine⟨_,_,_,_,A,?_⟩;generalize hx:({g:=0,fn:=(G fr cs).frame.fn,pos:=(G fr cs).frame.place,act:=.go f.size}:MemOp)=x;generalize hy:({g:=f.size,fn:=l.frame.fn,pos:=(G fr cs).frame.place,act:=.start}:MemOp)=y;have I:((MemOp.ofEvents 0 (G fr cs).frame.fn (G fr cs).frame.place #[]).push x).push y=#[x,y]:=by simp[MemOp.ofEvents]
   rw[I];have U:x.g=0/\x.act=.go f.size:=by rw[<-hx];exact⟨rfl,rfl⟩
   have W:y.g=f.size/\y.act=.start:=by rw[<-hy];exact⟨rfl,rfl⟩
   refine H f.size d _ L _ q' J Z1 ?_ Zcp (λj g hj a3 z=> ?_) λY Z M=> ?_
   ·grind
   ·rw[Zfz]at z;simp only[Zfw]at z;rw[if_neg Z0,Zed Z0]at z;exact Q j g hj Z0 z
   ·have t0:TI f.size (λ_=>True) (λ_=>False) M w.heap.size t:=⟨r.clean,r.hears,r.low,λi op x p o C=>.inl (r.known i op x p o C),λi op x p o C=>.inr (.inr ⟨λ_=>by simp_all[Gg,trivial],λb _ h=>h⟩)⟩
    have X:=t0.comm (Zdp _) #[x,y] (λop S=>by
     have:op=x\/op=y:=by simpa using S
     obtain rfl|rfl:=this
     ·simp_all[MemAct.touch?]
     simp_all[MemAct.touch?])
    have K:∀(i:Nat) (op:MemOp) (u:Touch),(t++ #[x,y])[i]?=some op->op.act.touch?=some u->t[i]?=some op:=λi op u p o=>by
     obtain⟨_,h⟩|⟨_,h⟩:=getElem?_append_cases p
     ·exact h
     ·have:op=x\/op=y:=by simpa using h
      obtain rfl|rfl:=this
      ·simp_all[MemAct.touch?]
      simp_all[MemAct.touch?]
    refine⟨X.clean,X.hears,X.low,λi op u p o C=>.inl ((r.known i op u (K i op u p o) o C).app _),λi op u p o C=>.inr (.inl ?_)⟩;exact fork_knows U W (r.hears 0) (r.hears _) (r.known i op u (K i op u p o) o C)
  simp_all
def Walk.meet{fr p:Zf}{f:Zj}{c:Nat}{KA KB OA0:Z6}{StopA:(Nat->Prop)->Goroutine->World->Prop}{vs:Zk}{z:Z7}(D:∀w:Z3,stepG P true (G fr cs) w=.spawn (G p cs) f w #[])
  (O:Play P true c KA StopA (vs.map .recv++[.closed z]) OA0 (G p cs) w) (Q:Play P false c KB (Uk P c) (vs.map .send) (λ_=>False) f w) (r:w.heap[c]?=some (.chan 0 #[] false 0 0 false))
  (la:∀b,OA0 b->b<w.heap.size) (ka:∀b,KA b->b<w.heap.size) (kb:∀b,KB b->b<w.heap.size) (I:∀b,OA0 b->¬KB b) (M:¬OA0 c) (y:¬KA c) (A:¬KB c)
  (u:∀x a j,StopA x a j->w.heap.size<=j.heap.size->j.tape=w.tape->(j.os,j.output)=(w.os,w.output)->(∀b,x b->(OA0 b\/w.heap.size<=b)/\b<j.heap.size)->(∀b,b<w.heap.size->¬OA0 b->b≠c->j.heap[b]?=w.heap[b]?)->∃o l,a=G o l/\Walk P Stop o l j):Walk P Stop fr cs w:=by
 refine .fork D λn d gs sl t q U F N C T H=> ?_
 have R:Cfg P n c KA KB OA0 (w.at d) OA0 (λ_=>False) gs (w.at d) t q:=
  ⟨U,T,H _ _ _,la,λ_ h=>h.elim,ka,kb,λ_ _ h=>h,I,M,y,A,(Zdq.1 r).1,Zdp _,rfl,rfl,λ_ h=>.inl h,λ_ h=>h.elim,λ_ _ _ _=>rfl⟩
 have W:=(Z4B (P:=P) (n:=n) (KB:=KB) (OA0:=OA0) (w0:=w.at d) O).opn vs z (λ_=>False) f gs (w.at d) sl t q 0 0 false rfl R F N C (Rely.at _ _ _ d) (.run (Q.rely (Rely.at _ _ _ d))) r;refine W.bind λB w1 J t1 ⟨L,x,OB,q1,X,k1,Y,g,Z,k5⟩=> ?_;obtain⟨o,l,rfl,S⟩:=u x L w1 Y g.b0 g.tape g.os (λb K=>⟨g.oa b K,g.la b K⟩) g.fr;exact S w1.drawn B J t1 q1 Z X ⟨g.ti.clean,g.ti.hears,g.ti.low,k5⟩
end
end
end Vm
end
section
namespace Vm
open Go Go.Conc
section
section
variable {Q:Z4}{c:Nat}{Post:Z9}{es:Zco}{fr fr':Zf}{cs cs':Z5}{w w':Z3}
def LS.steps:∀ {es:Zco} {fr fr':Zf} {cs cs':Z5} {w w':Z3},Steps Q (lone fr (cs++[YO Q]) w) (lone fr' (cs'++[YO Q]) w')->LS Q c Post es fr' cs' w'->LS Q c Post es fr cs w
 | [],_,_,_,_,_,_,h,⟨n,d,c2,w2,f,g⟩=>let⟨m,j⟩:=Steps.trans h ⟨n,f⟩;⟨m,d,c2,w2,j,g⟩
 |e::es,_,_,_,_,_,_,h,⟨n,d,c2,w2,f,g⟩=>let⟨m,j⟩:=Steps.trans h ⟨n,f⟩;⟨m,d,c2,w2,j,g⟩
def LS.ev{e:Ev}(h:Vq Q c e fr)(k:LS Q c Post es (Xv e fr) cs w):LS Q c Post (e::es) fr cs w:=⟨0,fr,cs,w,rfl,h,k⟩
def LS.now(h:Post fr cs w):LS Q c Post [] fr cs w:=⟨0,fr,cs,w,rfl,h⟩
end
def CA{P:Z4}{ops:Zq}{w:Z3}{Q g:Act->Prop}(h:∀a,Q a->g a):∀(l:List Oper) (a:Act),wpStill P ops w Q l a->wpStill P ops w g l a
 | [],a,d=>h a d
 |o::l,a,d=>by
  simp only[wpStill]at d⊢;split
  ·rename_i f;rw[if_pos f]at d;exact Oper.still_mono (λa=>CA h l a) d
  ·rename_i f;rw[if_neg f]at d;exact CA h l _ d
def Yp:Code->List Nat->Code
 |c,[]=>c
 |.seq a _,0::l=>Yp a l
 |.seq _ b,_::l=>Yp b l
 |.cond _ a _,0::l=>Yp a l
 |.cond _ _ b,_::l=>Yp b l
 |.block _ a,_::l=>Yp a l
 |.loop a,_::l=>Yp a l
 |.scope a,_::l=>Yp a l
 |c,_=>c
def Ka:Code->Array Oper
 |.region _ ops _=>ops
 |_=> #[]
def qk(Q:Z4)(c:Nat)(Post:Z9)(es:Zco)(b:Zf)(k:Zi)(cs:Z5):Exit->Act->World->Prop
 |.normal,a,w=>LS Q c Post es (b.at a k) cs w
 |.exit id,a,w=>∃k',exitTo id k=some k'/\LS Q c Post es (b.at a k') cs w
 |.ret,a,w=>∀d,LS Q c Post es {b.at a d with mode:=.returning} cs w
 |_,_,_=>False
def SC(Q:Z4)(c:Nat)(x:Code)(R:List Ev->Exit->Act->World->Prop)(es:Zco)(a:Act)(w:Z3):Prop:=
 ∀(Post:Z9) (b:Zf) (k:Zi) (cs:Z5),(∀d e f w',R d e f w'->qk Q c Post d b k cs e f w')->LS Q c Post es (b.at a (.code x::k)) cs w
def ST(Q:Z4)(c:Nat)(ops:Zq)(R:List Ev->Exit->Act->World->Prop)(l:Zd)(es:Zco)(a:Act)(w:Z3):Prop:=
 ∀(Post:Z9) (b:Zf) (k:Zi) (cs:Z5),(∀d e f w',R d e f w'->qk Q c Post d b k cs e f w')->LS Q c Post es (b.at a (.inRegion ops l::k)) cs w
section
variable {Q:Z4}{c:Nat}{R R':List Ev->Exit->Act->World->Prop}{es:Zco}{a:Act}{w:Z3}{x y:Code}
variable {ops:Zq}{l:Zd}
def SC.draw{id:Nat}(h:∀t,ST Q c ops R (Region.schedule (Q.follows .mixedOrders) ops t) es a {w with drawn:=w.drawn+1}):SC Q c (.region id ops true) R es a w:=λPost b k cs d=>LS.steps (.one step_region_draw) (h _ Post b k cs d)
def ST.nil(h:R es .normal a w):ST Q c ops R [] es a w:=λPost b k cs d=>LS.steps (.one step_region_end) (d _ _ _ _ h)
def ST.omit{i:Nat}(g:((ops[i]?).map (Region.wanted · (yielded ops a.tmps))).getD false=false)(f:ST Q c ops R l es (a.put ((ops[i]?).bind (·.dst)) undef) w):ST Q c ops R (i::l) es a w:=λPost b k cs d=>
 LS.steps (.one (step_op_skip g)) (f Post b k cs d)
def ST.still{i:Nat}{K:Act->Prop}(h:stOp Q ops w i K a)(t:∀a,K a->ST Q c ops R l es a w):ST Q c ops R (i::l) es a w:=by
 unfold stOp at h;cases q:ops[i]? with
 |none=>
  rw[q]at h;refine .omit (by simp[q]) ?_;simp_all[Option.bind_none,Act.put]
 |some o=>
  rw[q]at h;dsimp only at h;by_cases u:Region.wanted o (yielded ops a.tmps)=true
  ·rw[if_pos u]at h;unfold Oper.still at h;intro Post b k cs r;have B:=stepG_op (P:=Q) (b:=b) (k:=k) (cs:=cs++[YO Q]) (w:=w) (rest:=l) q u;have z:∀v,(b.at a (.inRegion ops (i::l)::k)).finish v=b.at (a.put o.dst v) (.inRegion ops l::k):=λv=>by grind [Frame.finish_at]
   revert h
   cases C:(execOp a.eval o).run Q w with
   |halt x w'=>exact False.elim
   |ok n w'=>
    cases n<;>first|exact False.elim|skip
    ·rename_i v;rintro⟨rfl,h⟩;refine LS.steps (.one (ZgP ?_)) (t _ h Post b k cs r);simp_all[stepG.apply]
    ·rintro⟨rfl,h⟩;refine LS.steps (.one (ZgP ?_)) (t _ h Post b k cs r);simp_all[stepG.apply]
    ·rename_i f args;rintro⟨rfl,v,A,h⟩;obtain⟨e,j,fr,⟨rfl,rfl⟩,g,_,p⟩:=A (b.at a (.inRegion ops (i::l)::k)::(cs++[YO Q]))
     have d:step Q (lone (b.at a (.inRegion ops (i::l)::k)) (cs++[YO Q]) j)=.next (lone (Frame.enter Q f args .normal) (b.at a (.inRegion ops (i::l)::k)::(cs++[YO Q])) j):=
      ZgP (by simp_all[stepG.apply,Frame.at])
     refine LS.steps (.head d (g.trans (.one ?_))) (t _ h Post b k cs r)
     grind [step_leave_returned]
  ·rw[if_neg u]at h;refine .omit Zcq ?_;simp_all
def ST.ev{i:Nat}{o:Oper}{e:Ev}(B:ops[i]?=some o)(H:Region.wanted o (yielded ops a.tmps)=true)(A:match e with
   |.recv _|.closed _=>∃t f d h inf z,o.op=.recv t f true/\ZX f=true/\a.eval f=.chan (some c)/\Q.underlying t=some (.chan d h)/\Q.info? h=some inf/\inf.zero=some z/\∀C,e=.closed C->C=z
   |.send v=>∃f x,o.op=.send f x/\ZX f=true/\ZX x=true/\a.eval f=.chan (some c)/\a.eval x=v)
  (G:ST Q c ops R l es (a.put o.dst e.val) w):ST Q c ops R (i::l) (e::es) a w:=λPost b k cs F=>by
 refine LS.ev ⟨ops,i,l,k,o,rfl,rfl,B,H,?_⟩ ?_
 ·have g:∀x,(b.at a (.inRegion ops (i::l)::k)).eval x=a.eval x:=Frame.eval_at b a _;cases e with
  |recv v=>obtain⟨t,f,d,h,inf,z,j,n,p,q,r,u,_⟩:=A;exact⟨t,f,d,h,inf,z,j,n,by rw[g];exact p,q,r,u⟩
  |closed v=>obtain⟨t,f,d,h,inf,z,j,n,p,q,r,u,D⟩:=A;exact⟨t,f,d,h,inf,j,n,by rw[g];exact p,q,r,by rw[D v rfl];exact u⟩
  |send v=>obtain⟨f,x,j,n,p,q,r⟩:=A;exact⟨f,x,j,n,p,by rw[g];exact q,by rw[g];exact r⟩
 ·have:Xv e (b.at a (.inRegion ops (i::l)::k))=b.at (a.put o.dst e.val) (.inRegion ops l::k):=by
   unfold Xv;rw[ZfK,B];rfl
  rw[this];exact G Post b k cs F
def ST.head{md:Region.Mode}{n g:Nat}{L:Array Bool->Act->Prop}:∀(f t:Nat) (listed:Array Bool) (a:Act),wpAnyL Q md ops w n L f listed a->(∀listed a t,L listed a->ST Q c ops R (Region.linearise.go md ops g t listed []) es a w)->
  ST Q c ops R (Region.linearise.go md ops (f+g) t listed []) es a w
 |0,t,listed,a,h,j=>by rw[Ze7];exact j _ _ _ h
 |f+1,t,listed,a,h,j=>by
  obtain⟨r,u⟩:=h;rw[show f+1+g=(f+g)+1 by omega];simp only[Region.linearise.go]
  change ST Q c ops R (match(Region.ready md ops listed)[t% (Region.ready md ops listed).length]? with
   |some i=>Region.linearise.go md ops (f+g) (t / (Region.ready md ops listed).length) (listed.setIfInBounds i true) [i]
   |none=>[].reverse) es a w
  cases o:(Region.ready md ops listed)[t% (Region.ready md ops listed).length]? with
  |none=>
   exfalso;have d:0< (Region.ready md ops listed).length:=ZfC.2 r;have:=ZfT.1 o;have:=Zgw t d;omega
  |some i=>
   simp only[];rw[linearise_go_acc,Zhe,Zgn];exact ST.still (u i (Zdr o)).2 λp q=>ST.head f _ _ p q j
def ST.last{n:Nat}{listed:Array Bool}{t:Nat}(h:Region.seqB .any ops 1 n listed=true)(d:ST Q c ops R [n] es a w):ST Q c ops R (Region.linearise.go .any ops 1 t listed []) es a w:=by
 simp only[Region.seqB,Zdn,ZdH]at h;simp only[Region.linearise.go]
 change ST Q c ops R (match(Region.ready .any ops listed)[t% (Region.ready .any ops listed).length]? with
   |some i=>[i]
   |none=>[]) es a w
 grind
def SC.last{id n:Nat}{l:List Oper}(F:Q.follows .mixedOrders=true)(z:Region.lexTailB .any l.toArray n=true)(r:l.length=n+1)(h:wpStill Q l.toArray {w with drawn:=w.drawn+1} (λq=>ST Q c l.toArray R [n] es q {w with drawn:=w.drawn+1}) (l.take n) a):SC Q c (.region id l.toArray true) R es a w:=by
 refine SC.draw λt=> ?_;simp only[Region.lexTailB,Zdn,ZdH]at z;obtain⟨⟨⟨⟨o,B⟩,I⟩,C⟩,f⟩:=z;have G:n<l.length:=by simpa using B
 have u:(l.take n).length=n:=Zcr;have D:l.toArray.size-n=1:=Zcr;rw[D]at f
 have p:HeadInv .any l.toArray n (Array.replicate l.toArray.size false):=
  ⟨Z1,λj N _ K=>(by grind [getD_replicate_false]),λt _ M=>getD_in Zcp (getD_replicate_false _ _)⟩
 have H:=wpAnyL_lex (md:=.any) (g:=1) o I C B (l.take n) 0 _ a (λj J=>by
  simp_all) Z0 p Zcq h
 simp only[Region.schedule,F,Bool.true_or,Ze3,Region.linearise];have e:l.toArray.size=(l.take n).length+1:=by rw[u];simpa using r
 rw[e];exact ST.head (L:=λd q=>Region.seqB .any l.toArray 1 n d=true/\ST Q c l.toArray R [n] es q {w with drawn:=w.drawn+1}) _ t _ a (by rw[<-e];exact H) λlisted q O A=>ST.last A.1 A.2
end
section
variable {Q:Z4}{c:Nat}{Post:Z9}{es:Zco}{a:Act}{w:Z3}{x y:Code}{b:Zf}{k k':Zi}{cs:Z5}
def LS.two(h:LS Q c Post es (b.at a (.code x:: .code y::k)) cs w):LS Q c Post es (b.at a (.code (.seq x y)::k)) cs w:=LS.steps (.one step_seq) h
def LS.condT{o:Operand}(hc:a.eval o=.bool true)(h:LS Q c Post es (b.at a (.code x::k)) cs w):LS Q c Post es (b.at a (.code (.cond o x y)::k)) cs w:=LS.steps (.one (step_cond hc)) h
def LS.condF{o:Operand}(hc:a.eval o=.bool false)(h:LS Q c Post es (b.at a (.code y::k)) cs w):LS Q c Post es (b.at a (.code (.cond o x y)::k)) cs w:=LS.steps (.one (step_cond hc)) h
def LS.skip(h:LS Q c Post es (b.at a k) cs w):LS Q c Post es (b.at a (.code .skip::k)) cs w:=LS.steps (.one step_skip) h
def LS.block{id:Nat}(h:LS Q c Post es (b.at a (.code x:: .inBlock id::k)) cs w):LS Q c Post es (b.at a (.code (.block id x)::k)) cs w:=LS.steps (.one step_block) h
def LS.inBlock{id:Nat}(h:LS Q c Post es (b.at a k) cs w):LS Q c Post es (b.at a (.inBlock id::k)) cs w:=LS.steps (.one step_inBlock) h
theorem LS.inLoop(h:LS Q c Post es (b.at a (.code x:: .inLoop x::k)) cs w):LS Q c Post es (b.at a (.inLoop x::k)) cs w:=LS.steps (.one step_inLoop) h
def LS.exit{id:Nat}(d:exitTo id k=some k')(h:LS Q c Post es (b.at a k') cs w):LS Q c Post es (b.at a (.code (.exit id)::k)) cs w:=LS.steps (.one (step_exit d)) h
def LS.loopI(I:Nat->List Ev->Act->World->Prop){n:Nat}(d:I n es a w)(f:∀n es a w,I n es a w->(∀m es a w,m<n->I m es a w->LS Q c Post es (b.at a (.inLoop x::k)) cs w)->LS Q c Post es (b.at a (.code x:: .inLoop x::k)) cs w):LS Q c Post es (b.at a (.code (.loop x)::k)) cs w:=by
 have key:∀n es a w,I n es a w->LS Q c Post es (b.at a (.code x:: .inLoop x::k)) cs w:=by
  intro n
  induction n using Nat.strongRecOn with
  |_ n g=>grind [inLoop]
 exact LS.steps (.one step_loop) (key n es a w d)
def LS.wp{R:Zr}(h:x.wp Q R a w)(o:∀e f w',R e f w'->qk Q c Post es b k cs e f w'):LS Q c Post es (b.at a (.code x::k)) cs w:=by
 obtain⟨e,f,w',q,r⟩:=h b k (cs++[YO Q]);have g:=o e f w' q;cases e with
 |normal=>exact LS.steps r g
 |exit id=>obtain⟨k',j,n⟩:=g;exact LS.steps (r k' j) n
 |ret=>obtain⟨d,r⟩:=r;exact LS.steps r (g d)
 |_=>exact g.elim
def LS.regK(h:∀K:Act->World->Prop,(∀a w,LS Q c Post es (b.at a k) cs w->K a w)->x.wp Q (λe a w=>e=.normal/\K a w) a w):LS Q c Post es (b.at a (.code x::k)) cs w:=
 LS.wp (h _ λ_ _ q=>q) λe g w' ⟨d,f⟩=>by subst d;exact f
def LS.send{id n:Nat}{l:List Oper}{v:Z7}(B:Q.follows .mixedOrders=true)(z:Region.lexTailB .any l.toArray n=true)(q:l.length=n+1){o:Oper}{g j:Operand}(D:l[n]?=some o)(A:o.guard=none)(p:o.op=.send g j)(u:ZX g=true)(h2:ZX j=true)
  (h:wpStill Q l.toArray {w with drawn:=w.drawn+1} (λd=>d.eval g=.chan (some c)/\d.eval j=v/\LS Q c Post es (b.at (d.put o.dst undef) k) cs {w with drawn:=w.drawn+1}) (l.take n) a):LS Q c Post (.send v::es) (b.at a (.code (.region id l.toArray true)::k)) cs w:=
 SC.last (R:=λf e d w'=>e=.normal/\LS Q c Post f (b.at d k) cs w') B z q (CA (λd ⟨r,t,C⟩=>ST.ev (o:=o) Zcp (by simp[Region.wanted,A]) ⟨g,j,p,u,h2,r,t⟩ (.nil ⟨rfl,C⟩)) _ _ h) Post b k cs λf e d w' ⟨r,t⟩=>by subst r;exact t
def LS.region{id:Nat}{ops:Zq}(h:LS Q c Post es (b.at a (.inRegion ops (List.range ops.size)::k)) cs w):LS Q c Post es (b.at a (.code (.region id ops false)::k)) cs w:=LS.steps (.one step_region) h
def LS.value{ops:Zq}{i:Nat}{l:Zd}{o:Oper}{v:Z7}{w':Z3}(g:ops[i]?=some o)(j:Region.wanted o (yielded ops a.tmps)=true)(h:(execOp a.eval o).run Q w=.ok (.value v) w')(f:LS Q c Post es (b.at (a.put o.dst v) (.inRegion ops l::k)) cs w'):LS Q c Post es (b.at a (.inRegion ops (i::l)::k)) cs w:=by
 have d:(b.at a (.inRegion ops (i::l)::k)).finish v=b.at (a.put o.dst v) (.inRegion ops l::k):=by grind [Frame.finish_at]
 refine LS.steps (.one (ZgP ?_)) f;simp_all[stepG_op,stepG.apply]
def LS.regEnd{ops:Zq}(h:LS Q c Post es (b.at a k) cs w):LS Q c Post es (b.at a (.inRegion ops []::k)) cs w:=LS.steps (.one step_region_end) h
def LS.event{ops:Zq}{i:Nat}{l:Zd}{o:Oper}{e:Ev}(n:ops[i]?=some o)(p:Region.wanted o (yielded ops a.tmps)=true)(q:match e with
   |.recv _|.closed _=>∃t f d g inf z,o.op=.recv t f true/\ZX f=true/\a.eval f=.chan (some c)/\Q.underlying t=some (.chan d g)/\Q.info? g=some inf/\inf.zero=some z/\∀h,e=.closed h->h=z
   |.send v=>∃f x,o.op=.send f x/\ZX f=true/\ZX x=true/\a.eval f=.chan (some c)/\a.eval x=v)
  (r:LS Q c Post es (b.at (a.put o.dst e.val) (.inRegion ops l::k)) cs w):LS Q c Post (e::es) (b.at a (.inRegion ops (i::l)::k)) cs w:=by
 refine LS.ev ⟨ops,i,l,k,o,rfl,rfl,n,p,?_⟩ ?_
 ·have j:∀x,(b.at a (.inRegion ops (i::l)::k)).eval x=a.eval x:=Frame.eval_at b a _
  grind
 simp_all[Xv,ZfK]
end
end
end Vm
end
section
namespace Vm
open Go
open Go.Proofs
noncomputable def ofC:Code:=match Tryz.f10.body with|some c=>c|none=>.skip
def BV(f:Zn):Option (List OT):=if f=28 then some [.fz,.mem [.fz],.mem [.fz]]else sig f
def NB:List Nat:=[0,1,2,3,16,4,5,6,7,23,25,8,24,29,9,10,48,47,49,12,46,13]
def Z7I:List Nat:=[15,63,76,79]
def vf(P:Z4):FC:= {P,ix:=pos (NB++Z7I),fresh,sig:=BV,tr:=[3],fix:=[4,23],n:=82,keep:=NB}
def yh:SS:=[(0,.fz)]
def r0N:SS:=[(0,.fz),(1,(.mem [.fz,.fz,.fz,.fz,.fz,.fz,.fz,.fz,.fz,.fz])),(2,(.mem [.nil,.nil])),(3,.fz)]
def r0:Stm:=
(.reg ⟨[],[],[(1,.m [(.fld (.sz (.s 0) 10) 0),(.fld (.sz (.s 0) 10) 1),(.fld (.sz (.s 0) 10) 2),(.fld (.sz (.s 0) 10) 3),(.fld (.sz (.s 0) 10) 4),(.fld (.sz (.s 0) 10) 5),(.fld (.sz (.s 0) 10) 6),(.fld (.sz (.s 0) 10) 7),(.fld (.sz (.s 0) 10) 8),(.fld (.sz (.s 0) 10) 9)]),(2,.m [(.c (.sl [])),(.c (.sl []))]),(3,.v (.c (.int .i64 (0))))]⟩)
def r0c:comp (vf (YK Tryz.prog)) (Yp ofC [0]) yh=some (r0,⟨some r0N,[],[]⟩):=Z2
def rXS:SS:=[(0,.fz),(1,(.mem [.fz,.fz,.fz,.fz,.fz,.fz,.fz,.fz,.fz,.fz])),(2,(.mem [.nil,.nil])),(3,.fz)]
def IY:SS:=[(0,.fz),(1,(.mem [.fz,.fz,.fz,.fz,.fz,.fz,.fz,.fz,.fz,.fz])),(2,(.mem [.nil,.nil])),(3,.fz),(16,.fz)]
def Br:SS:=[(0,.fz),(1,(.mem [.fz,.fz,.fz,.fz,.fz,.fz,.fz,.fz,.fz,.fz])),(2,(.mem [.nil,.nil])),(3,.fz),(16,.fz)]
def rX:Stm:=
(.seq
(.reg ⟨[.call 22 [] (.id 19) false false [(.mm 1 0 10)]],[],[(4,.v (.un .not (.s 22)))]⟩)
(.cond (.s 4)
 (.seq
 (.reg ⟨[],[([],(.ag [(.c (.sl [])),(.c (.sl []))]))],[(2,.m [(.c (.sl [])),(.c (.sl []))]),(3,.v (.c (.int .i64 (1))))]⟩)
 .ret)
 .skip))
def rXc:comp (vf (YK Tryz.prog)) (Yp ofC [1,0]) rXS=some (rX,⟨some IY,[],[Br]⟩):=Z2
def Kr:SS:=[(1,(.mem [.fz,.fz,.fz,.fz,.fz,.fz,.fz,.fz,.fz,.fz])),(2,(.mem [.fz,.fz])),(3,.fz)]
def r5N:SS:=[(1,(.mem [.fz,.fz,.fz,.fz,.fz,.fz,.fz,.fz,.fz,.fz])),(2,(.mem [.fz,.fz])),(3,.fz),(5,.nil)]
def r5:Stm:=
(.reg ⟨[],[],[(6,.v (.c (.sl [])))]⟩)
def r5c:comp (vf (Sol.prog)) (Yp ofC [1,1,1,1,0]) Kr=some (r5,⟨some r5N,[],[]⟩):=Z2
def r6S:SS:=[(1,(.mem [.fz,.fz,.fz,.fz,.fz,.fz,.fz,.fz,.fz,.fz])),(2,(.mem [.fz,.fz])),(3,.fz),(5,.nil)]
def r6N:SS:=[(1,(.mem [.fz,.fz,.fz,.fz,.fz,.fz,.fz,.fz,.fz,.fz])),(2,(.mem [.fz,.fz])),(3,.fz),(5,.nil),(6,(.mem [(.own 63)]))]
def r6:Stm:=
(.reg ⟨[],[],[(7,.m [(.c (.mp 0 [] []))])]⟩)
def r6c:comp (vf (Sol.prog)) (Yp ofC [1,1,1,1,1,0]) r6S=some (r6,⟨some r6N,[],[]⟩):=Z2
def r7S:SS:=[(1,(.mem [.fz,.fz,.fz,.fz,.fz,.fz,.fz,.fz,.fz,.fz])),(2,(.mem [.fz,.fz])),(3,.fz),(5,.nil),(6,(.mem [(.own 63)]))]
def r7N:SS:=[(1,(.mem [.fz,.fz,.fz,.fz,.fz,.fz,.fz,.fz,.fz,.fz])),(2,(.mem [.fz,.fz])),(3,.fz),(5,.nil),(6,(.mem [(.own 63)])),(7,(.mem [(.own 64)]))]
def r7:Stm:=
(.reg ⟨[],[],[(8,.m [(.c (.mp 0 [] []))])]⟩)
def r7c:comp (vf (Sol.prog)) (Yp ofC [1,1,1,1,1,1,0]) r7S=some (r7,⟨some r7N,[],[]⟩):=Z2
def Bo:SS:=[(1,(.mem [.fz,.fz,.fz,.fz,.fz,.fz,.fz,.fz,.fz,.fz])),(2,(.mem [.fz,.fz])),(3,.fz),(5,(.own 70)),(6,(.mem [(.own 63)])),(7,(.mem [(.own 64)])),(24,.fz),(25,.fz)]
def rDN:SS:=[(1,(.mem [.fz,.fz,.fz,.fz,.fz,.fz,.fz,.fz,.fz,.fz])),(2,(.mem [.fz,.fz])),(3,.fz),(5,(.own 70)),(6,(.mem [(.own 63)])),(7,(.mem [(.own 64)])),(25,.fz),(8,(.mem [.fz,.fz,.fz,.fz,.fz,.fz,.fz])),(24,.fz),(29,.fz)]
def Bp:SS:=[(1,(.mem [.fz,.fz,.fz,.fz,.fz,.fz,.fz,.fz,.fz,.fz])),(2,(.mem [.fz,.fz])),(3,.fz),(5,(.own 70)),(6,(.mem [(.own 63)])),(7,(.mem [(.own 64)])),(24,.fz),(25,.fz)]
def rD:Stm:=
(.seq
(.cond (.s 10)
 .skip
 (.exit 0))
(.block 1
 (.seq
 (.reg ⟨[],[],[(11,.m [(.fld (.sz (.ext (.s 12) 0) 7) 0),(.fld (.sz (.ext (.s 12) 0) 7) 1),(.fld (.sz (.ext (.s 12) 0) 7) 2),(.fld (.sz (.ext (.s 12) 0) 7) 3),(.fld (.sz (.ext (.s 12) 0) 7) 4),(.fld (.sz (.ext (.s 12) 0) 7) 5),(.fld (.sz (.ext (.s 12) 0) 7) 6)])]⟩)
 (.seq
 (.seq
 (.reg ⟨[],[],[(13,.v (.m 11 3))]⟩)
 (.cond (.s 13)
  (.seq
  (.reg ⟨[],[],[(8,.m [(.mput (.i .u64) (.m 8 0) (.m 11 5) (.m 11 4))])]⟩)
  (.exit 1))
  .skip))
 (.seq
 (.reg ⟨[],[],[(7,.m [(.mput (.i .u64) (.m 7 0) (.m 11 5) (.len (.s 6)))])]⟩)
 (.reg ⟨[],[],[(6,.v (.app (.s 6) (.lit [(.mm 11 0 7)]) 7))]⟩))))))
def IX:comp (vf (Sol.prog)) (Yp ofC [1,1,1,1,1,1,1,0,1,0,0,1]) Bo=some (rD,⟨some rDN,[(0,Bp)],[]⟩):=Z2
def IW:SS:=[(1,(.mem [.fz,.fz,.fz,.fz,.fz,.fz,.fz,.fz,.fz,.fz])),(2,(.mem [.fz,.fz])),(3,.fz),(5,.fz),(6,(.mem [.fz])),(7,(.mem [.fz]))]
def Bn:SS:=[(1,(.mem [.fz,.fz,.fz,.fz,.fz,.fz,.fz,.fz,.fz,.fz])),(2,(.mem [.fz,.fz])),(3,.fz),(5,.fz),(6,(.mem [.fz])),(7,(.mem [.fz])),(9,(.clo 28 [7,6])),(10,(.mem [.fz,.fz])),(48,.fz),(47,.fz),(49,.fz),(46,.fz)]
def rC:Stm:=
(.seq
(.reg ⟨[],[],[(14,.no)]⟩)
(.seq
(.reg ⟨[],[],[(14,.no),(15,.m [(.c (.sl [])),(.c (.sl []))])]⟩)
(.seq
(.seq
(.reg ⟨[],[],[(14,.no),(16,.v (.c (.int .i64 (0)))),(17,.v (.len (.s 6))),(20,.v (.s 6))]⟩)
(.block 2
 (.loop [1,2,3,6,7,8,14,15,16,17,20]
  (.seq
  (.reg ⟨[],[],[(14,.no),(18,.v (.bin .lss (.s 16) (.s 17)))]⟩)
  (.seq
  (.cond (.s 18)
   .skip
   (.exit 2))
  (.seq
  (.block 3
   (.seq
   (.reg ⟨[],[],[(14,.no),(19,.m [(.fld (.flds (.idx (.s 20) (.s 16) 7) 0 7) 0),(.fld (.flds (.idx (.s 20) (.s 16) 7) 0 7) 1),(.fld (.flds (.idx (.s 20) (.s 16) 7) 0 7) 2),(.fld (.flds (.idx (.s 20) (.s 16) 7) 0 7) 3),(.fld (.flds (.idx (.s 20) (.s 16) 7) 0 7) 4),(.fld (.flds (.idx (.s 20) (.s 16) 7) 0 7) 5),(.fld (.flds (.idx (.s 20) (.s 16) 7) 0 7) 6)])]⟩)
   (.seq
   (.reg ⟨[],[],[(14,.no),(21,.v (.m 19 2))]⟩)
   (.reg ⟨[.callm 23 [] (.id 28) [.fz,(.mem [.fz]),(.mem [.fz])] [(.slc (.m 19 6) (.c (.int .i64 (0))) (.s 21) 1),(.ag [(.m 8 0)]),(.ag [(.m 7 0)])]],[],[(7,.m [(.fld (.ext (.s 23) 2) 0)]),(8,.m [(.fld (.ext (.s 23) 1) 0)]),(14,.no),(15,.m [(.app (.m 15 0) (.lit [(.ag [(.one (.ext (.s 23) 0)),(.slcl (.m 19 6) (.s 21) 1)])]) 2),(.m 15 1)])]⟩))))
  (.reg ⟨[],[],[(14,.no),(16,.v (.bin .add (.s 16) (.c (.int .i64 (1)))))]⟩)))))))
(.seq
(.reg ⟨[.callm 24 [] (.id 28) [.fz,(.mem [.fz]),(.mem [.fz])] [(.m 1 9),(.ag [(.m 8 0)]),(.ag [(.m 7 0)])]],[],[(7,.m [(.fld (.ext (.s 24) 2) 0)]),(8,.m [(.fld (.ext (.s 24) 1) 0)]),(14,.no),(15,.m [(.m 15 0),(.one (.ext (.s 24) 0))])]⟩)
(.seq
(.reg ⟨[.call 25 [] (.id 30) false false [(.mm 15 0 2)]],[],[(2,.m [(.fld (.sz (.ext (.s 25) 0) 2) 0),(.fld (.sz (.ext (.s 25) 0) 2) 1)]),(3,.v (.fl (.ext (.s 25) 1))),(14,.no)]⟩)
.ret)))))
def rCc:comp (vf (Sol.prog)) (Yp ofC [1,1,1,1,1,1,1,1]) IW=some (rC,⟨none,[],[Bn]⟩):=Z2
def Ir:Fn:=⟨16,[0,1,2,4,5,14,13,15,7,12,19,8,9,10,11,34],
(.seq
(.reg ⟨[],[],[(3,.v (.c (.sl [])))]⟩)
(.seq
(.reg ⟨[],[],[(4,.v (.c (.sl [])))]⟩)
(.seq
(.seq
(.reg ⟨[],[],[(5,.v (.c (.int .i64 (0)))),(6,.v (.len (.s 0))),(9,.v (.s 0))]⟩)
(.block 0
 (.loop [0,1,2,3,4,5,6,9]
  (.seq
  (.reg ⟨[],[],[(7,.v (.bin .lss (.s 5) (.s 6)))]⟩)
  (.seq
  (.cond (.s 7)
   .skip
   (.exit 0))
  (.seq
  (.block 1
   (.seq
   (.reg ⟨[],[],[(8,.v (.fld (.idx (.s 9) (.s 5) 1) 0))]⟩)
   (.seq
   (.seq
   (.reg ⟨[],[],[(10,.v (.bin .eql (.s 8) (.c (.int .u64 (0)))))]⟩)
   (.cond (.s 10)
    (.seq
    (.reg ⟨[],[],[(4,.v (.app (.s 4) (.lit [(.c (.int .i64 (-1)))]) 1))]⟩)
    (.exit 1))
    .skip))
   (.seq
   (.reg ⟨[.call 16 [] (.id 29) false false [(.s 8)]],[],[(11,.v (.ext (.s 16) 0)),(12,.v (.ext (.s 16) 1))]⟩)
   (.seq
   (.seq
   (.reg ⟨[],[],[(13,.v (.ext (.lk (.i .u64) (.m 1 0) (.s 11) (.int .u64 (0)) true) 0)),(14,.v (.ext (.lk (.i .u64) (.m 1 0) (.s 11) (.int .u64 (0)) true) 1))]⟩)
   (.seq
   (.reg ⟨[],[],[(15,.v (.s 14))]⟩)
   (.cond (.s 15)
    (.reg ⟨[],[],[(11,.v (.s 13))]⟩)
    .skip)))
   (.reg ⟨[],[],[(4,.v (.app (.s 4) (.lit [(.one (.lk (.i .u64) (.m 2 0) (.s 11) (.int .i64 (0)) false))]) 1))]⟩))))))
  (.reg ⟨[],[],[(5,.v (.bin .add (.s 5) (.c (.int .i64 (1)))))]⟩)))))))
(.seq
(.reg ⟨[],[],[(3,.v (.s 4)),(4,.no)]⟩)
.ret)))),
[(3,.v)]⟩
def cTo:ZH Sol.prog fresh sig [.fz,(.mem [.fz]),(.mem [.fz])] (TQ [.fz,(.mem [.fz]),(.mem [.fz])]) Tryz.f28=some Ir:=Z2
def Hv:Fn:=⟨5,[0,1,2,3,4],
pQ [pR [(1,pS 0 10),pV 2 pF],pC [pK 5 50 [.mm 1 0 10]] [pV 3 (.ext (.s 5) 0),pV 4 (.ext (.s 5) 1)],pR [pV 2 (.s 4)]] .ret,[(2,.v)]⟩
def PQ:ZH Sol.prog fresh sig [.fz] [] Tryz.f19=some Hv:=Z2
def Hw:Fn:=⟨6,[0,1,2,3,4,11],
pQ [pR [(1,pS 0 10),pV 2 (pI 0)],pC [pK 6 50 [.mm 1 0 10]] [pV 3 (.ext (.s 6) 0),pV 4 (.ext (.s 6) 1)],pQ [pR [pV 5 (.un .not (.s 4))]] (.cond (.s 5) (pQ [pR [pV 2 (pI 0)]] .ret) .skip),pC [pK 7 51 [.s 3]] [pV 2 (.s 7)]] .ret,[(2,.v)]⟩
def PR:ZH Sol.prog fresh sig [.fz] [] Tryz.f20=some Hw:=Z2
def I0:Fn:=⟨12,[0,1,2,3,13,4,16,15,17,6,14,24],
pQ [pR [(1,pS 0 10),pV 2 (.c (.nul 0)),pV 3 pF],.reg ⟨[pK 12 42 [.mm 1 0 10]],[([],.ag [.fld (.mm 1 0 10) 0,.fld (.mm 1 0 10) 1,.fld (.mm 1 0 10) 2,.fld (.mm 1 0 10) 3,.fld (.mm 1 0 10) 4,.fld (.mm 1 0 10) 5,.fld (.mm 1 0 10) 6,.fld (.mm 1 0 10) 7,.fld (.mm 1 0 10) 8,.fld (.mm 1 0 10) 9,.fld (.sz (.s 12) 7) 0,.fld (.sz (.s 12) 7) 1,.fld (.sz (.s 12) 7) 2,.fld (.sz (.s 12) 7) 3,.fld (.sz (.s 12) 7) 4,.fld (.sz (.s 12) 7) 5,.fld (.sz (.s 12) 7) 6,pN,pN,pN,pN,.c (.mp 0 [] []),.c (.mp 0 [] [])])],[(5,.m [.fld (.mm 1 0 10) 0,.fld (.mm 1 0 10) 1,.fld (.mm 1 0 10) 2,.fld (.mm 1 0 10) 3,.fld (.mm 1 0 10) 4,.fld (.mm 1 0 10) 5,.fld (.mm 1 0 10) 6,.fld (.mm 1 0 10) 7,.fld (.mm 1 0 10) 8,.fld (.mm 1 0 10) 9,.fld (.sz (.s 12) 7) 0,.fld (.sz (.s 12) 7) 1,.fld (.sz (.s 12) 7) 2,.fld (.sz (.s 12) 7) 3,.fld (.sz (.s 12) 7) 4,.fld (.sz (.s 12) 7) 5,.fld (.sz (.s 12) 7) 6,pN,pN,pN,pN,.c (.mp 0 [] []),.c (.mp 0 [] [])])]⟩,pQ [pC [pK 10 80 []] [pV 6 (pI 0),pV 7 (.len (.s 10))]] (.block 0 (.loop [0,1,2,3,5,6,7,10] (pQ [pR [pV 8 (.bin .lss (.s 6) (.s 7))],.cond (.s 8) .skip (.exit 0),.block 1 (pQ [pR [(9,.m [.fld (.flds (.idx (.s 10) (.s 6) 1) 0 1) 0])],pC [.callm 13 [] (.e (.m 9 0)) [.mem [.fz,.fz,.fz,.fz,.fz,.fz,.fz,.fz,.fz,.fz,.fz,.fz,.fz,.fz,.fz,.fz,.fz,.fz,.fz,.fz,.fz,.own 63,.own 144]] [.ag [.m 5 0,.m 5 1,.m 5 2,.m 5 3,.m 5 4,.m 5 5,.m 5 6,.m 5 7,.m 5 8,.m 5 9,.m 5 10,.m 5 11,.m 5 12,.m 5 13,.m 5 14,.m 5 15,.m 5 16,.m 5 17,.m 5 18,.m 5 19,.m 5 20,.m 5 21,.m 5 22]]] [(5,pM (.ext (.s 13) 1) 23),pV 11 (.un .not (.ext (.s 13) 0))]] (.cond (.s 11) (pQ [pR [pV 2 (.c (.nul 0)),pV 3 pF]] .ret) .skip))] (pR [pV 6 (.bin .add (.s 6) (pI 1))])))),pR [pV 2 (.pt none [.m 5 0,.m 5 1,.m 5 2,.m 5 3,.m 5 4,.m 5 5,.m 5 6,.m 5 7,.m 5 8,.m 5 9,.m 5 10,.m 5 11,.m 5 12,.m 5 13,.m 5 14,.m 5 15,.m 5 16,.m 5 17,.m 5 18,.m 5 19,.m 5 20,.m 5 21,.m 5 22]),pV 3 pT,(5,.no)]] .ret,[(2,.v),(3,.v)]⟩
def x6:ZH Sol.prog fresh sig [.fz] [] Tryz.f50=some I0:=Z2
def I1:Fn:=⟨11,[0,2,3,4,8,19,18,20,6,17,25],
pQ [pR [pV 1 (pI 0)],pR [pV 2 (pI 0)],pQ [pR [pV 3 (pI 3)]] (.block 0 (.loop [0,1,2,3] (pQ [pQ [pR [pV 4 (.bin .leq (.s 3) (pI 4))]] (.cond (.s 4) .skip (.exit 0)),.block 1 (pQ [pR [pV 5 (pI 0),pV 6 (.len (.fld (.ai (.flds (.star (.s 0)) 17 4) (.bin .sub (.s 3) (pI 1)) 4 1 true) 0)),pV 9 (.fld (.ai (.flds (.star (.s 0)) 17 4) (.bin .sub (.s 3) (pI 1)) 4 1 true) 0)]] (.block 2 (.loop [0,1,2,3,4,5,6,9] (pQ [pR [pV 7 (.bin .lss (.s 5) (.s 6))],.cond (.s 7) .skip (.exit 2),.block 3 (pQ [pR [(8,pM (.flds (.idx (.s 9) (.s 5) 5) 0 5) 5)],pR [pV 10 (.un .not (.m 8 3))]] (.cond (.s 10) (pR [pV 2 (.bin .add (.s 2) (.bin .add (pI 1) (.m 8 1)))]) .skip))] (pR [pV 5 (.bin .add (.s 5) (pI 1))])))))] (pR [pV 3 (.bin .add (.s 3) (pI 1))])))),pR [pV 1 (.s 2)]] .ret,[(1,.v)]⟩
def c51:ZH Sol.prog fresh sig [.fz] [] Tryz.f51=some I1:=Z2
def I4:Fn:=⟨8,[0,1,2,4,5,6,7,22],
pQ [pR [(2,pS 0 10),pV 3 pN,pV 4 (pI 0)],pC [pK 8 50 [.mm 2 0 10]] [pV 5 (.ext (.s 8) 0),pV 6 (.ext (.s 8) 1)],pQ [.reg ⟨[.lt 9 [] (.un .not (.s 6)),.lt 10 [] (.ite (.s 9) pT (.bin .lss (.s 1) (pI 1)))],[([(9,false)],.bin .lss (.s 1) (pI 1)),([(10,false)],.bin .gtr (.s 1) (pI 4))],[pV 7 (.ite (.s 10) pT (.bin .gtr (.s 1) (pI 4)))]⟩] (.cond (.s 7) (pQ [pR [pV 4 (pI 1)]] .ret) .skip),pR [pV 3 (.fld (.ai (.flds (.star (.s 5)) 17 4) (.bin .sub (.s 1) (pI 1)) 4 1 true) 0),pV 4 (pI 0)]] .ret,[(3,.v),(4,.v)]⟩
def c56:ZH Sol.prog fresh sig [.fz,.fz] [] Tryz.f56=some I4:=Z2
def Ih:Fn:=⟨1,[0],
pQ [pR [pV 0 pN],pR [pV 0 (.lit [.ag [.c (.fn 96)],.ag [.c (.fn 97)],.ag [.c (.fn 98)],.ag [.c (.fn 99)],.ag [.c (.fn 100)],.ag [.c (.fn 101)],.ag [.c (.fn 102)],.ag [.c (.fn 103)]])]] .ret,[(0,.v)]⟩
def c80:ZH Sol.prog fresh sig [] [] Tryz.f80=some Ih:=Z2
def Ip:Fn:=⟨2,[0,2],
pQ [pR [pV 1 pF],.reg ⟨[pK 2 43 [.flds (.star (.s 0)) 10 7],.lt 3 [] (.s 2),.lt 4 [] (.ite (.s 3) (.bin .leq (.len (.fld (.star (.s 0)) 9)) (pI 16)) pF),.lt 5 [] (.ite (.s 4) (.bin .geq (.fld (.star (.s 0)) 4) (pI 0)) pF)],[([(3,true)],.bin .leq (.len (.fld (.star (.s 0)) 9)) (pI 16)),([(4,true)],.bin .geq (.fld (.star (.s 0)) 4) (pI 0)),([(5,true)],.bin .leq (.fld (.star (.s 0)) 4) (.len (.fld (.star (.s 0)) 5)))],[pV 1 (.ite (.s 5) (.bin .leq (.fld (.star (.s 0)) 4) (.len (.fld (.star (.s 0)) 5))) pF)]⟩] .ret,[(1,.v)]⟩
def c96:ZH Sol.prog fresh sig [.fz] [] Tryz.f96=some Ip:=Z2
def Kh:Fn:=⟨3,[0,2,7],
pQ [pR [pV 1 pF],pQ [pR [pV 2 (.fld (.star (.s 0)) 3)]] (.cond (.s 2) (pQ [pR [pV 1 (.bin .lss (.fld (.star (.s 0)) 4) (.len (.fld (.star (.s 0)) 5)))]] .ret) .skip),.reg ⟨[.lt 3 [] (.bin .eql (.len (.fld (.star (.s 0)) 7)) (pI 0)),.lt 4 [] (.ite (.s 3) (.bin .eql (.len (.fld (.star (.s 0)) 8)) (pI 0)) pF)],[([(3,true)],.bin .eql (.len (.fld (.star (.s 0)) 8)) (pI 0)),([(4,true)],.bin .eql (.fld (.star (.s 0)) 4) (.len (.fld (.star (.s 0)) 5)))],[pV 1 (.ite (.s 4) (.bin .eql (.fld (.star (.s 0)) 4) (.len (.fld (.star (.s 0)) 5))) pF)]⟩] .ret,[(1,.v)]⟩
def c97:ZH Sol.prog fresh sig [.fz] [] Tryz.f97=some Kh:=Z2
def Iq:Fn:=⟨11,[0,2,3,8,9,4,5,6,7,18,39],
pQ [pR [pV 1 pF],pR [pV 2 pT],.skip,pQ [pR [pV 3 (pI 0)]] (.block 0 (.loop [0,1,2,3] (pQ [pR [pV 4 (.bin .lss (.s 3) (pI 4))],.cond (.s 4) .skip (.exit 0),.block 1 (pQ [pR [pV 5 (.s 3)],pR [pV 6 (.bin .add (.s 5) (pI 1))],pR [pV 7 pN],pR [pV 8 (pI 0)],pQ [.reg ⟨[.lt 11 [] (.bin .eql (.s 6) (pI 1))],[([(11,false)],.bin .eql (.s 6) (pI 2))],[pV 9 (.ite (.s 11) pT (.bin .eql (.s 6) (pI 2)))]⟩] (.cond (.s 9) (pC [pK 12 109 [.pt none [.m 0 0,.m 0 1,.m 0 2,.m 0 3,.m 0 4,.m 0 5,.m 0 6,.m 0 7,.m 0 8,.m 0 9,.m 0 10,.m 0 11,.m 0 12,.m 0 13,.m 0 14,.m 0 15,.m 0 16,.m 0 17,.m 0 18,.m 0 19,.m 0 20,.m 0 21,.m 0 22],.s 6],.call 13 [] (.id 108) true false [.s 12]] [pV 7 (.ext (.s 13) 0),pV 8 (.ext (.s 13) 1)]) (pC [pK 14 109 [.pt none [.m 0 0,.m 0 1,.m 0 2,.m 0 3,.m 0 4,.m 0 5,.m 0 6,.m 0 7,.m 0 8,.m 0 9,.m 0 10,.m 0 11,.m 0 12,.m 0 13,.m 0 14,.m 0 15,.m 0 16,.m 0 17,.m 0 18,.m 0 19,.m 0 20,.m 0 21,.m 0 22],.s 6],pK 15 109 [.pt none [.m 0 0,.m 0 1,.m 0 2,.m 0 3,.m 0 4,.m 0 5,.m 0 6,.m 0 7,.m 0 8,.m 0 9,.m 0 10,.m 0 11,.m 0 12,.m 0 13,.m 0 14,.m 0 15,.m 0 16,.m 0 17,.m 0 18,.m 0 19,.m 0 20,.m 0 21,.m 0 22],.s 6],pK 16 111 [.pt none [.m 0 0,.m 0 1,.m 0 2,.m 0 3,.m 0 4,.m 0 5,.m 0 6,.m 0 7,.m 0 8,.m 0 9,.m 0 10,.m 0 11,.m 0 12,.m 0 13,.m 0 14,.m 0 15,.m 0 16,.m 0 17,.m 0 18,.m 0 19,.m 0 20,.m 0 21,.m 0 22],.s 15],.call 17 [] (.id 110) true false [.s 14,.s 16]] [pV 7 (.ext (.s 17) 0),pV 8 (.ext (.s 17) 1)])),pQ [pR [pV 10 (.bin .neq (.s 8) (pI 0))]] (.cond (.s 10) (pQ [pR [pV 2 pF]] (.exit 0)) .skip)] (pC [.callm 18 [] (.id 112) [.mem [.fz,.fz,.fz,.fz,.fz,.fz,.fz,.fz,.fz,.fz,.fz,.fz,.fz,.fz,.fz,.fz,.fz,.fz,.fz,.fz,.fz,.own 63,.own 144],.fz,.fz] [.ag [.m 0 0,.m 0 1,.m 0 2,.m 0 3,.m 0 4,.m 0 5,.m 0 6,.m 0 7,.m 0 8,.m 0 9,.m 0 10,.m 0 11,.m 0 12,.m 0 13,.m 0 14,.m 0 15,.m 0 16,.m 0 17,.m 0 18,.m 0 19,.m 0 20,.m 0 21,.m 0 22],.s 6,.s 7]] [(0,pM (.ext (.s 18) 1) 23)]))] (pR [pV 3 (.bin .add (.s 3) (pI 1))])))),pR [pV 1 (.s 2)]] .ret,[(1,.v)]⟩
def c98:ZH Sol.prog fresh sig [(.mem [.fz,.fz,.fz,.fz,.fz,.fz,.fz,.fz,.fz,.fz,.fz,.fz,.fz,.fz,.fz,.fz,.fz,.fz,.fz,.fz,.fz,(.own 63),(.own 144)])] [(0,(.mem [.fz,.fz,.fz,.fz,.fz,.fz,.fz,.fz,.fz,.fz,.fz,.fz,.fz,.fz,.fz,.fz,.fz,.fz,.fz,.fz,.fz,(.own 63),(.own 144)]))] Tryz.f98=some Iq:=Z2
def AU:Fn:=⟨13,[0,2,12,3,4,15,26,25,27,6,24,32,46],
pQ [pR [pV 1 pF],pQ [pR [pV 2 (.un .not (.fld (.star (.s 0)) 3))]] (.cond (.s 2) (pQ [pR [pV 1 pT]] .ret) .skip),pR [pV 3 (.c (.mp 0 [] []))],pQ [pR [pV 4 (pI 3)]] (.block 0 (.loop [0,1,2,3,4] (pQ [pQ [pR [pV 5 (.bin .leq (.s 4) (pI 4))]] (.cond (.s 5) .skip (.exit 0)),.block 1 (pQ [pR [pV 6 (pI 0),pV 7 (.len (.fld (.ai (.flds (.star (.s 0)) 17 4) (.bin .sub (.s 4) (pI 1)) 4 1 true) 0)),pV 10 (.fld (.ai (.flds (.star (.s 0)) 17 4) (.bin .sub (.s 4) (pI 1)) 4 1 true) 0)]] (.block 2 (.loop [0,1,2,3,4,5,6,7,10] (pQ [pR [pV 8 (.bin .lss (.s 6) (.s 7))],.cond (.s 8) .skip (.exit 2),.block 3 (pQ [pR [(9,pM (.flds (.idx (.s 10) (.s 6) 5) 0 5) 5)],pQ [pR [pV 11 (.un .not (.m 9 3))]] (.cond (.s 11) (.exit 3) .skip),pQ [.reg ⟨[.lt 13 [] (.bin .neq (.lk (.i .u64) (.fld (.star (.s 0)) 21) (.m 9 4) (.int .i64 0) false) (pI 1))],[([(13,false)],.fl (.lk (.i .u64) (.s 3) (.m 9 4) (.bool false) false))],[pV 12 (.ite (.s 13) pT (.fl (.lk (.i .u64) (.s 3) (.m 9 4) (.bool false) false)))]⟩] (.cond (.s 12) (pQ [pR [pV 1 pF]] .ret) .skip)] (pR [pV 3 (.mput (.i .u64) (.s 3) (.m 9 4) pT)]))] (pR [pV 6 (.bin .add (.s 6) (pI 1))])))))] (pR [pV 4 (.bin .add (.s 4) (pI 1))])))),pR [pV 1 (.bin .eql (.mlen (.s 3)) (.len (.fld (.ai (.flds (.star (.s 0)) 17 4) (pI 0) 4 1 true) 0)))]] .ret,[(1,.v)]⟩
def c99:ZH Sol.prog fresh sig [.fz] [] Tryz.f99=some AU:=Z2
def Hb:Fn:=⟨9,[0,1,2,11,10,12,4,9,18],
pQ [pR [(1,.m [.one (.s 0)]),pV 2 pF],pQ [pR [pV 3 (pI 0),pV 4 (.len (.fld (.star (.m 1 0)) 9)),pV 7 (.fld (.star (.m 1 0)) 9)]] (.block 0 (.loop [0,1,2,3,4,7] (pQ [pR [pV 5 (.bin .lss (.s 3) (.s 4))],.cond (.s 5) .skip (.exit 0),.block 1 (pQ [pR [pV 6 (.fld (.idx (.s 7) (.s 3) 1) 0)],pC [pK 9 113 [.m 1 0,.s 6,pI 1,pI 2]] [pV 8 (.un .not (.s 9))]] (.cond (.s 8) (pQ [pR [pV 2 pF]] .ret) .skip))] (pR [pV 3 (.bin .add (.s 3) (pI 1))])))),pC [.call 10 [] (.id 114) false true [.m 1 0,pI 2,.pt (some 115) [.pt none [.m 1 0]]],.lt 11 [] (.s 10),.call 12 [(11,true)] (.id 114) false true [.m 1 0,pI 1,.pt (some 116) [.pt none [.m 1 0]]]] [pV 2 (.ite (.s 11) (.s 12) pF)]] .ret,[(2,.v)]⟩
def Pr:ZH Sol.prog fresh sig [.fz] [] Tryz.f100=some Hb:=Z2
def Hc:Fn:=⟨3,[0,1,2],
pQ [pR [(1,.m [.one (.s 0)]),pV 2 pF],pC [.call 3 [] (.id 114) false true [.m 1 0,pI 1,.pt (some 117) [.pt none [.m 1 0]]]] [pV 2 (.s 3)]] .ret,[(2,.v)]⟩
def Ps:ZH Sol.prog fresh sig [.fz] [] Tryz.f101=some Hc:=Z2
def Hd:Fn:=⟨4,[0,1,2,3],
pQ [pR [(1,.m [.one (.s 0)]),pV 2 pF],pR [(3,.no)],pC [.call 4 [] (.id 114) false true [.m 1 0,pI 3,.pt (some 118) [.pt none [.m 1 0]]],.lt 5 [] (.s 4),.call 6 [(5,true)] (.id 114) false true [.m 1 0,pI 4,.pt (some 118) [.pt none [.m 1 0]]]] [pV 2 (.ite (.s 5) (.s 6) pF),(3,.no)]] .ret,[(2,.v)]⟩
def Pt:ZH Sol.prog fresh sig [.fz] [] Tryz.f102=some Hd:=Z2
def He:Fn:=⟨2,[0,2],
pQ [pR [pV 1 pF],pC [pK 2 51 [.s 0]] [pV 1 (.bin .leq (.bin .add (.bin .add (.len (.fld (.star (.s 0)) 5)) (.len (.fld (.star (.s 0)) 6))) (.s 2)) (.fld (.star (.s 0)) 1))]] .ret,[(1,.v)]⟩
def Pu:ZH Sol.prog fresh sig [.fz] [] Tryz.f103=some He:=Z2
def Hj:Fn:=⟨3,[0,1,4],
pQ [pR [pV 2 pN],pR [pV 2 (.ai (.ag [.fld (.star (.s 0)) 5,.fld (.star (.s 0)) 6,.fld (.star (.s 0)) 7,.fld (.star (.s 0)) 8]) (.bin .sub (.s 1) (pI 1)) 4 1 false)]] .ret,[(2,.v)]⟩
def Pz:ZH Sol.prog fresh sig [.fz,.fz] [] Tryz.f109=some Hj:=Z2
def Hk:Fn:=⟨14,[0,1,4,5,6,15,7,8,9,25,10,11,36,52],
pQ [pR [pV 2 pN],pR [pV 3 pN],pQ [pR [pV 4 (pI 0)]] (.block 0 (.loop [0,1,2,3,4] (pQ [pQ [pR [pV 5 (.bin .lss (.s 4) (.len (.s 1)))]] (.cond (.s 5) .skip (.exit 0))] (.block 1 (pQ [pR [(6,.m [pI 0,pI 0])],pQ [pC [pK 14 29 [.fld (.idx (.s 1) (.s 4) 1) 0]] [pV 7 (.ext (.s 14) 0),pV 8 (.ext (.s 14) 1)],pR [pV 9 (.bin .eql (.s 8) (pI 0))]] (.cond (.s 9) (pQ [pR [(10,pM (.sz (.ext (.lk (.i .u64) (.fld (.star (.s 0)) 22) (.s 7) (.agg [.int .i64 0,.int .i64 0]) true) 0) 2) 2),pV 11 (.ext (.lk (.i .u64) (.fld (.star (.s 0)) 22) (.s 7) (.agg [.int .i64 0,.int .i64 0]) true) 1)],pQ [pR [pV 12 (.un .not (.s 11))]] (.cond (.s 12) (pQ [pR [pV 2 (.s 3),(3,.no)]] .ret) .skip),pR [(6,pM (.mm 10 0 2) 2)]] (pR [pV 3 (.app (.s 3) (.lit [.mm 6 0 2]) 2)])) (pQ [pC [pK 15 47 [.fld (.idx (.s 1) (.s 4) 1) 0]] [(6,pM (.sz (.ext (.s 15) 0) 2) 2),pV 8 (.ext (.s 15) 1)],pR [pV 13 (.bin .neq (.s 8) (pI 0))]] (.cond (.s 13) (pQ [pR [pV 2 (.s 3),(3,.no)]] .ret) .skip)))] (pR [pV 4 (.bin .add (.s 4) (.bin .add (pI 1) (.m 6 0)))])))))),pR [pV 2 (.s 3),(3,.no)]] .ret,[(2,.v)]⟩
def PA:ZH Sol.prog fresh sig [.fz,.fz] [] Tryz.f111=some Hk:=Z2
def Kb:Fn:=⟨11,[0,1,2,19,18,20,7,17,8,9,42],
pQ [.reg ⟨[],[([],.ai (.c (.agg [(.bool true),(.bool true),(.bool true),(.bool true)])) (.bin .sub (.s 1) (pI 1)) 4 1 false)],[(0,.m [.m 0 0,.m 0 1,.m 0 2,.m 0 3,.m 0 4,.m 0 5,.m 0 6,.m 0 7,.m 0 8,.m 0 9,.m 0 10,.m 0 11,.m 0 12,.m 0 13,.m 0 14,.m 0 15,.m 0 16,.fld (.aput (.mm 0 17 4) (.bin .sub (.s 1) (pI 1)) 4 1 (.one (.s 2))) 0,.fld (.aput (.mm 0 17 4) (.bin .sub (.s 1) (pI 1)) 4 1 (.one (.s 2))) 1,.fld (.aput (.mm 0 17 4) (.bin .sub (.s 1) (pI 1)) 4 1 (.one (.s 2))) 2,.fld (.aput (.mm 0 17 4) (.bin .sub (.s 1) (pI 1)) 4 1 (.one (.s 2))) 3,.m 0 21,.m 0 22])]⟩,pR [pV 3 (pI 0),pV 4 (.len (.s 2)),pV 7 (.s 2)]] (.block 0 (.loop [0,1,2,3,4,7] (pQ [pR [pV 5 (.bin .lss (.s 3) (.s 4))],.cond (.s 5) .skip (.exit 0),.block 1 (pQ [pR [(6,pM (.flds (.idx (.s 7) (.s 3) 5) 0 5) 5)],pC [pK 11 57 [.mm 0 10 7,.ag [.one (.s 1),.m 6 0]]] [pV 8 (.ext (.s 11) 0),pV 9 (.ext (.s 11) 1)],pR [(0,.m [.m 0 0,.m 0 1,.m 0 2,.m 0 3,.m 0 4,.m 0 5,.m 0 6,.m 0 7,.m 0 8,.m 0 9,.m 0 10,.m 0 11,.m 0 12,.m 0 13,.m 0 14,.m 0 15,.m 0 16,.m 0 17,.m 0 18,.m 0 19,.m 0 20,.mput (.i .u64) (.m 0 21) (.s 8) (.s 1),.m 0 22])],pR [pV 10 (.bin .eql (.s 1) (pI 1))]] (.cond (.s 10) (pR [(0,.m [.m 0 0,.m 0 1,.m 0 2,.m 0 3,.m 0 4,.m 0 5,.m 0 6,.m 0 7,.m 0 8,.m 0 9,.m 0 10,.m 0 11,.m 0 12,.m 0 13,.m 0 14,.m 0 15,.m 0 16,.m 0 17,.m 0 18,.m 0 19,.m 0 20,.m 0 21,.mput (.i .u64) (.m 0 22) (.s 8) (.mm 6 1 2)])]) .skip))] (pR [pV 3 (.bin .add (.s 3) (pI 1))])))),[]⟩
def PB:ZH Sol.prog fresh sig [(.mem [.fz,.fz,.fz,.fz,.fz,.fz,.fz,.fz,.fz,.fz,.fz,.fz,.fz,.fz,.fz,.fz,.fz,.fz,.fz,.fz,.fz,(.own 63),(.own 144)]),.fz,.fz] [(0,(.mem [.fz,.fz,.fz,.fz,.fz,.fz,.fz,.fz,.fz,.fz,.fz,.fz,.fz,.fz,.fz,.fz,.fz,.fz,.fz,.fz,.fz,(.own 63),(.own 144)]))] Tryz.f112=some Kb:=Z2
def AH:Fn:=⟨11,[0,1,2,3,8,14,9,10,21,11,12],
pQ [pR [pV 4 pF],pQ [pR [pV 5 (.bin .eql (.s 1) (pU 0))]] (.cond (.s 5) (pQ [pR [pV 4 pT]] .ret) .skip),pC [pK 11 29 [.s 1]] [pV 6 (.ext (.s 11) 0),pV 7 (.ext (.s 11) 1)],pQ [pR [pV 8 (.bin .neq (.s 7) (pI 0))]] (.cond (.s 8) (pQ [pR [pV 4 pF]] .ret) .skip),pR [pV 9 (.ext (.lk (.i .u64) (.fld (.star (.s 0)) 21) (.s 6) (.int .i64 0) true) 0),pV 10 (.ext (.lk (.i .u64) (.fld (.star (.s 0)) 21) (.s 6) (.int .i64 0) true) 1)],.reg ⟨[.lt 12 [] (.s 10),.lt 13 [] (.ite (.s 12) (.bin .geq (.s 9) (.s 2)) pF)],[([(12,true)],.bin .geq (.s 9) (.s 2)),([(13,true)],.bin .leq (.s 9) (.s 3))],[pV 4 (.ite (.s 13) (.bin .leq (.s 9) (.s 3)) pF)]⟩] .ret,[(4,.v)]⟩
def PC:ZH Sol.prog fresh sig [.fz,.fz,.fz,.fz] [] Tryz.f113=some AH:=Z2
def Hl:Fn:=⟨17,[0,1,2,6,7,23,22,24,9,21,28,32,31,33,10,11,47],
pQ [pR [pV 3 pF],pC [pK 17 109 [.s 0,.s 1]] [pV 4 (.s 17)],pQ [pR [pV 5 (pI 0),pV 6 (.len (.fld (.ai (.flds (.star (.s 0)) 17 4) (.bin .sub (.s 1) (pI 1)) 4 1 true) 0)),pV 9 (.fld (.ai (.flds (.star (.s 0)) 17 4) (.bin .sub (.s 1) (pI 1)) 4 1 true) 0)]] (.block 0 (.loop [0,1,2,3,4,5,6,9] (pQ [pR [pV 7 (.bin .lss (.s 5) (.s 6))],.cond (.s 7) .skip (.exit 0),.block 1 (pQ [pR [(8,pM (.flds (.idx (.s 9) (.s 5) 5) 0 5) 5)],pQ [pR [pV 10 (.m 8 3)]] (.cond (.s 10) (.exit 1) .skip),pR [pV 11 (pI 0),pV 12 (.m 8 2)]] (.block 2 (.loop [0,1,2,3,4,5,6,7,8,9,10,11,12] (pQ [pR [pV 13 (.bin .lss (.s 11) (.s 12))],.cond (.s 13) .skip (.exit 2),.block 3 (pQ [pR [pV 14 (.s 11)],pR [pV 15 (.bin .add (.bin .add (.m 8 0) (pI 1)) (.s 14))],pC [.call 18 [] (.e (.s 2)) false false [.s 15,.fld (.idx (.s 4) (.s 15) 1) 0]] [pV 16 (.un .not (.s 18))]] (.cond (.s 16) (pQ [pR [pV 3 pF]] .ret) .skip))] (pR [pV 11 (.bin .add (.s 11) (pI 1))])))))] (pR [pV 5 (.bin .add (.s 5) (pI 1))])))),pR [pV 3 pT]] .ret,[(3,.v)]⟩
def PD:ZH Sol.prog fresh sig [.fz,.fz,.fz] [] Tryz.f114=some Hl:=Z2
def Hm:Fn:=⟨4,[0,1,2,5],
pQ [pR [pV 3 pF],pC [pK 4 113 [.fld (.star (.s 2)) 0,.s 1,pI 1,pI 2]] [pV 3 (.s 4)]] .ret,[(3,.v)]⟩
def PE:ZH Sol.prog fresh sig [.fz,.fz,.fz] [] Tryz.f115=some Hm:=Z2
def AI:Fn:=⟨4,[0,1,2,5],
pQ [pR [pV 3 pF],pC [.lt 4 [] (.bin .geq (.s 0) (.fld (.star (.fld (.star (.s 2)) 0)) 4)),.call 5 [(4,false)] (.id 113) false false [.fld (.star (.s 2)) 0,.s 1,pI 1,pI 2]] [pV 3 (.ite (.s 4) pT (.s 5))]] .ret,[(3,.v)]⟩
def PF:ZH Sol.prog fresh sig [.fz,.fz,.fz] [] Tryz.f116=some AI:=Z2
def AJ:Fn:=⟨4,[0,1,2,5],
pQ [pR [pV 3 pF],pC [.lt 4 [] (.bin .lss (.s 0) (.fld (.star (.fld (.star (.s 2)) 0)) 4)),.call 5 [(4,false)] (.id 113) false false [.fld (.star (.s 2)) 0,.s 1,pI 1,pI 4]] [pV 3 (.ite (.s 4) pT (.s 5))]] .ret,[(3,.v)]⟩
def PG:ZH Sol.prog fresh sig [.fz,.fz,.fz] [] Tryz.f117=some AJ:=Z2
def Hn:Fn:=⟨4,[0,1,2,5],
pQ [pR [pV 3 pF],pC [pK 4 113 [.fld (.star (.s 2)) 0,.s 1,pI 3,pI 4]] [pV 3 (.s 4)]] .ret,[(3,.v)]⟩
def PH:ZH Sol.prog fresh sig [.fz,.fz,.fz] [] Tryz.f118=some Hn:=Z2
end Vm
end
section
namespace Vm
open Go Go.Proofs
def XK{α:Type}(l:List (Int×α))(k:Int)(v:α):List (Int×α):=match l.findIdx? (·.1==k)with
 |some i=>l.set i (k,v)
 |none=>l++[(k,v)]
def Y0{α:Type}(l:List (Int×α))(k:Int):Option α:=(l.find? (·.1==k)).map (·.2)
def Yd{α:Type}(f:α->V)(l:List (Int×α)):V:=.mp 0 (l.map λx=>vu x.1) (l.map λx=>f x.2)
def jc{α:Type}{k:Int}:∀ {l:List (Int×α)},UT (vu k) (l.map λx=>vu x.1)=some (l.findIdx? (·.1==k))
 | []=>rfl
 |y::l=>by
  simp only[ZdK,UT,JS,Ze3,Zg3];by_cases h:k=y.1
  ·simp[h]
  ·have a:(k==y.1)=false:=by simpa using h
   have d:(y.1==k)=false:=by simpa using Zfu h
   simp[a,d,jc]
def JA{α:Type}{p:α->Bool}:∀ {l:List α},l.find? p=(l.findIdx? p).bind λi=>l[i]?
 | []=>rfl
 |x::l=>by
  rw[ZgF,Zg3];cases h:p x
  ·simp only[Zdy,Ze1];rw[JA (l:=l)];cases l.findIdx? p<;>simp
  ·simp
theorem Rs{α:Type}{f:α->V}{l:List (Int×α)}{k:Int}{z:V}{ok:Bool}:Ub (.i .u64) (Yd f l) (vu k) z ok=match Y0 l k with
  |some x=>some (if ok then .tup [f x,.bool true]else f x)
  |none=>some (if ok then .tup [z,.bool false]else z):=by
 unfold Ub Yd Y0;simp only[WX,ZgK,ZeQ,Ze1,jc,JA]
 grind [List.findIdx?_eq_some_iff_getElem]
def JX{α:Type}{f:α->V}{l:List (Int×α)}{k:Int}{x:α}:Uy (.i .u64) (Yd f l) (vu k) (f x)=some (Yd f (XK l k x)):=by
 unfold Uy Yd XK;simp only[WX,ZgK,ZeQ,Ze1,jc];cases h:l.findIdx? (·.1==k)with
 |none=>simp
 |some i=>
  have g:=Zeg.1 h;obtain⟨d,n,_⟩:=g;have a:(l[i]).1=k:=by simpa using n
  simp only[Zdj,V.mp.injEq,true_and];constructor
  ·rw[Zg0];apply Zgf;intro j;rw[List.getElem?_set];split
   ·rename_i e;subst e;simp[d,a]
   ·rfl
  ·rw[Zg0]
@[simp]theorem ZaX{α:Type}(f:α->V)(l:List (Int×α)):YR (Yd f l)=some (Yd f l):=rfl
@[simp]theorem Z8Z{α:Type}(f:α->V)(l:List (Int×α)):(Yd f l).cells=[Yd f l]:=rfl
@[simp]theorem Zb8{α:Type}(f:α->V)(l:List (Int×α)):(Yd f l).one=true:=rfl
@[simp]theorem ZaM{α:Type}(f:α->V)(l:List (Int×α)):Sx (Yd f l)=some (vi l.length):=by simp[Yd]
def Qu{α:Type}{l:List (Int×α)}{k j:Int}{x:α}:Y0 (XK l k x) j=if k=j then some x else Y0 l j:=by
 unfold Y0 XK;cases h:l.findIdx? (·.1==k)with
 |none=>
  grind
 |some i=>
  obtain⟨n,g,d⟩:=Zeg.1 h;have a:(l[i]).1=k:=by simpa using g
  simp only;by_cases e:k=j
  ·subst e;rw[if_pos rfl,JA]
   grind [List.findIdx?_eq_some_iff_getElem,List.getElem_set_ne]
  ·rw[if_neg e,JA,JA]
   have:(l.set i (k,x)).findIdx? (·.1==j)=l.findIdx? (·.1==j):=by
    apply Option.ext;intro q;rw[Zeg,Zeg];have t:((k,x).1==j)=false:=by simpa using e
    have f:((l[i]).1==j)=false:=by rw[a];simpa using e
    constructor
    ·grind
    ·grind
   rw[this];cases o:l.findIdx? (·.1==j)with
   |none=>rfl
   |some q=>
    obtain⟨p,r,_⟩:=Zeg.1 o
    grind
structure Ck where
 h:Hp
 o1:List Ob
 o2:List Ob
 o3:List Ob
 o4:List Ob
 pm:List (Int×Int)
 lm:List (Int×(Int×Int))
def Ck.obs(s:Ck)(k:Int):List Ob:=if k=1 then s.o1 else if k=2 then s.o2 else if k=3 then s.o3 else s.o4
def ZR(s:Ck):List V:=[vu s.h.base,vi s.h.cap,vi s.h.to,.bool s.h.cycle,vi s.h.scan,.sl (s.h.low.map vu),.sl (s.h.high.map vu),.sl (s.h.old.map vu),.sl (s.h.far.map vu),.sl (s.h.roots.map vu),
 vu s.h.base,vi s.h.cap,vi s.h.to,vi s.h.low.length,vi s.h.high.length,vi s.h.old.length,vi s.h.far.length,
 .sl (s.o1.map ZE),.sl (s.o2.map ZE),.sl (s.o3.map ZE),.sl (s.o4.map ZE),Yd vi s.pm,Yd Xa s.lm]
def X7(s:Ck):V:=.ptr (ZR s)
def SR:IntKind.i64.wrap 0=0:=by decide
def UI:IntKind.i64.wrap 1=1:=by decide
def VH:IntKind.i64.wrap 2=2:=by decide
def U2:IntKind.i64.wrap 3=3:=by decide
def NQ{s:Ck}{k:Int}(a:1<=k/\k<=4):VC Sol.prog 109 false [X7 s,vi k] (.sl ((Zz s.h k).map vu)):=by
 refine ZN Sol.func109 follows Z2 Pz rfl ?_;have:k=1\/k=2\/k=3\/k=4:=Z0;obtain rfl|rfl|rfl|rfl:=this<;>simp[Hj,X7,ZR,Zz,Y6,SR,UI,VH,U2]
def YQ(s:Ck)(w first last:Int):Bool:=decide (w=0)||(decide ((adr w).2=0)&&match Y0 s.pm (adr w).1 with
 |some k=>decide (first<=k)&&decide (k<=last)
 |none=>false)
def Kl{s:Ck}{w first last:Int}(f:ZA w):VC Sol.prog 113 false [X7 s,vu w,vi first,vi last] (.bool (YQ s w first last)):=by
 refine ZN Sol.func113 follows Z2 PC rfl ?_;unfold YQ;by_cases a:w=0
 ·simp[AH,a]
 simp[AH,a,X7,ZR];refine Zw (Jg f) Z1 ?_;by_cases d:(adr w).2=0
 case neg=>simp[d]
 simp[d,Rs];cases g:Y0 s.pm (adr w).1 with
 |none=>simp
 |some k=>
  simp_all
def Wr(h:Hp)(k:Int):List (Int×Int)->List Ob->List (Int×Int)
 |m,[]=>m
 |m,o::l=>Wr h k (XK m (ZW (Zv h) k o.at_).1 k) l
def Xg(h:Hp)(k:Int):List (Int×(Int×Int))->List Ob->List (Int×(Int×Int))
 |m,[]=>m
 |m,o::l=>Xg h k (if k=1 then XK m (ZW (Zv h) k o.at_).1 (o.size,o.ptrs)else m) l
def Ck.put(s:Ck)(k:Int)(l:List Ob):Ck:=if k=1 then {s with o1:=l}else if k=2 then {s with o2:=l}else if k=3 then {s with o3:=l}else {s with o4:=l}
def XP(s:Ck)(k:Int)(l:List Ob):Ck:= {s.put k l with pm:=Wr s.h k s.pm l,lm:=Xg s.h k s.lm l}
def K5{h:Hp}{k:Int}:∀ {l:List Ob} {i:Nat} {o:Ob} {m:List (Int×Int)},l[i]?=some o->Wr h k m (l.take (i+1))=XK (Wr h k m (l.take i)) (ZW (Zv h) k o.at_).1 k
 | [],_,_,_,h=>Zd1
 |x::l,0,o,m,h=>by simp_all[Wr]
 |x::l,i+1,o,m,h=>by
  simp_all[ZgH,Wr,K5]
def K3{h:Hp}{k:Int}:∀ {l:List Ob} {i:Nat} {o:Ob} {m:List (Int×(Int×Int))},l[i]?=some o->Xg h k m (l.take (i+1))=if k=1 then XK (Xg h k m (l.take i)) (ZW (Zv h) k o.at_).1 (o.size,o.ptrs)else Xg h k m (l.take i)
 | [],_,_,_,h=>Zd1
 |x::l,0,o,m,h=>by simp_all[Xg]
 |x::l,i+1,o,m,h=>by
  simp_all[ZgH,Xg,K3]
abbrev Ln:List CK:=[.fz,.fz,.fz,.fz,.fz,.fz,.fz,.fz,.fz,.fz,.fz,.fz,.fz,.fz,.fz,.fz,.fz,.fz,.fz,.fz,.fz,.own 63,.own 144]
@[simp]theorem Z5i(s:Ck)(k:Int)(l:List Ob):(s.put k l).h=s.h:=by
 unfold Ck.put;split
 ·rfl
 split
 ·rfl
 split<;>rfl
def zu{l:List (Int×Int)}{k x:Int}:Uy (.i .u64) (Yd vi l) (vu k) (vi x)=some (Yd vi (XK l k x)):=JX
def zw{l:List (Int×(Int×Int))}{k a b:Int}:Uy (.i .u64) (Yd Xa l) (vu k) (.agg [vi a,vi b])=some (Yd Xa (XK l k (a,b))):=JX (f:=Xa) (x:=(a,b))
def zD{s:Ck}(r:s.h.ok){k:Int}(w:1<=k/\k<=4){l:List Ob}(x:l.length<=1000000):V7 Sol.prog 112 [.mem Ln,.fz,.fz] [.agg (ZR s),vi k,.sl (l.map ZE)] (.tup [.tup [],.agg (ZR (XP s k l))]):=by
 refine J7 Sol.func112 follows Z2 PB Z2 ?_;have t:k=1\/k=2\/k=3\/k=4:=Z0;have q:l.length<=Y2:=by unfold Y2;omega
 have u:∀k,({s.put k l with pm:=s.pm,lm:=s.lm}:Ck)=s.put k l:=by
  intro k;unfold Ck.put;split
  ·rfl
  split
  ·rfl
  split<;>rfl
 have o:=λ(k at_:Int)=>D6 r.lay (part:=k) (at_:=at_);unfold Zv X3 at o;obtain rfl|rfl|rfl|rfl:=t
 ·simp[Kb,ZR,Y6,Up,SR,UI,VH,U2,setCells];refine WM 3 l.length (λi=>[(0,.m (ZR {s.put 1 l with pm:=Wr s.h 1 s.pm (l.take i),lm:=Xg s.h 1 s.lm (l.take i)})),(3,.v (vi i))]) (λ_=>True) (by simp[ZR,Ck.put,Wr,Xg]) Z1 trivial ?_;intro i p _;have d:=Zy ((i:Int)+1) Z0 Z0;by_cases a:i<l.length
  ·have f:l[i]?=some l[i]:=Zdk a;have g:=K5 (h:=s.h) (k:=1) (m:=s.pm) f;have j:=K3 (h:=s.h) (k:=1) (m:=s.lm) f;have n:=o 1 (l[i]).at_;simp[a,f,d,ZR,Y9];refine Zw n Z1 ?_;simp[zu,zw,g,j,d,a]
   first|done|rfl|exact⟨rfl,rfl⟩
  ·have:i=l.length:=Z0;subst this;simp[ZR,XP,Zek]
 ·simp[Kb,ZR,Y6,Up,SR,UI,VH,U2,setCells];refine WM 3 l.length (λi=>[(0,.m (ZR {s.put 2 l with pm:=Wr s.h 2 s.pm (l.take i),lm:=Xg s.h 2 s.lm (l.take i)})),(3,.v (vi i))]) (λ_=>True) (by simp[ZR,Ck.put,Wr,Xg]) Z1 trivial ?_;intro i p _;have d:=Zy ((i:Int)+1) Z0 Z0;by_cases a:i<l.length
  ·have f:l[i]?=some l[i]:=Zdk a;have g:=K5 (h:=s.h) (k:=2) (m:=s.pm) f;have j:=K3 (h:=s.h) (k:=2) (m:=s.lm) f;have n:=o 2 (l[i]).at_;simp[a,f,d,ZR,Y9];refine Zw n Z1 ?_;simp[zu,zw,g,j,d,a]
   first|done|rfl|exact⟨rfl,rfl⟩
  ·have:i=l.length:=Z0;subst this;simp[ZR,XP,Zek]
 ·simp[Kb,ZR,Y6,Up,SR,UI,VH,U2,setCells];refine WM 3 l.length (λi=>[(0,.m (ZR {s.put 3 l with pm:=Wr s.h 3 s.pm (l.take i),lm:=Xg s.h 3 s.lm (l.take i)})),(3,.v (vi i))]) (λ_=>True) (by simp[ZR,Ck.put,Wr,Xg]) Z1 trivial ?_;intro i p _;have d:=Zy ((i:Int)+1) Z0 Z0;by_cases a:i<l.length
  ·have f:l[i]?=some l[i]:=Zdk a;have g:=K5 (h:=s.h) (k:=3) (m:=s.pm) f;have j:=K3 (h:=s.h) (k:=3) (m:=s.lm) f;have n:=o 3 (l[i]).at_;simp[a,f,d,ZR,Y9];refine Zw n Z1 ?_;simp[zu,zw,g,j,d,a]
   first|done|rfl|exact⟨rfl,rfl⟩
  ·have:i=l.length:=Z0;subst this;simp[ZR,XP,Zek]
 ·simp[Kb,ZR,Y6,Up,SR,UI,VH,U2,setCells];refine WM 3 l.length (λi=>[(0,.m (ZR {s.put 4 l with pm:=Wr s.h 4 s.pm (l.take i),lm:=Xg s.h 4 s.lm (l.take i)})),(3,.v (vi i))]) (λ_=>True) (by simp[ZR,Ck.put,Wr,Xg]) Z1 trivial ?_;intro i p _;have d:=Zy ((i:Int)+1) Z0 Z0;by_cases a:i<l.length
  ·have f:l[i]?=some l[i]:=Zdk a;have g:=K5 (h:=s.h) (k:=4) (m:=s.pm) f;have j:=K3 (h:=s.h) (k:=4) (m:=s.lm) f;have n:=o 4 (l[i]).at_;simp[a,f,d,ZR,Y9];refine Zw n Z1 ?_;simp[zu,zw,g,j,d,a]
   first|done|rfl|exact⟨rfl,rfl⟩
  ·have:i=l.length:=Z0;subst this;simp[ZR,XP,Zek]
end Vm
namespace Vm
open Go Go.Proofs
def WS(s:Ck):V:=.ptr [X7 s]
def Z6E{s:Ck}{a w:Int}(d:ZA w):VC Sol.prog 115 false [vi a,vu w,WS s] (.bool (YQ s w 1 2)):=by
 refine ZN Sol.func115 follows Z2 PE rfl ?_;have k:=Kl (s:=s) (first:=1) (last:=2) d;unfold WS X7 at*;simp[Hm,YR,V.one];refine Zw k Z1 ?_;simp
def Z6F{s:Ck}{a w:Int}(d:ZA w):VC Sol.prog 116 false [vi a,vu w,WS s] (.bool (decide (s.h.scan<=a)||YQ s w 1 2)):=by
 refine ZN Sol.func116 follows Z2 PF rfl ?_;have k:=Kl (s:=s) (first:=1) (last:=2) d;unfold WS X7 at*;by_cases h:s.h.scan<=a
 ·simp[AI,YR,V.one,ZR,h]
 ·simp[AI,YR,V.one,ZR,h];refine Zw k (by simp[ZR]) ?_;simp[h]
def Z7A{s:Ck}{a w:Int}(d:ZA w):VC Sol.prog 117 false [vi a,vu w,WS s] (.bool (decide (a<s.h.scan)||YQ s w 1 4)):=by
 refine ZN Sol.func117 follows Z2 PG rfl ?_;have k:=Kl (s:=s) (first:=1) (last:=4) d;unfold WS X7 at*;by_cases h:a<s.h.scan
 ·simp[AJ,YR,V.one,ZR,h]
 ·simp[AJ,YR,V.one,ZR,h];refine Zw k (by simp[ZR]) ?_;simp[h]
def FP{s:Ck}{a w:Int}(d:ZA w):VC Sol.prog 118 false [vi a,vu w,WS s] (.bool (YQ s w 3 4)):=by
 refine ZN Sol.func118 follows Z2 PH rfl ?_;have k:=Kl (s:=s) (first:=3) (last:=4) d;unfold WS X7 at*;simp[Hn,YR,V.one];refine Zw k Z1 ?_;simp
structure Ck.ok (s:Ck):Prop where
 h:s.h.ok
 ob:∀k,∀o∈s.obs k,Q7 (Zz s.h k).length o/\ZA o.target
 len:∀k,(s.obs k).length<=1000000
def VI(ws:List Int)(k:Nat):Int:=(ws[k]?).getD 0
def obQ(s:Ck)(k:Int)(q:Int->Int->Bool)(o:Ob):Bool:=o.gone||(List.range o.ptrs.toNat).all λj=>q ((o.at_.toNat+1+j:Nat):Int) (VI (Zz s.h k) (o.at_.toNat+1+j))
def WG(s:Ck)(k:Int)(q:Int->Int->Bool):Bool:=(s.obs k).all (obQ s k q)
def Kk{s:Ck}(u:s.ok){k:Int}(S:1<=k/\k<=4){f:FuncId}{cs:List V}{q:Int->Int->Bool}(X:∀a w,ZA w->VC Sol.prog f false ([vi a,vu w]++cs) (.bool (q a w))):
  VC Sol.prog 114 false [X7 s,vi k,.clo f cs] (.bool (WG s k q)):=by
 refine ZN Sol.func114 follows Z2 PD rfl ?_;simp[-List.all_eq_true,-List.all_eq_false,Hl];refine Zw (NQ S) Z1 ?_;have W:ZZ (.agg [.sl (s.o1.map ZE),.sl (s.o2.map ZE),.sl (s.o3.map ZE),.sl (s.o4.map ZE)]) 0=some (.sl (s.o1.map ZE)):=rfl;have O:=u.len k;have D:=u.ob k;have Z:=(YZ u.h k).1;have U:=(YZ u.h k).2
 have x:Y6 (.agg [.sl (s.o1.map ZE),.sl (s.o2.map ZE),.sl (s.o3.map ZE),.sl (s.o4.map ZE)]) (.int .i64 (IntKind.i64.wrap (k-1))) 4 1 true=some (.agg [.sl ((s.obs k).map ZE)]):=by
  have:k=1\/k=2\/k=3\/k=4:=Z0;obtain rfl|rfl|rfl|rfl:=this<;>simp[Y6,Ck.obs,SR,UI,VH,U2]
 unfold WG;generalize hL:s.obs k=L at*;generalize Q:Zz s.h k=r at*;simp[-List.all_eq_true,-List.all_eq_false,X7,ZR,x];refine Tl 5 L.length (λi=>(L.take i).all (obQ s k q)=true) Z1 Z1 Z1 ?_;intro i hi M;have a0:=Zy ((i:Int)+1) Z0 Z0;by_cases l:i<L.length
 ·have J:L[i]?=some L[i]:=Zdk l;obtain⟨⟨⟨a,K,N⟩,F⟩,_⟩:=D _ (ZdA l);generalize L[i]=o at*;obtain⟨s1,s2,s3,s4⟩:=Yf.1 F;obtain⟨m,P⟩:=Zdz s3;have G:=Zy ((a:Int)+1) Z0 Z0;have C:obQ s k q o=true->(L.take (i+1)).all (obQ s k q)=true:=λh=>by simp_all[Jh]
  have y:obQ s k q o=false->L.all (obQ s k q)=false:=λg=>Q9 J g;cases z:o.gone
  ·have t:obQ s k q o=(List.range m).all λj=>q ((a+1+j:Nat):Int) (VI r (a+1+j)):=by
    unfold obQ;rw[P,K,Q,z];rfl
   simp[-List.all_eq_true,-List.all_eq_false,l,J,ZU J,Y9,z,K,P];refine Tl 11 m (λj=>((List.range j).all λj=>q ((a+1+j:Nat):Int) (VI r (a+1+j)))=true) Z1 Z1 Z1 ?_;intro j hj R;have a1:=Zy ((j:Int)+1) Z0 Z0;by_cases A:j<m
   ·obtain⟨w,d,Y⟩:∃w,r[a+1+j]?=some w/\ZA w:=⟨_,Zdk Z0,Z _ (ZdA _)⟩;have I:VI r (a+1+j)=w:=by unfold VI;rw[d];rfl
    have p:((List.range (j+1)).all λj=>q ((a+1+j:Nat):Int) (VI r (a+1+j)))=(((List.range j).all λj=>q ((a+1+j:Nat):Int) (VI r (a+1+j)))&&q ((a+1+j:Nat):Int) w):=by
     rw[Zfe,ZgE];simp[I]
    have g:q ((a+1+j:Nat):Int) w=false->L.all (obQ s k q)=false:=λg=>y (by
     grind)
    obtain⟨n,T⟩:∃n,a+1+j=n:=⟨_,rfl⟩;have B:(a:Int)+1+(j:Int)=(n:Int):=Z0;have H:=Zy (n:Int) Z0 Z0;rw[T]at d p g;have kq:=X (n:Int) w Y;simp[-List.all_eq_true,-List.all_eq_false,A,G,B,H,d,ZU d,Y9];refine Zw kq Z1 ?_;simp_all
   ·have:j=m:=Z0;simp_all
  ·have t:obQ s k q o=true:=by unfold obQ;rw[z];rfl
   simp_all
 ·have:i=L.length:=Z0;simp_all
@[simp]theorem Zbg(l:List V):(V.ptr l).one=true:=rfl
@[simp]theorem Zb5(l:List V):YR (.ptr l)=some (.ptr l):=rfl
@[simp]theorem Zbc(f:FuncId)(l:List V):(V.clo f l).one=true:=rfl
@[simp]theorem Zb1(f:FuncId)(l:List V):YR (.clo f l)=some (.clo f l):=rfl
@[simp]theorem Zb0(s:Ck):YR (X7 s)=some (X7 s):=rfl
@[simp]theorem Zbb(s:Ck):(X7 s).one=true:=rfl
@[simp]theorem ZbK(s:Ck):UH (X7 s)=some (.agg (ZR s)):=rfl
@[simp]theorem Z9g(s:Ck):(ZR s)[4]?=some (vi s.h.scan):=rfl
@[simp]theorem Z99(s:Ck):(ZR s)[3]?=some (.bool s.h.cycle):=rfl
@[simp]theorem Z9f(s:Ck):(ZR s)[9]?=some (.sl (s.h.roots.map vu)):=rfl
@[simp]theorem Z9d(s:Ck):(ZR s)[5]?=some (.sl (s.h.low.map vu)):=rfl
@[simp]theorem Z9b(s:Ck):(ZR s)[6]?=some (.sl (s.h.high.map vu)):=rfl
@[simp]theorem Z9e(s:Ck):(ZR s)[7]?=some (.sl (s.h.old.map vu)):=rfl
@[simp]theorem Z9a(s:Ck):(ZR s)[8]?=some (.sl (s.h.far.map vu)):=rfl
@[simp]theorem Z98(s:Ck):(ZR s)[1]?=some (vi s.h.cap):=rfl
def RR(s:Ck):Bool:=s.h.roots.all (λw=>YQ s w 1 2)&&(WG s 2 (λ_ w=>YQ s w 1 2)&&WG s 1 (λa w=>decide (s.h.scan<=a)||YQ s w 1 2))
def Z6G{s:Ck}(n:s.ok):VC Sol.prog 100 false [X7 s] (.bool (RR s)):=by
 refine ZN Sol.func100 follows Z2 Pr rfl ?_;have k1:=Kk n (k:=2) Z0 (f:=115) (cs:=[WS s]) (q:=λ_ w=>YQ s w 1 2) (λa w l=>Z6E l);have y:=Kk n (k:=1) Z0 (f:=116) (cs:=[WS s]) (q:=λa w=>decide (s.h.scan<=a)||YQ s w 1 2) (λa w l=>Z6F l);have C:=λw (l:ZA w)=>Kl (s:=s) (first:=1) (last:=2) l;have A:=n.h.roots;have t:=n.h.rootsW;unfold RR;unfold WS at k1 y;generalize WG s 2 (λ_ w=>YQ s w 1 2)=z at*;generalize WG s 1 (λa w=>decide (s.h.scan<=a)||YQ s w 1 2)=D at*;simp[-List.all_eq_true,-List.all_eq_false,Hb];refine Tl 3 s.h.roots.length (λi=>(s.h.roots.take i).all (λw=>YQ s w 1 2)=true) Z1 Z1 Z1 ?_;intro i F g;have u:=Zy ((i:Int)+1) Z0 Z0;by_cases j:i<s.h.roots.length
 ·have o:s.h.roots[i]?=some s.h.roots[i]:=Zdk j;have B:=t _ (ZdA j);generalize s.h.roots[i]=w at*;have p:YQ s w 1 2=false->s.h.roots.all (λw=>YQ s w 1 2)=false:=λr=>Q9 o r;have d:=Jh (q:=λw=>YQ s w 1 2) o;rw[g]at d;simp[-List.all_eq_true,-List.all_eq_false,j,o,ZU o,Y9];refine Zw (C w B) Z1 ?_;cases x:YQ s w 1 2
  ·simp[-List.all_eq_true,-List.all_eq_false,p x]
  ·rw[x]at d;simp[-List.all_eq_true,-List.all_eq_false,u,j,d]
 ·have:i=s.h.roots.length:=Z0;subst this;rw[Zem]at g;simp[-List.all_eq_true,-List.all_eq_false,g];refine Zw k1 (by simp[Wh,V.flatc]) ?_;cases z
  ·simp
  ·simp;refine Zw y (by simp[Wh,V.flatc]) ?_;simp
def RX(s:Ck):Bool:=WG s 1 (λa w=>decide (a<s.h.scan)||YQ s w 1 4)
def Z7B{s:Ck}(d:s.ok):VC Sol.prog 101 false [X7 s] (.bool (RX s)):=by
 refine ZN Sol.func101 follows Z2 Ps rfl ?_;have k1:=Kk d (k:=1) Z0 (f:=117) (cs:=[WS s]) (q:=λa w=>decide (a<s.h.scan)||YQ s w 1 4) (λa w g=>Z7A g);unfold RX;unfold WS at k1;simp[Hc];refine Zw k1 (by simp[Wh,V.flatc]) ?_;simp
def Rq(s:Ck):Bool:=WG s 3 (λ_ w=>YQ s w 3 4)&&WG s 4 (λ_ w=>YQ s w 3 4)
def Z2N{s:Ck}(g:s.ok):VC Sol.prog 102 false [X7 s] (.bool (Rq s)):=by
 refine ZN Sol.func102 follows Z2 Pt rfl ?_;have k1:=Kk g (k:=3) Z0 (f:=118) (cs:=[WS s]) (q:=λ_ w=>YQ s w 3 4) (λa w d=>FP d);have h:=Kk g (k:=4) Z0 (f:=118) (cs:=[WS s]) (q:=λ_ w=>YQ s w 3 4) (λa w d=>FP d);unfold Rq;unfold WS at k1 h;generalize WG s 3 (λ_ w=>YQ s w 3 4)=j at*;generalize WG s 4 (λ_ w=>YQ s w 3 4)=l at*;simp[Hd];refine Zw k1 (by simp[Wh,V.flatc]) ?_;cases j
 ·simp
 ·simp;refine Zw h (by simp[Wh,V.flatc]) ?_;simp
end Vm
namespace Vm
open Go Go.Proofs
def Sf(s:Ck):Bool:=ZJ (Zv s.h)&&(decide (s.h.roots.length<=16)&&(decide (0<=s.h.scan)&&decide (s.h.scan<=s.h.low.length)))
def Pq{s:Ck}(f:s.h.ok):VC Sol.prog 96 false [X7 s] (.bool (Sf s)):=by
 refine ZN Sol.func96 follows Z2 c96 rfl ?_;have k:=Kz f.lay;unfold Sf;unfold Zv X3 at k;simp[Ip];simp[ZR];refine Zw k Z1 ?_;have e:ZJ {base:=s.h.base,cap:=s.h.cap,to:=s.h.to,low:=(s.h.low.length:Int),high:=(s.h.high.length:Int),old:=(s.h.old.length:Int),far:=(s.h.far.length:Int)}=ZJ (Zv s.h):=rfl;rw[e];cases ZJ (Zv s.h)
 ·simp
 by_cases d:s.h.roots.length<=16
 ·have a:(s.h.roots.length:Int)<=16:=Z0;simp_all
 ·have a:¬(s.h.roots.length:Int)<=16:=Z0;simp[d,a]
def RL(s:Ck):Bool:=if s.h.cycle then decide (s.h.scan<s.h.low.length)else decide (s.h.old.length=0)&&(decide (s.h.far.length=0)&&decide (s.h.scan=s.h.low.length))
def Z5X{s:Ck}:VC Sol.prog 97 false [X7 s] (.bool (RL s)):=by
 refine ZN Sol.func97 follows Z2 c97 rfl ?_;unfold RL;cases f:s.h.cycle
 ·by_cases g:s.h.old.length=0
  ·have a:s.h.old=[]:=Zf6.1 g;by_cases j:s.h.far.length=0
   ·have d:s.h.far=[]:=Zf6.1 j;simp[Kh,f,a,d]
   ·have d:¬s.h.far=[]:=λe=>j (by simp[e]);simp[Kh,f,a,j,d]
  ·have a:¬s.h.old=[]:=λe=>g (by simp[e]);simp[Kh,f,g,a]
 ·simp[Kh,f]
def S8(s:Ck):Nat:=Y7 s.o3+Y7 s.o4
@[simp]theorem ZaR(s:Ck):((ZR s).drop 17).take 4=[.sl (s.o1.map ZE),.sl (s.o2.map ZE),.sl (s.o3.map ZE),.sl (s.o4.map ZE)]:=rfl
@[simp]theorem Z9c(s:Ck):(ZR s).length=23:=rfl
def ND{s:Ck}(t:s.ok):VC Sol.prog 51 false [X7 s] (vi (S8 s)):=by
 refine ZN Sol.func51 follows Z2 c51 rfl ?_;have p:∀k,∀o∈s.obs k,Ye o.size o.ptrs=true:=λk o n=>(t.ob k o n).1.2;have I:s.o3.length<=1000000:=t.len 3;have J:s.o4.length<=1000000:=t.len 4;have a:∀o∈s.o3,Ye o.size o.ptrs=true:=p 3;have d:∀o∈s.o4,Ye o.size o.ptrs=true:=p 4;have F:=Uj a;have G:=Uj d;have A:Y6 (.agg [.sl (s.o1.map ZE),.sl (s.o2.map ZE),.sl (s.o3.map ZE),.sl (s.o4.map ZE)]) (.int .i64 2) 4 1 true=some (.agg [.sl (s.o3.map ZE)]):=by simp[Y6]
 have B:Y6 (.agg [.sl (s.o1.map ZE),.sl (s.o2.map ZE),.sl (s.o3.map ZE),.sl (s.o4.map ZE)]) (.int .i64 3) 4 1 true=some (.agg [.sl (s.o4.map ZE)]):=by simp[Y6]
 simp[I1];refine Vp (λ(i:Nat)=>[(2,.v (vi ((if 0<i then Y7 s.o3 else 0)+(if 1<i then Y7 s.o4 else 0):Nat))),(3,.v (vi ((i+3:Nat):Int)))]) (λi=>i<=2) (ZY 3 5) 0 Z1 Z1 ?_;rintro i K;have q:i=0\/i=1\/i=2:=Z0;obtain rfl|rfl|rfl:=q
 ·simp[VH,A];refine WM 5 s.o3.length (λj=>[(2,.v (vi (Y7 (s.o3.take j)))),(5,.v (vi j))]) (λ_=>True) (by simp[Y7]) (λi=>Z1) trivial ?_;rintro j H-;have w:=Zy ((j:Int)+1) Z0 Z0;by_cases h:j<s.o3.length
  ·have x:s.o3[j]?=some s.o3[j]:=Zdk h;have f:=a _ (ZdA h);have u:=qg x;generalize s.o3[j]=o at*
   have r:Y7 (s.o3.take j)<=256*s.o3.length:=by
    refine ZdP (Uj λo n=>a o (Ze4 n)) ?_;simp;omega
   obtain⟨g1,g2,C,D⟩:=Yf.1 f;obtain⟨z,y⟩:=Zdz g1;have w1:=Zy (1+(z:Int)) Z0 Z0;have w2:=Zy ((Y7 (s.o3.take j):Int)+(1+z)) Z0 Z0;cases l:o.gone
   ·have g:XM o=1+z:=by simp[XM,l,y]
    simp_all
   ·have g:XM o=0:=by simp[XM,l]
    simp_all
  ·have:j=s.o3.length:=Z0;subst this;rw[Zem];simp[Y9,Zy];exact⟨1,Z0,Z1,ZcX⟩
 ·simp[U2,B];refine WM 5 s.o4.length (λj=>[(2,.v (vi (Y7 s.o3+Y7 (s.o4.take j):Nat))),(5,.v (vi j))]) (λ_=>True) (by simp[Y7]) (λi=>Z1) trivial ?_;rintro j H-;have w:=Zy ((j:Int)+1) Z0 Z0;by_cases h:j<s.o4.length
  ·have x:s.o4[j]?=some s.o4[j]:=Zdk h;have f:=d _ (ZdA h);have u:=qg x;generalize s.o4[j]=o at*
   have r:Y7 (s.o4.take j)<=256*s.o4.length:=by
    refine ZdP (Uj λo n=>d o (Ze4 n)) ?_;simp;omega
   obtain⟨g1,g2,C,D⟩:=Yf.1 f;obtain⟨z,y⟩:=Zdz g1;have w1:=Zy (1+(z:Int)) Z0 Z0;have w2:=Zy ((Y7 s.o3:Int)+Y7 (s.o4.take j)+(1+z)) Z0 Z0;cases l:o.gone
   ·have g:XM o=1+z:=by simp[XM,l,y]
    simp_all;omega
   ·have g:XM o=0:=by simp[XM,l]
    simp_all
  ·have:j=s.o4.length:=Z0;subst this;rw[Zem];simp[Y9,Zy];exact⟨2,Z0,Z1,ZcX⟩
 ·simp[S8]
def RP(s:Ck):Bool:=decide ((s.h.low.length:Int)+s.h.high.length+S8 s<=s.h.cap)
def Z7J{s:Ck}(a:s.ok):S8 s<=512*1000000:=by
 have f:=Uj (l:=s.o3) λo d=>(a.ob 3 o d).1.2;have g:=Uj (l:=s.o4) λo d=>(a.ob 4 o d).1.2;have h:s.o3.length<=1000000:=a.len 3;have j:s.o4.length<=1000000:=a.len 4
 grind [S8]
def Z61{s:Ck}(a:s.ok):VC Sol.prog 103 false [X7 s] (.bool (RP s)):=by
 refine ZN Sol.func103 follows Z2 Pu rfl ?_;have d:=Z7J a;have f:=a.h.low;have g:=a.h.high;have w1:=Zy ((s.h.low.length:Int)+s.h.high.length) Z0 Z0;have w2:=Zy ((s.h.low.length:Int)+s.h.high.length+S8 s) Z0 Z0;simp[He];refine Zw (ND a) Z1 ?_;simp[w1,w2,RP]
end Vm
namespace Vm
open Go Go.Proofs
def WA(lm:List (Int×(Int×Int)))(ws:List Int):Nat->Nat->List (Int×Int)->List (Int×Int)
 |0,_,a=>a
 |f+1,i,a=>
  match ws[i]? with
  |none=>a
  |some w=>if(adr w).2=0 then(match Y0 lm (adr w).1 with|none=>a|some sh=>WA lm ws f (i+1+sh.1.toNat) (a++[sh]))
   else if(ZO w).2.2=0 then WA lm ws f (i+1+(ZO w).1.toNat) a else a
def VG(lm:List (Int×(Int×Int)))(ws:List Int):List (Int×Int):=WA lm ws (ws.length+1) 0 []
def EO{α:Type}{l:List (Int×α)}{k:Int}{x:α}(h:Y0 l k=some x):(k,x)∈l:=by
 unfold Y0 at h;obtain⟨y,a,rfl⟩:=Zdm.1 h
 grind
def Z6I{s:Ck}(D:∀x∈s.lm,Ye x.2.1 x.2.2=true){ws:List Int}(K:ws.length<=1000000)(J:∀w∈ws,ZA w):
  VC Sol.prog 111 false [X7 s,.sl (ws.map vu)] (.sl ((VG s.lm ws).map Xa)):=by
 refine ZN Sol.func111 follows Z2 PA rfl ?_
 have C:∀k,Ub (.i .u64) (Yd Xa s.lm) (vu k) (.agg [vi 0,vi 0]) true=match Y0 s.lm k with
  |some x=>some (.tup [Xa x,.bool true])
  |none=>some (.tup [.agg [vi 0,vi 0],.bool false]):=λk=>by grind [Rs,Y0]
 have B:(ZR s)[22]?=some (Yd Xa s.lm):=rfl;simp[Hk]
 refine Vp (λ(p:Nat×List (Int×Int))=>[(3,.v (.sl (p.2.map Xa))),(4,.v (vi p.1))])
  (λp=>p.1<=ws.length+256/\p.2.length<=p.1/\∃f,ws.length<f+p.1/\0<f/\VG s.lm ws=WA s.lm ws f p.1 p.2) (ZY 4 ws.length) (0,[]) Z1 ⟨Z1,Z1,ws.length+1,Z1,Z0,rfl⟩ ?_
 rintro⟨i,g⟩ ⟨I,r,f,G,H,a⟩;simp only at I r G a;cases f with
 |zero=>omega
 |succ f=>
 by_cases d:i<ws.length
 ·have y:ws[i]?=some ws[i]:=Zdk d;have F:=J _ (ZdA d);generalize ws[i]=w at*;simp only[WA,y]at a;have u:g.length+1<=Y2:=ZcK;simp[d,y,ZU y,Y9];refine Zw (Jg F) Z1 ?_;by_cases A:(adr w).2=0
  ·rw[if_pos A]at a;simp[A,B,C];cases t:Y0 s.lm (adr w).1 with
   |none=>
    simp_all
   |some q=>
    rw[t]at a;simp only at a;have h:0<=q.1/\q.1<=255/\0<=q.2/\q.2<=q.1:=Yf.1 (D _ (EO t));obtain⟨z,o⟩:=Zdz h.1;have l:=Zy (1+(z:Int)) Z0 Z0;have n:=Zy ((i:Int)+(1+z)) Z0 Z0;rw[o,ZdF]at a;simp[u,o,l,n];refine⟨i+1+z,g++[q],⟨Z0,Zcr,f,Z0,?_,a⟩,⟨by simp[Xa,o],Z0⟩,ZcB⟩;omega
  ·rw[if_neg A]at a;simp[A,y,ZU y,d,Y9];refine Zw (Nv F) Z1 ?_;by_cases j:(ZO w).2.2=0
   ·rw[if_pos j]at a;have h:=Yf.1 (KW j);obtain⟨z,o⟩:=Zdz h.1;have l:=Zy (1+(z:Int)) Z0 Z0;have n:=Zy ((i:Int)+(1+z)) Z0 Z0;rw[o,ZdF]at a;simp[j,o,l,n];refine⟨i+1+z,g,⟨Z0,Z0,f,Z0,?_,a⟩,⟨rfl,Z0⟩,ZcB⟩;omega
   simp_all
 simp_all[Zeq,WA]
end Vm
namespace Vm
open Go Go.Proofs
def Wg(pm:List (Int×Int)):List Ob->List (Int×Bool)->Option (List (Int×Bool))
 | [],m=>some m
 |o::l,m=>if o.gone=true then(if(Y0 pm o.target).getD 0=1/\(Y0 m o.target).getD false=false then Wg pm l (XK m o.target true)else none)else Wg pm l m
def R6(s:Ck):Bool:= !s.h.cycle||match(Wg s.pm s.o3 []).bind (Wg s.pm s.o4)with
 |none=>false
 |some m=>decide (m.length=s.o1.length)
def Gq{l:List (Int×Bool)}{k:Int}{x:Bool}:Uy (.i .u64) (Yd .bool l) (vu k) (.bool x)=some (Yd .bool (XK l k x)):=JX
def QC{l:List (Int×Bool)}{k:Int}:Ub (.i .u64) (Yd .bool l) (vu k) (.bool false) false=some (.bool ((Y0 l k).getD false)):=by
 grind [Rs,Y0]
def QD{l:List (Int×Int)}{k:Int}:Ub (.i .u64) (Yd vi l) (vu k) (vi 0) false=some (vi ((Y0 l k).getD 0)):=by
 grind [Rs,Y0]
def Z3w{α:Type}(f:α->V):Yd f []=.mp 0 [] []:=rfl
def Z0s{s:Ck}(t:s.ok):VC Sol.prog 99 false [X7 s] (.bool (R6 s)):=by
 refine ZN Sol.func99 follows Z2 c99 rfl ?_;have I:s.o3.length<=1000000:=t.len 3;have J:s.o4.length<=1000000:=t.len 4;have A:∀o∈s.o3,ZA o.target:=λo z=>(t.ob 3 o z).2;have B:∀o∈s.o4,ZA o.target:=λo z=>(t.ob 4 o z).2;have G:Y6 (.agg [.sl (s.o1.map ZE),.sl (s.o2.map ZE),.sl (s.o3.map ZE),.sl (s.o4.map ZE)]) (.int .i64 2) 4 1 true=some (.agg [.sl (s.o3.map ZE)]):=by simp[Y6]
 have H:Y6 (.agg [.sl (s.o1.map ZE),.sl (s.o2.map ZE),.sl (s.o3.map ZE),.sl (s.o4.map ZE)]) (.int .i64 3) 4 1 true=some (.agg [.sl (s.o4.map ZE)]):=by simp[Y6]
 have F:Y6 (.agg [.sl (s.o1.map ZE),.sl (s.o2.map ZE),.sl (s.o3.map ZE),.sl (s.o4.map ZE)]) (.int .i64 0) 4 1 true=some (.agg [.sl (s.o1.map ZE)]):=by simp[Y6]
 have k:(ZR s)[21]?=some (Yd vi s.pm):=rfl;have y:=(Z3w V.bool).symm;unfold R6;cases D:s.h.cycle
 ·simp[AU,D]
 simp[AU,D,y]
 refine Vp (λ(p:Nat×List (Int×Bool))=>[(3,.v (Yd .bool p.2)),(4,.v (vi ((p.1+3:Nat):Int)))])
  (λp=>(p.1=0/\p.2=[])\/(p.1=1/\Wg s.pm s.o3 []=some p.2)\/(p.1=2/\(Wg s.pm s.o3 []).bind (Wg s.pm s.o4)=some p.2)) (ZY 4 5) (0,[]) Z1 Z1 ?_
 rintro⟨i,m⟩ (⟨rfl,rfl⟩|⟨rfl,x⟩|⟨rfl,x⟩)
 ·simp[VH,G];refine Vp (λ(p:Nat×List (Int×Bool))=>[(3,.v (Yd .bool p.2)),(6,.v (vi p.1))]) (λp=>p.1<=s.o3.length/\Wg s.pm s.o3 []=Wg s.pm (s.o3.drop p.1) p.2) (ZY 6 s.o3.length) (0,[]) Z1 Z1 ?_;rintro⟨j,r⟩ ⟨w,a⟩;simp only at w a;have d:=Zy ((j:Int)+1) Z0 Z0;by_cases g:j<s.o3.length
  ·have f:s.o3[j]?=some s.o3[j]:=Zdk g;have u:=Zef g;have C:=A _ (ZdA g);generalize s.o3[j]=o at*;rw[u,Wg]at a;cases l:o.gone
   ·rw[l]at a;rw[if_neg Z1]at a;simp[Y9,g,f,ZU f,l,d];exact⟨j+1,r,⟨Z0,a⟩,⟨rfl,Z0⟩,ZcB⟩
   ·rw[l]at a;rw[if_pos rfl]at a;by_cases n:(Y0 s.pm o.target).getD 0=1
    ·cases q:(Y0 r o.target).getD false
     ·rw[if_pos ⟨n,q⟩]at a;simp[Y9,g,f,ZU f,l,d,k,QD,QC,Wh,V.flatc,n,q,Gq];exact⟨j+1,XK r o.target true,⟨Z0,a⟩,⟨rfl,Z0⟩,ZcB⟩
     ·rw[if_neg (by simp[q])]at a;simp[Y9,g,f,ZU f,l,d,k,QD,QC,Wh,V.flatc,n,q,a]
    ·rw[if_neg (by simp[n])]at a;simp[Y9,g,f,ZU f,l,d,k,QD,QC,Wh,V.flatc,n,a]
  ·have:j=s.o3.length:=Z0;subst this;rw[List.drop_length,Wg]at a;simp[Zy];exact⟨1,r,by simp[a],Z1,ZcX⟩
 ·simp[U2,H];refine Vp (λ(p:Nat×List (Int×Bool))=>[(3,.v (Yd .bool p.2)),(6,.v (vi p.1))]) (λp=>p.1<=s.o4.length/\Wg s.pm s.o4 m=Wg s.pm (s.o4.drop p.1) p.2) (ZY 6 s.o4.length) (0,m) Z1 Z1 ?_;rintro⟨j,r⟩ ⟨w,a⟩;simp only at w a;have d:=Zy ((j:Int)+1) Z0 Z0;by_cases g:j<s.o4.length
  ·have f:s.o4[j]?=some s.o4[j]:=Zdk g;have u:=Zef g;have C:=B _ (ZdA g);generalize s.o4[j]=o at*;rw[u,Wg]at a;cases l:o.gone
   ·rw[l]at a;rw[if_neg Z1]at a;simp[Y9,g,f,ZU f,l,d];exact⟨j+1,r,⟨Z0,a⟩,⟨rfl,Z0⟩,ZcB⟩
   ·rw[l]at a;rw[if_pos rfl]at a;by_cases n:(Y0 s.pm o.target).getD 0=1
    ·cases q:(Y0 r o.target).getD false
     ·rw[if_pos ⟨n,q⟩]at a;simp[Y9,g,f,ZU f,l,d,k,QD,QC,Wh,V.flatc,n,q,Gq];exact⟨j+1,XK r o.target true,⟨Z0,a⟩,⟨rfl,Z0⟩,ZcB⟩
     ·rw[if_neg (by simp[q])]at a;simp[Y9,g,f,ZU f,l,d,k,QD,QC,Wh,V.flatc,n,q,x,a]
    ·rw[if_neg (by simp[n])]at a;simp[Y9,g,f,ZU f,l,d,k,QD,QC,Wh,V.flatc,n,x,a]
  ·have:j=s.o4.length:=Z0;subst this;rw[List.drop_length,Wg]at a;simp[Zy];exact⟨2,r,Zcp,Z1,ZcX⟩
 ·simp[SR,VH,F]
  grind
end Vm
namespace Vm
open Go Go.Proofs
def SZ:Prop:=∀a:List Int,a.length<=1000000->(∀w∈a,ZA w)->VC Sol.prog 108 true [.sl (a.map vu)] (.tup [.sl ((ZL a [] false).1.map ZE),vi (ZL a [] false).2])
def R0:Prop:=∀(d:List Int) (a:List (Int×Int)),d.length<=1000000->a.length<=1000000->(∀w∈d,ZA w)->(∀x∈a,Ye x.1 x.2=true)->
 VC Sol.prog 110 true [.sl (d.map vu),.sl (a.map Xa)] (.tup [.sl ((ZL d a true).1.map ZE),vi (ZL d a true).2])
def Xs(s:Ck)(k:Int):List Ob×Int:=if k<=2 then ZL (Zz s.h k) [] false else ZL (Zz s.h k) (VG s.lm (Zz s.h k)) true
def WL:List Int->Ck->Bool×Ck
 | [],s=>(true,s)
 |k::l,s=>if(Xs s k).2=0 then WL l (XP s k (Xs s k).1)else(false,s)
def XZ(s:Ck):Bool×Ck:=WL [1,2,3,4] s
def RC(s:Ck)(k:Int)(l:List Ob):(XP s k l).h=s.h:=Z5i s k l
def Z5f{α:Type}{l:List (Int×α)}{k:Int}{x:α}{y:Int×α}(h:y∈XK l k x):y=(k,x)\/y∈l:=by
 grind [XK,List.mem_or_eq_of_mem_set]
def QJ{h:Hp}{k:Int}:∀ {l:List Ob} {m:List (Int×(Int×Int))},(∀o∈l,Ye o.size o.ptrs=true)->(∀x∈m,Ye x.2.1 x.2.2=true)->∀x∈Xg h k m l,Ye x.2.1 x.2.2=true
 | [],m,_,a=>a
 |o::l,m,f,a=>by
  rw[Xg];refine QJ (λp g=>f p (ZdV _ g)) ?_;split
  ·intro x d;obtain rfl|d:=Z5f d
   ·simp_all
   grind
  ·exact a
def KX{s:Ck}(a:s.h.ok){k:Int}:(∀o∈(Xs s k).1,Q7 (Zz s.h k).length o/\ZA o.target)/\(Xs s k).1.length<=(Zz s.h k).length:=by
 unfold Xs;split
 ·exact⟨Q0 (YZ a k).1,Q1⟩
 ·exact⟨Q0 (YZ a k).1,Q1⟩
def BS{lm:List (Int×(Int×Int))}{ws:List Int}:∀ {f i:Nat} {a:List (Int×Int)},a.length<=i->a.length<=ws.length->(WA lm ws f i a).length<=ws.length
 |0,i,a,_,h=>h
 |f+1,i,a,j,h=>by
  rw[WA];cases g:ws[i]? with
  |none=>exact h
  |some w=>
   have d:i<ws.length:=(Zdl.1 g).1;simp only;split
   ·split
    ·exact h
    ·exact BS Zcr Zcr
   ·split
    ·exact BS Z0 h
    ·exact h
def MT{lm:List (Int×(Int×Int))}{ws:List Int}:(VG lm ws).length<=ws.length:=BS Z1 Z1
def yM{lm:List (Int×(Int×Int))}{ws:List Int}(d:∀x∈lm,Ye x.2.1 x.2.2=true):∀ {f i:Nat} {a:List (Int×Int)},(∀x∈a,Ye x.1 x.2=true)->∀x∈WA lm ws f i a,Ye x.1 x.2=true
 |0,i,a,h=>h
 |f+1,i,a,h=>by
  rw[WA];cases g:ws[i]? with
  |none=>exact h
  |some w=>
   simp only;split
   ·split
    ·exact h
    ·rename_i k j;refine yM d ?_;intro x g;obtain g|g:=ZdL.1 g
     ·grind
     ·simp at g;subst g;exact d _ (EO j)
   ·split
    ·exact yM d h
    ·exact h
def qb:IntKind.i64.wrap 4=4:=by decide
def Z7Q(F:SZ)(B:R0){s:Ck}(G:s.h.ok)(D:∀x∈s.lm,Ye x.2.1 x.2.2=true):V7 Sol.prog 98 [.mem Ln] [.agg (ZR s)] (.tup [.bool (XZ s).1,.agg (ZR (XZ s).2)]):=by
 refine J7 Sol.func98 follows Z2 c98 Z2 ?_;simp[Iq];refine Vp (λ(p:Nat×Ck)=>[(0,.m (ZR p.2)),(3,.v (vi p.1))]) (λp=>p.1<=4/\p.2.h=s.h/\(∀x∈p.2.lm,Ye x.2.1 x.2.2=true)/\XZ s=WL ([1,2,3,4].drop p.1) p.2) (ZY 3 4) (0,s) Z1 ⟨Z1,rfl,D,rfl⟩ ?_;rintro⟨i,q⟩ ⟨H,A,n,f⟩;simp only at H A n f;have d:q.h.ok:=A▸G;have C:i=0\/i=1\/i=2\/i=3\/i=4:=Z0;have j:=λk I=>NQ (s:=q) (k:=k) I;have w:=λk=>Z6I (s:=q) n (YZ d k).2 (YZ d k).1;obtain rfl|rfl|rfl|rfl|rfl:=C
 ·replace j:=j 1 Z0;have st:=KX d (k:=1);have t:=zD (s:=q) d (k:=1) Z0 (l:=(Xs q 1).1) (ZdP st.2 (YZ d 1).2);have k1:=F _ (YZ d 1).2 (YZ d 1).1;have g:=QJ (h:=q.h) (k:=1) (l:=(Xs q 1).1) (m:=q.lm) (λo y=>(st.1 o y).1.2) n;replace f:XZ s=WL (1:: [2,3,4]) q:=f;rw[WL]at f;have r:Xs q 1=ZL (Zz q.h 1) [] false:=rfl;rw[<-r]at k1;generalize Xs q 1=z at*;obtain⟨l,e⟩:=z;simp only at k1 t f g st;unfold X7 ZR at j;unfold ZR at t;simp[ZR,UI,VH,U2,qb];refine Zw j Z1 ?_;simp;refine Zw k1 Z1 ?_;simp;by_cases u:e=0
  ·rw[if_pos u]at f;simp[u];refine VL t ?_;simp[Zy];exact⟨1,XP q 1 l,⟨Z0,by rw[RC,A],λa b c h=>g (a,b,c) h,f⟩,⟨Z1,rfl⟩,ZcX⟩
  simp_all
 ·replace j:=j 2 Z0;have st:=KX d (k:=2);have t:=zD (s:=q) d (k:=2) Z0 (l:=(Xs q 2).1) (ZdP st.2 (YZ d 2).2);have k1:=F _ (YZ d 2).2 (YZ d 2).1;have g:=QJ (h:=q.h) (k:=2) (l:=(Xs q 2).1) (m:=q.lm) (λo y=>(st.1 o y).1.2) n;replace f:XZ s=WL (2:: [3,4]) q:=f;rw[WL]at f;have r:Xs q 2=ZL (Zz q.h 2) [] false:=rfl;rw[<-r]at k1;generalize Xs q 2=z at*;obtain⟨l,e⟩:=z;simp only at k1 t f g st;unfold X7 ZR at j;unfold ZR at t;simp[ZR,UI,VH,U2,qb];refine Zw j Z1 ?_;simp;refine Zw k1 Z1 ?_;simp;by_cases u:e=0
  ·rw[if_pos u]at f;simp[u];refine VL t ?_;simp[Zy];exact⟨2,XP q 2 l,⟨Z0,by rw[RC,A],λa b c h=>g (a,b,c) h,f⟩,⟨Z1,rfl⟩,ZcX⟩
  simp_all
 ·replace j:=j 3 Z0;have st:=KX d (k:=3);have t:=zD (s:=q) d (k:=3) Z0 (l:=(Xs q 3).1) (ZdP st.2 (YZ d 3).2);have k1:=B _ (VG q.lm (Zz q.h 3)) (YZ d 3).2 (ZdP MT (YZ d 3).2) (YZ d 3).1 (yM n Z1);replace w:=w 3;have g:=QJ (h:=q.h) (k:=3) (l:=(Xs q 3).1) (m:=q.lm) (λo y=>(st.1 o y).1.2) n;replace f:XZ s=WL (3:: [4]) q:=f;rw[WL]at f;have r:Xs q 3=ZL (Zz q.h 3) (VG q.lm (Zz q.h 3)) true:=rfl;rw[<-r]at k1;generalize Xs q 3=z at*;obtain⟨l,e⟩:=z;simp only at k1 t f g st;unfold X7 ZR at j w;unfold ZR at t;simp[ZR,UI,VH,U2,qb];refine Zw j Z1 ?_;simp;refine Zw j Z1 ?_;simp;refine Zw w Z1 ?_;simp;refine Zw k1 Z1 ?_;simp;by_cases u:e=0
  ·rw[if_pos u]at f;simp[u];refine VL t ?_;simp[Zy];exact⟨3,XP q 3 l,⟨Z0,by rw[RC,A],λa b c h=>g (a,b,c) h,f⟩,⟨Z1,rfl⟩,ZcX⟩
  simp_all
 ·replace j:=j 4 Z0;have st:=KX d (k:=4);have t:=zD (s:=q) d (k:=4) Z0 (l:=(Xs q 4).1) (ZdP st.2 (YZ d 4).2);have k1:=B _ (VG q.lm (Zz q.h 4)) (YZ d 4).2 (ZdP MT (YZ d 4).2) (YZ d 4).1 (yM n Z1);replace w:=w 4;have g:=QJ (h:=q.h) (k:=4) (l:=(Xs q 4).1) (m:=q.lm) (λo y=>(st.1 o y).1.2) n;replace f:XZ s=WL (4:: []) q:=f;rw[WL]at f;have r:Xs q 4=ZL (Zz q.h 4) (VG q.lm (Zz q.h 4)) true:=rfl;rw[<-r]at k1;generalize Xs q 4=z at*;obtain⟨l,e⟩:=z;simp only at k1 t f g st;unfold X7 ZR at j w;unfold ZR at t;simp[ZR,UI,VH,U2,qb];refine Zw j Z1 ?_;simp;refine Zw j Z1 ?_;simp;refine Zw w Z1 ?_;simp;refine Zw k1 Z1 ?_;simp;by_cases u:e=0
  ·rw[if_pos u]at f;simp[u];refine VL t ?_;simp[Zy];exact⟨4,XP q 4 l,⟨Z0,by rw[RC,A],λa b c h=>g (a,b,c) h,f⟩,⟨Z1,rfl⟩,ZcX⟩
  simp_all
 ·replace f:XZ s=(true,q):=f;simp[f,ZR]
end Vm
namespace Vm
open Go Go.Proofs
def Z7G{P:Program}{f:FuncId}{ks:List CK}{cs:List V}{r:V}(hv:VC P f false [.ptr cs] r)(G:r.flatc=true)(l:cs.length=ks.length)(u:cs.all V.one=true)(D:ks.all (λk=> !(k==.dead))=true):
  V7 P f [.mem ks] [.agg cs] (.tup [r,.agg cs]):=by
 obtain⟨O,Q⟩:=hv;refine⟨O,λB w h vs a R=> ?_⟩;obtain⟨a2,a1,C⟩:=R;obtain⟨tk,j,z⟩:=C 0 (.mem ks) (.agg cs) rfl rfl;simp only[We]at j;rw[if_pos l]at j;simp only[Zdj]at j;subst j;obtain⟨b,M,T,q,K,Y,o⟩:=z
 have n:∀(ks:List CK) (cs:List V),cs.length=ks.length->YB [] (((ks.zip cs).map λy=>(y.1,E.c y.2)).map (·.2))=some cs:=by
  intro ks
  induction ks with
  |nil=>simp
  |cons k ks ih=>
   intro cs hl;cases cs with
   |nil=>simp at hl
   |cons c cs=>
    simp_all
 have hz:eval [] (.pt none (((ks.zip cs).map λy=>(y.1,E.c y.2)).map (·.2)))=some (.ptr cs):=by
  simp only[eval,n ks cs l,Zdt,Km,u,Ze3]
 have W:Wl ((ks.zip cs).map λy=>(y.1,E.c y.2))=false:=by
  rw[Wl,Zge];intro x L;obtain⟨y,A,rfl⟩:=ZdB.1 L;have:=Zdu.1 D y.1 (List.of_mem_zip A).1;simpa using this
 have a0:=JV (G':=λb=>h.F b\/∃t i,h.bl t i=some b) q Y o W hz (λb d=>.inl d) λi b d=>.inr ⟨0,i,d⟩;refine ZgY (Q w (λb=>h.F b\/∃t i,h.bl t i=some b) vs (λb d=> ?_) Z0 λi x L=> ?_) λe N X=> ?_
 ·obtain d|⟨t,i,d⟩:=d
  ·exact a.f_lt b d
  ·exact(a.b_lt t i b d).2.1
 ·grind
 ·obtain⟨v,rfl,g,J⟩:=X;have p:=g.size;have U:Same h.F w N:=λb d=>g.block b (a.f_lt b d);have S:∀t i b,h.bl t i=some b->N.heap[b]?=w.heap[b]? :=λt i b d=>g.block b (a.b_lt t i b d).2.1
  have I:M.size=cs.length:=by
   have:=o.1;simp[l]at this;omega
  refine⟨v,r,[.agg cs],h,rfl,g.mono a.base,λb d=>g.block b (a.k_lt b d),⟨ZdP a.base p,λb d=>Zdw (a.f_lt b d) p,a.f_or,a.g_F,λt i b d=> ?_,a.inj,λb d=>Zdw (a.k_lt b d) p,a.k_bl,a.k_F⟩,rfl,J.flat G,⟨rfl,λi k y H Z A=> ?_⟩,rfl⟩
  ·obtain⟨q1,q2,q3⟩:=a.b_lt t i b d
   grind
  ·cases i with
   |zero=>
    simp at H A;subst H;subst A;refine⟨.mem ((ks.zip cs).map λy=>(y.1,.c y.2)),by rw[We,if_pos l],b,M,T,q,K,?_,o.keep U (λ_ d=>d) (λ_=>rfl) λi b d=>S 0 _ b d⟩
    grind
   |succ i=>simp at H
end Vm
namespace Vm
open Go Go.Proofs
def UF:List FuncId:=[96,97,98,99,100,101,102,103]
def ji(f:FuncId):V:=.agg [.fn f]
def Z69:VC Sol.prog 80 false [] (.sl (UF.map ji)):=by
 refine ZN Sol.func80 follows Z2 c80 rfl ?_;simp[Ih,UF,ji]
def TY(f:FuncId)(s:Ck):Bool×Ck:=
 if f=96 then(Sf s,s)else if f=97 then(RL s,s)else if f=98 then XZ s
 else if f=99 then(R6 s,s)else if f=100 then(RR s,s)else if f=101 then(RX s,s)else if f=102 then(Rq s,s)else(RP s,s)
structure Ck.okk (s:Ck):Prop where
 ok:s.ok
 lm:∀x∈s.lm,Ye x.2.1 x.2.2=true
def Ck.obs_put(s:Ck)(k:Int)(l:List Ob)(a:1<=k/\k<=4)(j:Int):(s.put k l).obs j=if j=k\/(k=4/\¬(j=1\/j=2\/j=3))then l else s.obs j:=by
 have:k=1\/k=2\/k=3\/k=4:=Z0;obtain rfl|rfl|rfl|rfl:=this<;>simp[Ck.put,Ck.obs]<;>(split<;>simp_all)<;>(grind)<;>(grind)
def Z3O{s:Ck}(d:s.okk){k:Int}(g:1<=k/\k<=4):(XP s k (Xs s k).1).okk:=by
 have st:=KX d.ok.h (k:=k);have l:=(YZ d.ok.h k).2;have a:∀j,(XP s k (Xs s k).1).obs j=((s.put k (Xs s k).1).obs j):=λj=>rfl;refine⟨⟨by rw[RC];exact d.ok.h,λj o f=> ?_,λj=> ?_⟩,QJ (λo f=>(st.1 o f).1.2) d.lm⟩
 ·rw[RC];rw[a,Ck.obs_put _ _ _ g]at f;split at f
  ·rename_i h
   have:Zz s.h j=Zz s.h k:=by
    obtain rfl|⟨rfl,h⟩:=h
    ·rfl
    ·simp_all[not_or,Zz]
   simp_all
  ·exact d.ok.ob j o f
 ·rw[a,Ck.obs_put _ _ _ g];split
  ·omega
  ·exact d.ok.len j
def NJ:∀ {l:List Int} {s:Ck},(∀k∈l,1<=k/\k<=4)->s.okk->(WL l s).2.okk/\(WL l s).2.h=s.h
 | [],s,_,a=>⟨a,rfl⟩
 |k::l,s,d,a=>by
  rw[WL];split
  ·simp_all[NJ,ZdV,Z3O,Ze2,trans,RC]
  simp_all
def Z7O{s:Ck}(a:s.okk):(XZ s).2.okk/\(XZ s).2.h=s.h:=NJ Z1 a
def Mu{s:Ck}(a:s.okk){f:FuncId}:(TY f s).2.okk/\(TY f s).2.h=s.h:=by
 unfold TY
 repeat' split
 all_goals first|exact⟨a,rfl⟩|exact Z7O a
def Z68(j:SZ)(d:R0){s:Ck}(a:s.okk){f:FuncId}(g:f∈UF):V7 Sol.prog f [.mem Ln] [.agg (ZR s)] (.tup [.bool (TY f s).1,.agg (ZR (TY f s).2)]):=by
 have go:∀ {f b},VC Sol.prog f false [X7 s] (.bool b)->V7 Sol.prog f [.mem Ln] [.agg (ZR s)] (.tup [.bool b,.agg (ZR s)]):=λh=>Z7G h rfl rfl rfl rfl;simp only[UF,ZdG,ZeG,Zgb]at g;obtain rfl|rfl|rfl|rfl|rfl|rfl|rfl|rfl:=g
 ·exact go (Pq a.ok.h)
 ·exact go Z5X
 ·exact Z7Q j d a.ok.h a.lm
 ·exact go (Z0s a.ok)
 ·exact go (Z6G a.ok)
 ·exact go (Z7B a.ok)
 ·exact go (Z2N a.ok)
 ·exact go (Z61 a.ok)
def Ru:List FuncId->Ck->Option Ck
 | [],s=>some s
 |f::l,s=>if(TY f s).1=true then Ru l (TY f s).2 else none
def Xf(h:Hp):Ck:= {h:=h,o1:=[],o2:=[],o3:=[],o4:=[],pm:=[],lm:=[]}
def Vf(h:Hp):Option Ck:=Ru UF (Xf h)
def Fy{h:Hp}(a:h.ok):(Xf h).okk:=by
 have f:∀k,(Xf h).obs k=[]:=λk=>by simp[Xf,Ck.obs]
 refine⟨⟨a,λk o g=> ?_,λk=> ?_⟩,λx d=>(by simp[Xf]at d)⟩
 ·simp_all
 simp_all
def A2(w:SZ)(k:R0){h:Hp}(y:h.ok):VC Sol.prog 50 false [ZD h] (.tup [match Vf h with|some s=>X7 s|none=>.nul 0,.bool (Vf h).isSome]):=by
 refine ZN Sol.func50 follows Z2 x6 rfl ?_;have k1:=CQ (h:=h);have B:=Z69;have a:UF.length=8:=rfl;unfold ZD at k1;simp[I0];refine Zw k1 Z1 ?_;simp[X3,Zv];refine Zw B Z1 ?_;simp;refine Vp (λ(p:Nat×Ck)=>[(5,.m (ZR p.2)),(6,.v (vi p.1))]) (λp=>p.1<=8/\p.2.okk/\Vf h=Ru (UF.drop p.1) p.2) (ZY 6 8) (0,Xf h) Zdf ⟨Z1,Fy y,rfl⟩ ?_;rintro⟨i,q⟩ ⟨z,n,g⟩;simp only at z n g;have o:=Zy ((i:Int)+1) Z0 Z0;by_cases d:i<UF.length
 ·have t:UF[i]?=some UF[i]:=Zdk d;have x:=Zef d;have A:=ZdA d;generalize UF[i]=f at*;rw[x,Ru]at g;have u:=Z68 w k n A;have l:=(Mu n (f:=f)).1;rw[a]at d;have j:(i:Int)<8:=Z0;simp[Y9,d,j,t,ZU t,a,ji,ZR];unfold ZR at u;refine VL u ?_;cases r:(TY f q).1
  ·rw[if_neg (by simp[r])]at g;simp[g]
  ·rw[if_pos r]at g;simp[o];exact⟨i+1,(TY f q).2,⟨Z0,l,g⟩,⟨Z1,Z0⟩,ZcB⟩
 ·have:i=8:=Z0;subst this;replace g:Vf h=some q:=g;simp[a,g,ZR,X7]
def FY:∀ {l:List FuncId} {s q:Ck},s.okk->Ru l s=some q->q.okk/\q.h=s.h
 | [],s,q,a,h=>by simp only[Ru,Zdj]at h;subst h;exact⟨a,rfl⟩
 |f::l,s,q,a,h=>by
  rw[Ru]at h;split at h
  ·have d:=Mu a (f:=f);have g:=FY d.1 h;exact⟨g.1,g.2.trans d.2⟩
  ·cases h
def Z2V{h:Hp}(a:h.ok){q:Ck}(d:Vf h=some q):q.okk/\q.h=h:=FY (Fy a) d
def O8(d:SZ)(a:R0){h:Hp}(f:h.ok):VC Sol.prog 19 false [ZD h] (.bool (Vf h).isSome):=by
 refine ZN Sol.func19 follows Z2 PQ rfl ?_;simp[Hv];refine Zw (A2 d a f) Z1 ?_;simp
def K7(h:Hp)(k:Int):List Ob×Int:=match Vf h with
 |some s=>if 1<=k/\k<=4 then(s.obs k,0)else([],1)
 |none=>([],1)
def O7(l:SZ)(f:R0){h:Hp}(n:h.ok){k:Int}:VC Sol.prog 56 false [ZD h,vi k] (.tup [.sl ((K7 h k).1.map ZE),vi (K7 h k).2]):=by
 refine ZN Sol.func56 follows Z2 c56 rfl ?_;simp[I4];refine Zw (A2 l f n) Z1 ?_;unfold K7;cases o:Vf h with
 |none=>simp
 |some s=>
  by_cases g:1<=k
  ·by_cases j:k<=4
   ·have:k=1\/k=2\/k=3\/k=4:=Z0;obtain rfl|rfl|rfl|rfl:=this<;>simp[Y6,SR,UI,VH,U2,Ck.obs]
   ·have a:¬k<1:=Z0;have d:4<k:=Z0;simp[g,j,a,d]
  ·have a:k<1:=Z0;simp[g,a]
def qc(h:Hp):Nat:=match Vf h with
 |some s=>S8 s
 |none=>0
def Oa(f:SZ)(a:R0){h:Hp}(d:h.ok):VC Sol.prog 20 false [ZD h] (vi (qc h)):=by
 refine ZN Sol.func20 follows Z2 PR rfl ?_;simp[Hw];refine Zw (A2 f a d) Z1 ?_;unfold qc;cases g:Vf h with
 |none=>simp
 |some s=>
  simp;refine Zw (ND (Z2V d g).1.ok) Z1 ?_;simp
end Vm
end
section
namespace Vm
open Go Go.Proofs
structure Stands (ws:List Int) (old:Bool) (o:Ob):Prop where
 nat:0<=o.at_
 shape:Ye o.size o.ptrs=true
 fits:o.at_+1+o.size<=ws.length
 slots:Xb ((ws.drop (o.at_.toNat+1)).take o.size.toNat) o.gone o.ptrs 0=true
 word:∃w,ws[o.at_.toNat]?=some w/\(if o.gone then old=true/\(adr w).2=0/\o.target=(adr w).1 else(old=true->¬(adr w).2=0)/\ZO w=(o.size,o.ptrs,0)/\o.target=0)
def Tiles(ws:List Int)(old:Bool):Nat->List Ob->Prop
 |a,[]=>ws.length<=a
 |a,o::l=>o.at_=a/\Stands ws old o/\Tiles ws old (a+1+o.size.toNat) l
def Z3S{ws:List Int}{shs:List (Int×Int)}{old:Bool}{a g t:Nat}{w:Int}{o:Ob}(k:ws[a]?=some w)(f:XU shs old a g w=some (o,t))(h:¬(ws.length:Int)<a+1+o.size)
  (j:¬Xb ((ws.drop (a+1)).take o.size.toNat) o.gone o.ptrs 0=false):o.at_=a/\Stands ws old o:=by
 have d:=zE f;refine⟨d.2,?_,d.1,?_,?_,w,?_,?_⟩
 ·omega
 ·omega
 ·simp_all
 ·simp_all
 ·unfold XU at f
  grind
def NH{ws:List Int}{shs:List (Int×Int)}{old:Bool}:∀(f a j:Nat) (d l:List Ob),Xc ws shs old f a j d=(l,0)->∃r,l=d++r/\Tiles ws old a r
 |0,_,_,_,_,h=>by simp[Xc]at h
 |f+1,a,j,d,l,h=>by
  unfold Xc at h;split at h
  ·rename_i p;split at h
   grind
   ·simp only[Zdx,and_true]at h;subst h;exact⟨[],Z1,ZfT.1 p⟩
  ·rename_i w x;split at h
   grind
   ·rename_i o t q;split at h
    grind
    rename_i k;split at h
    grind
    rename_i n;obtain⟨r,rfl,u⟩:=NH f _ _ _ _ h;have g:=Z3S x q k n;exact⟨o::r,Z1,g.1,g.2,u⟩
def S9{ws:List Int}{shs:List (Int×Int)}{old:Bool}{l:List Ob}(h:ZL ws shs old=(l,0)):Tiles ws old 0 l:=by
 obtain⟨r,a,d⟩:=NH _ _ _ _ _ h;simp_all
def Tiles.stands{ws:List Int}{old:Bool}:∀ {a:Nat} {l:List Ob},Tiles ws old a l->∀o∈l,Stands ws old o/\(a:Int)<=o.at_
 |_,[],_,_,h=>Zd1
 |a,o::l,h,x,d=>by
  have f:=Yf.1 h.2.1.shape;obtain rfl|d:=ZdG.1 d
  ·exact⟨h.2.1,by rw[h.1];omega⟩
  ·have:=Tiles.stands h.2.2 x d
   grind
def Tiles.apart{ws:List Int}{old:Bool}:∀ {a:Nat} {l:List Ob},Tiles ws old a l->∀o∈l,∀q∈l,o=q\/o.at_+1+o.size<=q.at_\/q.at_+1+q.size<=o.at_
 |_,[],_,_,h,_,_=>Zd1
 |a,x::l,h,o,f,q,d=>by
  have g:=Yf.1 h.2.1.shape;have e:=h.1;obtain rfl|f:=ZdG.1 f
  ·obtain rfl|d:=ZdG.1 d
   ·simp
   ·have:=(Tiles.stands h.2.2 q d).2;omega
  ·obtain d|d:=ZdG.1 d
   ·have:=(Tiles.stands h.2.2 o f).2
    grind
   ·exact Tiles.apart h.2.2 o f q d
structure RightH (h:Hp) (p:Pts):Prop where
 parts:X9 h=some p
 num:Wj h=true
 ok:Th h p=true
 low:Tiles h.low false 0 p.low
 high:Tiles h.high false 0 p.high
 old:Tiles h.old true 0 p.old
 far:Tiles h.far true 0 p.far
def Z5Y{h:Hp}(o:Xo h=true):∃p,RightH h p:=by
 obtain⟨p,a,n,j⟩:=BA o;refine⟨p,a,j,n,?_,?_,?_,?_⟩
 all_goals
  clear j;unfold X9 at a;dsimp only at a;split at a
  ·cases a
  rename_i g;split at a
  ·cases a
  rename_i c2;cases a
  have c3:(ZL h.low [] false).2=0/\(ZL h.high [] false).2=0:=by
   refine⟨Zen λf=>g (.inl f),Zen λf=>g (.inr f)⟩
  have c4:∀x:Int,¬x≠0->x=0:=λx d=>Zen d;have k:=c4 _ (λd=>c2 (.inr (.inr (.inl d))));have l:=c4 _ (λd=>c2 (.inr (.inr (.inr d))))
  first|exact S9 (ZfI rfl c3.1)|exact S9 (ZfI rfl c3.2)|exact S9 (ZfI rfl k)|exact S9 (ZfI rfl l)
def RightH.tiles{h:Hp}{p:Pts}(r:RightH h p){k:Int}(a:1<=k/\k<=4):Tiles (Zz h k) (decide (2<k)) 0 (p.at k):=by
 have:k=1\/k=2\/k=3\/k=4:=Z0;obtain rfl|rfl|rfl|rfl:=this
 ·exact r.low
 ·exact r.high
 ·exact r.old
 ·exact r.far
def RightH.lay{h:Hp}{p:Pts}(r:RightH h p):ZJ (Zv h)=true:=by
 have:=r.num;simp_all[Wj,Zdn]
def Yk(l:Ly)(k a:Int):Int:=2*(fstL l k+a)+1
theorem UN{l:Ly}(d:ZJ l=true){k a:Int}(f:0<=a):adr (Yk l k a)=(fstL l k+a,0):=by
 have:=WB d k;unfold adr Yk
 grind
theorem Sb{l:Ly}(g:ZJ l=true){k a:Int}(f:1<=k/\k<=4)(d:0<=a/\a<YX l k):ZW l k a=(fstL l k+a,0):=by
 simp_all[ZW,if_neg]
theorem Qo{l:Ly}(g:ZJ l=true){k a:Int}(j:1<=k/\k<=4)(d:0<=a/\a<YX l k):Yc l (fstL l k+a)=(k,a,0):=by
 have h:=U0.1 g;have n:=q8 g;unfold Yc X2;rw[if_neg (by simp[g])];simp only[Zdn,ZdH];have f:k=1\/k=2\/k=3\/k=4:=Z0;obtain rfl|rfl|rfl|rfl:=f
 ·grind
 ·simp only[fstL,YX]at d⊢
  grind
 ·simp only[fstL,YX]at d⊢
  grind
 ·simp only[fstL,YX]at d⊢
  grind
end Vm
namespace Vm
open Go Go.Proofs
def EL{g:Hp}(a:ZJ (Zv g)=true):fwd g 0=(0,g,0):=by simp[fwd,a]
theorem yq{l:Ly}(f:ZJ l=true){k a:Int}(d:0<=a):¬Yk l k a=0:=by
 grind [WB,Yk]
def fwd_here{g:Hp}(h:ZJ (Zv g)=true){k a:Int}(f:1<=k/\k<=2)(d:0<=a/\a< (Zz g k).length):fwd g (Yk (Zv g) k a)=(Yk (Zv g) k a,g,0):=by
 grind [yq,UN,Qo,UG,fwd]
def fwd_gone{g:Hp}(d:ZJ (Zv g)=true){k:Int}{a:Nat}(p:3<=k/\k<=4){u:Int}(f:(Zz g k)[a]?=some u)(h:(adr u).2=0):fwd g (Yk (Zv g) k a)=(u,g,0):=by
 have q:a< (Zz g k).length:=(Zdl.1 f).1;have j:=yq d (k:=k) (a:=(a:Int)) Z0;have l:=UN d (k:=k) (a:=(a:Int)) Z0;have n:=Qo d (k:=k) (a:=(a:Int)) Z0 (by rw[UG Z0];omega);have o:(Zz g k).getD a 0=u:=by simp[List.getD,f]
 unfold fwd;simp[-List.getD_eq_getElem?_getD,d,j,l,n,show ¬k<3 by omega,o,h]
def Yn(g:Hp)(k:Int)(a n:Nat):Hp:=Xq (Xt g k a n) k ((zr (Zz g k) a n).set a (Yk (Zv g) 1 g.low.length))
def QG{g:Hp}{k:Int}{a n:Nat}(d:a+n<=(Zz g k).length):Zv (Xt g k a n)= {Zv g with low:=(g.low.length+n:Nat)}:=by
 simp_all[Zv,Xt,Ly.mk.injEq,true_and,and_true]
theorem Gn{g:Hp}(d:ZJ (Zv g)=true){k:Int}{a n:Nat}(f:a+n<=(Zz g k).length)(l:(n:Int)<=Xu (Zv g)):ZJ (Zv (Xt g k a n))=true:=by
 rw[QG f];have h:=U0.1 d;have e:Xu (Zv g)=(Zv g).cap- (Zv g).low- (Zv g).high:=by unfold Xu;rw[d];rfl
 have j:(Zv g).low=g.low.length:=rfl
 grind [U0]
def Ah{g:Hp}{k:Int}(f:3<=k/\k<=4){a n:Nat}(d:a+n<=(Zz g k).length):Zv (Yn g k a n)= {Zv g with low:=(g.low.length+n:Nat)}:=by
 rw[<-QG d];unfold Yn;apply Cz;rw[List.length_set,qi];have:k=3\/k=4:=Z0;obtain rfl|rfl:=this<;>rfl
def Z3t{g:Hp}(j:ZJ (Zv g)=true){k:Int}(f:3<=k/\k<=4){a n:Nat}(d:a+n<=(Zz g k).length)(h:(n:Int)<=Xu (Zv g)):ZJ (Zv (Yn g k a n))=true:=by
 rw[Ah f d,<-QG d]
 grind [Gn]
def Z5K{g:Hp}{k:Int}(d:3<=k/\k<=4){a n:Nat}(f:a+n<=(Zz g k).length)(j b:Int):Yk (Zv (Yn g k a n)) j b=Yk (Zv g) j b:=by
 rw[Ah d f];rfl
def fwd_wait{g:Hp}(h:ZJ (Zv g)=true){k:Int}{a:Nat}(C:3<=k/\k<=4){u:Int}(B:(Zz g k)[a]?=some u)(q:¬(adr u).2=0){n:Nat}{pt:Int}(p:ZO u=((n:Int),pt,0))
  (j:a+(n+1)<=(Zz g k).length) (A:((n+1:Nat):Int)<=Xu (Zv g)):fwd g (Yk (Zv g) k a)=(Yk (Zv g) 1 g.low.length,Yn g k a (n+1),0):=by
 have r:=yq h (k:=k) (a:=(a:Int)) Z0;have t:=UN h (k:=k) (a:=(a:Int)) Z0;have w:=Qo h (k:=k) (a:=(a:Int)) Z0 (by grind [UG]);have x:(Zz g k).getD a 0=u:=by simp[List.getD,B]
 have f:=Gn h j A
 have y:ZW (Zv (Xt g k a (n+1))) 1 g.low.length=(fstL (Zv g) 1+g.low.length,0):=by
  have:=Sb f (k:=1) (a:=(g.low.length:Int)) Z0 (by rw[QG j];simp only[YX,Ze3];omega);rw[this,QG j];rfl
 have d:=WB f 1;rw[QG j]at d;simp only[YX,Ze3]at d;have l:fstL {Zv g with low:=(g.low.length+(n+1):Nat)} 1=fstL (Zv g) 1:=rfl;rw[l]at d
 have z:XJ (fstL (Zv g) 1+g.low.length)=(Yk (Zv g) 1 g.low.length,0):=by
  unfold XJ Yk;rw[if_neg Z0]
 unfold fwd;have o:¬k<3:=Z0;simp only[h,r,t,w,if_neg o,ZeQ,Ze1,ne_eq,Zh4,ZdF,x,q,p];unfold Tv;rw[if_neg Z0,if_neg Z0];simp only[y,z];rfl
theorem CG{ws:List Int}{a:Nat}:∀(n j:Nat),j<a\/a+n<=j->(zr ws a n)[j]?=ws[j]?
 |0,_,_=>rfl
 |n+1,j,h=>by
  unfold zr;rw[ZeW Z0];exact CG n j Z0
def Ak{g:Hp}{k:Int}(o:3<=k/\k<=4){a n:Nat}(p:0<n){j:Int}(l:3<=j/\j<=4){b:Nat}(h:j≠k\/b<a\/a+n<=b):(Zz (Yn g k a n) j)[b]?=(Zz g j)[b]? :=by
 have f:k=3\/k=4:=Z0;have d:j=3\/j=4:=Z0;obtain rfl|rfl:=f<;>obtain rfl|rfl:=d<;>simp only[Yn,Xt,Z7R,Z7S,zX,zY]
 ·grind [List.getElem?_set_ne,CG]
 ·grind [List.getElem?_set_ne,CG]
def Ai{g:Hp}{k:Int}(l:3<=k/\k<=4){a n:Nat}{j:Int}(h:3<=j/\j<=4):(Zz (Yn g k a n) j).length=(Zz g j).length:=by
 have f:k=3\/k=4:=Z0;have d:j=3\/j=4:=Z0;obtain rfl|rfl:=f<;>obtain rfl|rfl:=d<;>simp[Yn,Xt]
def Z3s{g:Hp}{k:Int}(h:3<=k/\k<=4){a n:Nat}(f:a+n<=(Zz g k).length):(Yn g k a n).low.length=g.low.length+n/\(Yn g k a n).high=g.high:=by
 have d:k=3\/k=4:=Z0;obtain rfl|rfl:=d<;>simp only[zX,zY]at f<;>simp[Yn,Xt]<;>omega
end Vm
namespace Vm
open Go Go.Proofs
def BU{h:Hp}{ws:List Int}{low:List Ob}:∀(f i:Nat) (d l:List (Int×Int)),XX h ws low f i d=some l->∃r,l=d++r
 |0,_,_,_,a=>by simp[XX]at a
 |f+1,i,d,l,a=>by
  unfold XX at a;split at a
  ·cases a;exact⟨[],Z1⟩
  ·split at a
   ·split at a
    ·cases a
    ·obtain⟨r,g⟩:=BU f _ _ _ a;exact⟨_,by rw[g,Zei]⟩
   ·split at a
    ·exact BU f _ _ _ a
    ·cases a
def yP{h:Hp}{ws:List Int}{low:List Ob}:∀(f i:Nat) (d k:List (Int×Int)),XX h ws low f i d=some k->∀(p:Nat) (g l:List Ob),Xc ws k true p i d.length g=(l,0)->
  ∃r,l=g++r/\∀o∈r,o.gone=true->∃q,Yg h 1 low o.target=some q/\q.size=o.size/\q.ptrs=o.ptrs
 |0,_,_,_,j=>by simp[XX]at j
 |f+1,i,d,k,j=>by
  intro p g l a;cases p with
  |zero=>simp[Xc]at a
  |succ p=>
   unfold XX at j;unfold Xc at a;cases x:ws[i]? with
   |none=>
    simp_all
   |some w=>
    simp only[x]at j a;by_cases t:(adr w).2=0
    ·simp only[t,Ze3]at j;cases C:Yg h 1 low (adr w).1 with
     |none=>simp_all
     |some q=>
      simp only[C]at j;obtain⟨r,D⟩:=BU _ _ _ _ j;have F:k[d.length]?=some (q.size,q.ptrs):=by rw[D];simp
      unfold XU at a;rw[if_pos ⟨rfl,t⟩]at a;simp only[F]at a;by_cases u:Ye q.size q.ptrs=true
      ·rw[if_pos u]at a;simp only at a;split at a
       ·simp at a
       split at a
       ·simp at a
       have n:d.length+1=(d++[(q.size,q.ptrs)]).length:=Z1;rw[n]at a;obtain⟨G,z,A⟩:=yP f _ _ _ j _ _ _ a
       grind
      simp_all
    ·simp only[t,Ze1]at j;by_cases y:(ZO w).2.2=0
     ·simp only[y,Ze3]at j;unfold XU at a;rw[if_neg (λB=>t B.2),if_pos y]at a;simp only at a;split at a
      ·simp at a
      split at a
      ·simp at a
      obtain⟨G,z,A⟩:=yP f _ _ _ j _ _ _ a;simp_all
     simp_all
def RightH.gone_low{h:Hp}{p:Pts}(r:RightH h p){k:Int}(D:3<=k/\k<=4){o:Ob}(d:o∈p.at k)(A:o.gone=true):∃q∈p.low,Yz h 1 q.at_=o.target/\q.size=o.size/\q.ptrs=o.ptrs:=by
 have a:=r.parts;unfold X9 at a;dsimp only at a;split at a
 ·cases a
 split at a
 ·cases a
 rename_i c2
 have g:∀(f:List Int) (x:Option (List (Int×Int))),x=XY h f (ZL h.low [] false).1->¬x=none->(ZL f (x.getD []) true).2=0->o∈(ZL f (x.getD []) true).1->
   ∃q∈(ZL h.low [] false).1,Yz h 1 q.at_=o.target/\q.size=o.size/\q.ptrs=o.ptrs:=by
  intro f x C F n d;cases x with
  |none=>simp_all
  |some j=>
   simp only[ZdN]at n d;obtain⟨H,l,t⟩:=yP _ _ _ _ C.symm (f.length+1) [] (ZL f j true).1 (ZfI rfl n);simp only[Zej]at l;rw[l]at d;obtain⟨q,B,G⟩:=t o d A;have:=ZgG B
   grind [qz]
 have u:¬XY h h.old (ZL h.low [] false).1=none:=λe=>c2 (.inl e);have w:¬XY h h.far (ZL h.low [] false).1=none:=λe=>c2 (.inr (.inl e));have y:(ZL h.old ((XY h h.old (ZL h.low [] false).1).getD []) true).2=0:=Zen λe=>c2 (.inr (.inr (.inl e)));have z:(ZL h.far ((XY h h.far (ZL h.low [] false).1).getD []) true).2=0:=Zen λe=>c2 (.inr (.inr (.inr e)));cases a;have:k=3\/k=4:=Z0;obtain rfl|rfl:=this
 ·exact g _ _ rfl u y ZcI
 ·exact g _ _ rfl w z ZcI
def NY{l:List Ob}{o:Ob}(h:o∈l):XM o<=Y7 l:=by
 unfold Y7
 induction l with
 |nil=>simp at h
 |cons x l a=>
  grind
def Z7K{p:Pts}{k:Int}(a:3<=k/\k<=4){o:Ob}(h:o∈p.at k):XM o<=XT p:=by
 have:k=3\/k=4:=Z0;unfold XT;obtain rfl|rfl:=this
 ·have:=NY (l:=p.old) h;omega
 ·have:=NY (l:=p.far) h;omega
def Z5J{l:Ly}(d:ZJ l=true){k j a b:Int}(o:1<=k/\k<=4)(n:1<=j/\j<=4)(f:0<=a/\a<YX l k)(g:0<=b/\b<YX l j)(h:Yk l k a=Yk l j b):k=j/\a=b:=by
 have p:=Qo d o f;have q:=Qo d n g;have:fstL l k+a=fstL l j+b:=by unfold Yk at h;omega
 simp_all
def NO{u a:Int}(d:(adr u).2=0)(h:(adr u).1=a):u=2*a+1:=by
 unfold adr at d h
 grind
def OJ{u:Int}(h:(ZO u).2.2=0):¬(adr u).2=0:=by
 unfold ZO at h;split at h
 ·rename_i a;unfold adr
  grind
 grind
end Vm
namespace Vm
open Go Go.Proofs
end Vm
end
section
namespace Vm
open Go Go.Proofs
def Tiles.order{ws:List Int}{old:Bool}:∀ {a:Nat} {l:List Ob},Tiles ws old a l->l.Pairwise λx y=>x.at_<y.at_
 |_,[],_=>.nil
 |a,o::l,h=>by
  have f:=Yf.1 h.2.1.shape;refine .cons (λx d=> ?_) (Tiles.order h.2.2);have:=(Tiles.stands h.2.2 x d).2;have:=h.1;omega
def C5{h:Hp}(f:ZJ (Zv h)=true){k:Int}(d:1<=k/\k<=4){old:Bool}{o:Ob}(a:Stands (Zz h k) old o):Yz h k o.at_=fstL (Zv h) k+o.at_:=by
 have:=Yf.1 a.shape;have:=a.fits;have:=a.nat
 grind [Yz,Sb,UG]
def Z7b{h:Hp}(f:ZJ (Zv h)=true){k:Int}(d:1<=k/\k<=4){old:Bool}{o:Ob}(a:Stands (Zz h k) old o):Yc (Zv h) (Yz h k o.at_)=(k,o.at_,0):=by
 have:=Yf.1 a.shape;have:=a.fits;have:=a.nat;rw[C5 f d a]
 grind [Qo,UG]
def Tiles.starts{h:Hp}(f:ZJ (Zv h)=true){k:Int}(d:1<=k/\k<=4){old:Bool}{l:List Ob}(a:Tiles (Zz h k) old 0 l):l.Pairwise λx y=>Yz h k x.at_≠Yz h k y.at_:=by
 refine List.Pairwise.imp_of_mem ?_ a.order;intro x y j n g;rw[C5 f d (a.stands x j).1,C5 f d (a.stands y n).1];omega
def GA{h:Hp}{a:Int}:∀ {l:List Ob} {m:List (Int×(Int×Int))},(l.Pairwise λx y=>Yz h 1 x.at_≠Yz h 1 y.at_)->Y0 (Xg h 1 m l) a=match Yg h 1 l a with
  |some o=>some (o.size,o.ptrs)
  |none=>Y0 m a
 | [],m,_=>rfl
 |o::l,m,f=>by
  obtain⟨g,d⟩:=ZgR.1 f;rw[Xg,GA d];unfold Yg;rw[ZgF];cases j:l.find? (λo=>Yz h 1 o.at_==a)with
  |some q=>
   grind
  |none=>
   simp only[Ze3,Qu]
   grind [Yz,ZW,Zv]
def At{h:Hp}{k:Int}(a:¬k=1):∀ {l:List Ob} {m:List (Int×(Int×Int))},Xg h k m l=m
 | [],m=>rfl
 |o::l,m=>by simp_all[Xg,if_neg,At]
def K4{h:Hp}{k a:Int}:∀ {l:List Ob} {m:List (Int×Int)},Y0 (Wr h k m l) a=if(Yg h k l a).isSome=true then some k else Y0 m a
 | [],m=>rfl
 |o::l,m=>by
  rw[Wr,K4];unfold Yg;rw[ZgF,Qu];by_cases f:Yz h k o.at_=a
  ·have d:(ZW (Zv h) k o.at_).1=a:=f;have:(Yz h k o.at_==a)=true:=ZcL;simp[this,d]
  ·have d:¬(ZW (Zv h) k o.at_).1=a:=f;have:(Yz h k o.at_==a)=false:=ZcL;simp[this,d]
def BT{lm:List (Int×(Int×Int))}{ws:List Int}:∀(f i:Nat) (a:List (Int×Int)),∃r,WA lm ws f i a=a++r
 |0,_,a=>⟨[],by simp[WA]⟩
 |f+1,i,a=>by
  rw[WA];cases ws[i]? with
  |none=>simp
  |some w=>
   simp only;split
   ·split
    ·simp
    ·obtain⟨r,d⟩:=BT (lm:=lm) (ws:=ws) f _ _;exact⟨_,by rw[d,Zei]⟩
   ·split
    ·exact BT f _ _
    ·simp
def yK{lm:List (Int×(Int×Int))}{h:Hp}{low:List Ob}(j:∀a,Y0 lm a=(Yg h 1 low a).map λo=>(o.size,o.ptrs)){ws:List Int}:∀(f i:Nat) (g k:List (Int×Int)),XX h ws low f i g=some k->WA lm ws f i g=k
 |0,_,_,_,d=>by simp[XX]at d
 |f+1,i,g,k,d=>by
  rw[XX]at d;rw[WA];cases r:ws[i]? with
  |none=>rw[r]at d;simpa using d
  |some w=>
   rw[r]at d;simp only at d⊢;by_cases l:(adr w).2=0
   ·rw[if_pos l]at d⊢;rw[j];cases n:Yg h 1 low (adr w).1 with
    |none=>rw[n]at d;cases d
    |some o=>rw[n]at d;exact yK j _ _ _ _ d
   ·rw[if_neg l]at d⊢;by_cases q:(ZO w).2.2=0
    ·rw[if_pos q]at d⊢;exact yK j _ _ _ _ d
    ·rw[if_neg q]at d;cases d
def yL{lm:List (Int×(Int×Int))}{h:Hp}{low:List Ob}(k:∀a,Y0 lm a=(Yg h 1 low a).map λo=>(o.size,o.ptrs)){ws:List Int}:∀(f i:Nat) (d:List (Int×Int)),0<f->ws.length<f+i->XX h ws low f i d=none->
  ∀(l:Nat) (j:List Ob),(Xc ws (WA lm ws f i d) true l i d.length j).2≠0
 |0,_,_,x,_,_=>Z0
 |f+1,i,d,x,F,g=>by
  intro l j;cases l with
  |zero=>simp[Xc]
  |succ l=>
   rw[XX]at g;rw[WA,Xc];cases u:ws[i]? with
   |none=>simp_all
   |some w=>
    have y:=(Zdl.1 u).1;rw[u]at g;simp only at g⊢;by_cases q:(adr w).2=0
    ·rw[if_pos q]at g⊢;rw[k];cases z:Yg h 1 low (adr w).1 with
     |none=>
      simp only[ZgI]
      have:XU d true i d.length w=none:=by
       unfold XU;rw[if_pos ⟨rfl,q⟩];simp
      rw[this];simp
     |some o=>
      rw[z]at g;simp only[ZdD]at g⊢;obtain⟨r,A⟩:=BT (lm:=lm) (ws:=ws) f (i+1+o.size.toNat) (d++[(o.size,o.ptrs)]);have D:=yL k f (i+1+o.size.toNat) (d++[(o.size,o.ptrs)]) Z0 Z0 g l;generalize WA lm ws f (i+1+o.size.toNat) (d++[(o.size,o.ptrs)])=n at*;have B:n[d.length]?=some (o.size,o.ptrs):=by rw[A];simp
      unfold XU;rw[if_pos ⟨rfl,q⟩,B];simp only;by_cases t:Ye o.size o.ptrs=true
      ·rw[if_pos t];simp only;split
       ·simp
       split
       ·simp
       simp_all
      simp_all
    ·rw[if_neg q]at g⊢;by_cases C:(ZO w).2.2=0
     ·rw[if_pos C]at g⊢;have D:=yL k f (i+1+(ZO w).1.toNat) d Z0 Z0 g l;generalize WA lm ws f (i+1+(ZO w).1.toNat) d=n at*;unfold XU
      grind
     simp_all[if_neg,XU]
structure Found (h:Hp) (s:Ck) (p:Pts):Prop where
 hp:s.h=h
 o1:s.o1=p.low
 o2:s.o2=p.high
 o3:s.o3=p.old
 o4:s.o4=p.far
 pm:s.pm=Wr h 4 (Wr h 3 (Wr h 2 (Wr h 1 [] p.low) p.high) p.old) p.far
def Z7P{h:Hp}(C:ZJ (Zv h)=true):match X9 h with
  |some p=>(XZ (Xf h)).1=true/\Found h (XZ (Xf h)).2 p
  |none=>(XZ (Xf h)).1=false:=by
 unfold XZ X9;dsimp only;have D:Xs (Xf h) 1=ZL h.low [] false:=rfl;rw[WL,D];by_cases w:(ZL h.low [] false).2=0
 case neg=>simp_all
 rw[if_pos w];have B:Tiles h.low false 0 (ZL h.low [] false).1:=S9 (ws:=h.low) (shs:=[]) (ZfI rfl w);generalize (ZL h.low [] false).1=d at*;have F:Xs (XP (Xf h) 1 d) 2=ZL h.high [] false:=rfl;rw[WL,F];by_cases A:(ZL h.high [] false).2=0
 case neg=>simp_all
 rw[if_pos A,if_neg Z0];generalize (ZL h.high [] false).1=n at*
 have g:∀a,Y0 (Xg h 1 [] d) a=(Yg h 1 d a).map λo=>(o.size,o.ptrs):=by
  intro a;rw[GA (Tiles.starts C (k:=1) Z0 (by simpa using B))];cases Yg h 1 d a<;>rfl
 have j:(XP (XP (Xf h) 1 d) 2 n).lm=Xg h 1 [] d:=At Z0
 have G:Xs (XP (XP (Xf h) 1 d) 2 n) 3=ZL h.old (VG (Xg h 1 [] d) h.old) true:=by
  rw[<-j];rfl
 rw[WL,G];cases x:XY h h.old d with
 |none=>
  have:=yL g (h.old.length+1) 0 [] Z0 Z0 x (h.old.length+1) [];have q:¬(ZL h.old (VG (Xg h 1 [] d) h.old) true).2=0:=this;rw[if_neg q,if_pos (.inl rfl)]
 |some shs=>
 have t:VG (Xg h 1 [] d) h.old=shs:=yK g _ _ _ _ x;rw[t];simp only[ZdN];by_cases q:(ZL h.old shs true).2=0
 case neg=>simp_all
 rw[if_pos q];generalize (ZL h.old shs true).1=z at*
 have l:(XP (XP (XP (Xf h) 1 d) 2 n) 3 z).lm=Xg h 1 [] d:=by
  rw[<-j];exact At Z0
 have H:Xs (XP (XP (XP (Xf h) 1 d) 2 n) 3 z) 4=ZL h.far (VG (Xg h 1 [] d) h.far) true:=by
  rw[<-l];rfl
 rw[WL,H];cases y:XY h h.far d with
 |none=>
  have:=yL g (h.far.length+1) 0 [] Z0 Z0 y (h.far.length+1) [];have r:¬(ZL h.far (VG (Xg h 1 [] d) h.far) true).2=0:=this;rw[if_neg r,if_pos (.inr (.inl rfl))]
 |some f=>
 have u:VG (Xg h 1 [] d) h.far=f:=yK g _ _ _ _ y;rw[u];simp only[ZdN];by_cases r:(ZL h.far f true).2=0
 case neg=>simp_all
 rw[if_pos r,if_neg Zcp];generalize (ZL h.far f true).1=I at*;exact⟨rfl,rfl,rfl,rfl,rfl,rfl,rfl⟩
end Vm
namespace Vm
open Go Go.Proofs
def AY{h:Hp}{p:Pts}(a:X9 h=some p){k:Int}(n:1<=k/\k<=4):Tiles (Zz h k) (decide (2<k)) 0 (p.at k):=by
 have:k=1\/k=2\/k=3\/k=4:=Z0;unfold X9 at a;dsimp only at a;split at a
 ·cases a
 rename_i g;split at a
 ·cases a
 rename_i c2;cases a
 have c3:(ZL h.low [] false).2=0/\(ZL h.high [] false).2=0:=by
  refine⟨Zen λf=>g (.inl f),Zen λf=>g (.inr f)⟩
 have c4:∀x:Int,¬x≠0->x=0:=λx d=>Zen d;have j:=c4 _ (λd=>c2 (.inr (.inr (.inl d))));have l:=c4 _ (λd=>c2 (.inr (.inr (.inr d))));obtain rfl|rfl|rfl|rfl:=this
 ·exact S9 (ZfI rfl c3.1)
 ·exact S9 (ZfI rfl c3.2)
 ·exact S9 (ZfI rfl j)
 ·exact S9 (ZfI rfl l)
def Z4z{h:Hp}{p:Pts}(a:X9 h=some p){k:Int}(C:3<=k/\k<=4){o:Ob}(d:o∈p.at k)(z:o.gone=true):∃q∈p.low,Yz h 1 q.at_=o.target/\q.size=o.size/\q.ptrs=o.ptrs:=by
 unfold X9 at a;dsimp only at a;split at a
 ·cases a
 split at a
 ·cases a
 rename_i c2
 have g:∀(f:List Int) (x:Option (List (Int×Int))),x=XY h f (ZL h.low [] false).1->¬x=none->(ZL f (x.getD []) true).2=0->o∈(ZL f (x.getD []) true).1->
   ∃q∈(ZL h.low [] false).1,Yz h 1 q.at_=o.target/\q.size=o.size/\q.ptrs=o.ptrs:=by
  intro f x B D n d;cases x with
  |none=>simp_all
  |some j=>
   simp only[ZdN]at n d;obtain⟨G,l,r⟩:=yP _ _ _ _ B.symm (f.length+1) [] (ZL f j true).1 (ZfI rfl n);simp only[Zej]at l;rw[l]at d;obtain⟨q,A,F⟩:=r o d z;have:=ZgG A
   grind [qz]
 have t:¬XY h h.old (ZL h.low [] false).1=none:=λe=>c2 (.inl e);have u:¬XY h h.far (ZL h.low [] false).1=none:=λe=>c2 (.inr (.inl e));have w:(ZL h.old ((XY h h.old (ZL h.low [] false).1).getD []) true).2=0:=Zen λe=>c2 (.inr (.inr (.inl e)));have y:(ZL h.far ((XY h h.far (ZL h.low [] false).1).getD []) true).2=0:=Zen λe=>c2 (.inr (.inr (.inr e)));cases a;have:k=3\/k=4:=Z0;obtain rfl|rfl:=this
 ·exact g _ _ rfl t w ZcI
 ·exact g _ _ rfl u y ZcI
theorem P1{h:Hp}(q:ZJ (Zv h)=true){p:Pts}(n:X9 h=some p){k:Int}(d:1<=k/\k<=4){a:Int}(l:(Yg h k (p.at k) a).isSome=true):∃b,Yc (Zv h) a=(k,b,0):=by
 obtain⟨o,f⟩:=Zet.1 l;have g:=ZfU f;have j:Yz h k o.at_=a:=by have:=ZgG f;simpa using this
 rw[<-j];exact⟨_,Z7b q d ((AY n d).stands o g).1⟩
def Ds{h:Hp}(o:ZJ (Zv h)=true){p:Pts}(n:X9 h=some p){k j:Int}(g:1<=k/\k<=4)(f:1<=j/\j<=4)(l:k≠j){a:Int}(d:(Yg h k (p.at k) a).isSome=true):(Yg h j (p.at j) a).isSome=false:=by
 grind [Yg,P1,Prod.mk.injEq]
section
variable {h:Hp}{s:Ck}{p:Pts}
theorem Found.obs(a:Found h s p){k:Int}:s.obs k=p.at k:=by
 unfold Ck.obs Pts.at;rw[a.o1,a.o2,a.o3,a.o4]
def Found.pm_at(d:Found h s p)(a:Int):Y0 s.pm a=if(Yg h 4 (p.at 4) a).isSome=true then some 4 else if(Yg h 3 (p.at 3) a).isSome=true then some 3 else if(Yg h 2 (p.at 2) a).isSome=true then some 2 else if(Yg h 1 (p.at 1) a).isSome=true then some 1 else none:=by
 rw[d.pm,K4,K4,K4,K4];rfl
def Found.points(r:Found h s p)(z:ZJ (Zv h)=true)(y:X9 h=some p)(w:Int):YQ s w 1 2=YE h p w 1 2/\YQ s w 3 4=YE h p w 3 4/\YQ s w 1 4=(YE h p w 1 2||YE h p w 3 4):=by
 unfold YQ YE;by_cases d:w=0
 ·simp[d]
 by_cases q:(adr w).2=0
 case neg=>grind
 simp only[d,q,ZhC,ZgK,ZfO,Zgt];rw[r.pm_at];generalize (adr w).1=a;have o:=λk j u t x=>Ds (k:=k) (j:=j) z y u t x (a:=a);have G:=o 4 3 Z0 Z0 Z0;have F:=o 4 2 Z0 Z0 Z0;have D:=o 4 1 Z0 Z0 Z0;have C:=o 3 2 Z0 Z0 Z0;have B:=o 3 1 Z0 Z0 Z0;have A:=o 2 1 Z0 Z0 Z0;clear o;generalize (Yg h 1 (p.at 1) a).isSome=f at*;generalize (Yg h 2 (p.at 2) a).isSome=g at*;generalize (Yg h 3 (p.at 3) a).isSome=l at*;generalize (Yg h 4 (p.at 4) a).isSome=n at*;cases f<;>cases g<;>cases l<;>cases n<;>simp_all
end
end Vm
namespace Vm
open Go Go.Proofs
def XB(l:List Ob):List Int:=(l.filter (·.gone)).map (·.target)
def Z5g{α:Type}{l:List (Int×α)}{k:Int}{x:α}(h:Y0 l k=none):(XK l k x).length=l.length+1:=by
 grind [Y0,Option.map_eq_none_iff,List.findIdx?_eq_none_iff,List.find?_eq_none,XK]
def Lp{pm:List (Int×Int)}:∀ {l:List Ob} {m:List (Int×Bool)} {K:List Int},K.Nodup->(∀a,Y0 m a=if a∈K then some true else none)->m.length=K.length->
  match Wg pm l m with
  |some w=>(∀t∈XB l,(Y0 pm t).getD 0=1)/\(K++XB l).Nodup/\w.length=(K++XB l).length/\∀a,Y0 w a=if a∈K++XB l then some true else none
  |none=>¬((∀t∈XB l,(Y0 pm t).getD 0=1)/\(K++XB l).Nodup)
 | [],m,K,q,f,u=>by simp only[Wg,XB,List.filter_nil,Zf8,ZeS];exact⟨Z1,q,u,f⟩
 |o::l,m,K,q,f,u=>by
  rw[Wg];cases A:o.gone with
  |false=>
   rw[if_neg Z1];have:XB (o::l)=XB l:=by simp[XB,A]
   rw[this];exact Lp q f u
  |true=>
   rw[if_pos rfl];have d:XB (o::l)=o.target::XB l:=by simp[XB,A]
   rw[d];by_cases k:(Y0 pm o.target).getD 0=1
   ·by_cases n:o.target∈K
    ·rw[if_neg (by rw[f,if_pos n];simp)];rintro⟨_,D⟩;exact(Zgg.1 D).2.2 _ n _ (Ze2 ..) rfl
    ·have j:Y0 m o.target=none:=by rw[f,if_neg n]
     rw[if_pos ⟨k,by rw[j];rfl⟩]
     have g:=Lp (pm:=pm) (l:=l) (m:=XK m o.target true) (K:=K++[o.target]) (by
       rw[Zgg];refine⟨q,Z1,λa C b z=> ?_⟩;simp at z;subst z;intro e;subst e;exact n C) (λa=>by
       rw[Qu,f];by_cases e:o.target=a
       ·simp[e]
       ·have B:¬a=o.target:=λx=>e x.symm;simp[e,B]) (by rw[Z5g j,u];simp)
     rw[Zei,Zgn]at g;cases r:Wg pm l (XK m o.target true)with
     |none=>
      rw[r]at g;rintro⟨y,F⟩;exact g ⟨λt d=>y t (ZdV _ d),F⟩
     |some w=>
      rw[r]at g;refine⟨λt d=> ?_,g.2⟩;obtain rfl|d:=ZdG.1 d
      ·exact k
      ·exact g.1 t d
   ·rw[if_neg (λr=>k r.1)];rintro⟨y,_⟩;exact k (y _ (Ze2 ..))
def Nl{l:List Ob}{a:Int}:YA l a=(XB l).count a:=by
 unfold YA XB
 induction l with
 |nil=>rfl
 |cons o l d=>
  grind
def Z47{T S:List Int}(g:S.Nodup)(f:T⊆S):(T.Nodup/\T.length=S.length)↔ ∀a∈S,T.count a=1:=by
 constructor
 ·rintro⟨d,q⟩ a l;rw[d.count];by_cases n:a∈T
  ·grind
  ·have k:T⊆S.erase a:=λx j=>(g.mem_erase_iff).2 ⟨λe=>n (e▸j),f j⟩;have o:=d.length_le_of_subset k
   grind
 ·intro h
  have d:T.Nodup:=List.nodup_iff_count.2 λa=>by
   grind
  refine⟨d,Nat.le_antisymm (d.length_le_of_subset f) (g.length_le_of_subset λa l=> ?_)⟩
  grind
section
variable {h:Hp}{s:Ck}{p:Pts}
def Found.copied(f:Found h s p)(C:ZJ (Zv h)=true)(y:X9 h=some p):R6 s=(!h.cycle||p.low.all (Vo h p)):=by
 have G:=AY y (k:=1) Z0
 have F:(p.low.map λo=>Yz h 1 o.at_).Nodup:=by
  have:=Tiles.starts C (k:=1) Z0 G;rw[List.nodup_iff_pairwise_ne,List.pairwise_map];exact this
 have n:∀t∈XB s.o3++XB s.o4,t∈p.low.map λo=>Yz h 1 o.at_:=by
  intro t d
  have:∃k,(3<=k/\k<=4)/\t∈XB (p.at k):=by
   obtain d|d:=ZdL.1 d
   ·exact⟨3,Z0,by rw[f.o3]at d;exact d⟩
   ·exact⟨4,Z0,by rw[f.o4]at d;exact d⟩
  obtain⟨k,x,d⟩:=this;simp only[XB,ZdB,Zg6]at d;obtain⟨o,⟨r,I⟩,rfl⟩:=d;obtain⟨q,z,B,_⟩:=Z4z y x r I;exact ZdB.2 ⟨q,z,B⟩
 have L:∀t∈XB s.o3++XB s.o4,(Y0 s.pm t).getD 0=1:=by
  intro t d;obtain⟨q,z,B⟩:=ZdB.1 (n t d)
  have u:(Yg h 1 (p.at 1) t).isSome=true:=by
   unfold Yg;rw[List.find?_isSome];exact⟨q,z,Zcp⟩
  have o:=λk x J=>Ds (k:=1) (j:=k) C y Z0 x J u;rw[f.pm_at,o 4 Z0 Z0,o 3 Z0 Z0,o 2 Z0 Z0,u];rfl
 unfold R6;rw[f.hp];cases Q:h.cycle
 ·rfl
 simp only[Zg2,ZfO];have key:=Z47 F (T:=XB s.o3++XB s.o4) n
 have g:p.low.all (Vo h p)=true↔ ∀a∈(p.low.map λo=>Yz h 1 o.at_),(XB s.o3++XB s.o4).count a=1:=by
  rw[Zdu];constructor
  ·intro A a H;obtain⟨o,r,rfl⟩:=ZdB.1 H;have:=A o r;simp only[Vo,ZdH,Vl,Nl]at this;rw[List.count_append,f.o3,f.o4];exact this
  ·intro A o r;have:=A _ (ZdB.2 ⟨o,r,rfl⟩);rw[List.count_append,f.o3,f.o4]at this;simp_all[Vo,ZdH,Vl,Nl]
 rw[Ze9]at key;have w:=Lp (pm:=s.pm) (l:=s.o3) (m:=[]) (K:=[]) Z1 (by simp[Y0]) rfl;simp only[Zej]at w;rw[Zhj,g,<-key];cases u:Wg s.pm s.o3 []with
 |none=>
  grind
 |some m=>
  rw[u]at w;obtain⟨S,M,N,O⟩:=w;simp only[Zdt];have c2:=Lp (pm:=s.pm) (l:=s.o4) (m:=m) (K:=XB s.o3) M O N;cases D:Wg s.pm s.o4 m with
  |none=>
   simp_all
  |some R=>
   rw[D]at c2;obtain⟨U,W,P,X⟩:=c2;simp only[ZdH,P,f.o1];simp_all
end
end Vm
namespace Vm
open Go Go.Proofs
def N2:∀ {l:List Int} {a:Int} {i:Nat},Xb l true a i=true->∀w∈l,w=0
 | [],_,_,_,w,d=>Zde
 |x::l,a,i,h,w,d=>by
  simp only[Xb,Zdn,Zg2,ZfO,ZdH]at h;obtain rfl|d:=ZdG.1 d
  ·exact h.1.1
  ·exact N2 h.2 w d
def Kn{s:Ck}{k:Int}{q:Int->Int->Bool}:WG s k q=true↔ ∀o∈s.obs k,o.gone=false->∀j,j<o.ptrs.toNat->q ((o.at_.toNat+1+j:Nat):Int) (VI (Zz s.h k) (o.at_.toNat+1+j))=true:=by
 unfold WG obQ
 grind
def Z5d{h:Hp}{p:Pts}(u:X9 h=some p){k:Int}(r:1<=k/\k<=4):Xi h p k=true↔ ∀o∈p.at k,o.gone=false->∀j,j<o.ptrs.toNat->XI h p k (o.at_.toNat+1+j)=true:=by
 unfold Xi T8;rw[Zdu];constructor
 ·simp_all
 ·intro y o t;rw[Zdu];intro j l;have l:=Zft.1 l;cases q:o.gone
  ·simp_all
  ·have d:=((AY u r).stands o t).1;have w:=Yf.1 d.shape;have f:=d.slots;rw[q]at f;have x:=N2 f;have g:=d.fits;have n:=d.nat;have a:o.at_.toNat+1+j< (Zz h k).length:=Z0
   have z:(Zz h k)[o.at_.toNat+1+j]?=some 0:=by
    rw[Zdk a];refine Zez some (x _ ?_);rw[Zgm];refine⟨j,?_⟩;rw[ZdY,if_pos Z0,ZdW,Zdk a]
   grind [YE,XI]
section
variable {h:Hp}{s:Ck}{p:Pts}
def Found.ptrs(u:Found h s p)(I:ZJ (Zv h)=true)(G:X9 h=some p):(RR s&&(RX s&&Rq s))=(h.roots.all (λw=>YE h p w 1 2)&&Xi h p 1&&Xi h p 2&&Xi h p 3&&Xi h p 4):=by
 have g:=u.points I G
 have t:s.h.roots.all (λw=>YQ s w 1 2)=h.roots.all (λw=>YE h p w 1 2):=by
  rw[u.hp];congr 1;funext w;exact(g w).1
 have l:=λk=>u.obs (k:=k)
 have r:∀(k:Int) (q:Nat->Int->Bool) (F:1<=k/\k<=4),(∀a,XI h p k a=q a (VI (Zz h k) a))->(Xi h p k=true↔ ∀o∈p.at k,o.gone=false->∀j,j<o.ptrs.toNat->q (o.at_.toNat+1+j) (VI (Zz h k) (o.at_.toNat+1+j))=true):=by
  intro k q F H;rw[Z5d G F];simp only[H]
 have p2:=r 2 (λ_ w=>YE h p w 1 2) Z0 (λa=>by simp[XI,VI]);have p3:=r 3 (λ_ w=>YE h p w 3 4) Z0 (λa=>by simp[XI,VI]);have p4:=r 4 (λ_ w=>YE h p w 3 4) Z0 (λa=>by simp[XI,VI]);have J:=r 1 (λa w=>if h.scan<=a then YE h p w 1 2||YE h p w 3 4 else YE h p w 1 2) Z0 (λa=>by simp[XI,VI])
 have L:WG s 2 (λ_ w=>YQ s w 1 2)=true↔Xi h p 2=true:=by
  rw[p2,Kn,l,u.hp];simp only[(g _).1]
 have M:WG s 3 (λ_ w=>YQ s w 3 4)=true↔Xi h p 3=true:=by
  rw[p3,Kn,l,u.hp];simp only[(g _).2.1]
 have N:WG s 4 (λ_ w=>YQ s w 3 4)=true↔Xi h p 4=true:=by
  rw[p4,Kn,l,u.hp];simp only[(g _).2.1]
 have K:(WG s 1 (λa w=>decide (s.h.scan<=a)||YQ s w 1 2)=true/\WG s 1 (λa w=>decide (a<s.h.scan)||YQ s w 1 4)=true)↔Xi h p 1=true:=by
  rw[J,Kn,Kn,l,u.hp];simp only[(g _).1,(g _).2.2];constructor
  ·rintro⟨C,D⟩ o A y j z;have C:=C o A y j z;have D:=D o A y j z;generalize o.at_.toNat+1+j=n at*;by_cases x:h.scan<=(n:Int)
   ·have:¬(n:Int)<h.scan:=Z0;simpa[x,this]using D
   ·simpa[x]using C
  ·intro B;refine⟨λo A y j z=> ?_,λo A y j z=> ?_⟩
   ·have B:=B o A y j z;generalize o.at_.toNat+1+j=n at*;by_cases x:h.scan<=(n:Int)
    ·simp[x]
    ·simpa[x]using B
   ·have B:=B o A y j z;generalize o.at_.toNat+1+j=n at*;by_cases x:h.scan<=(n:Int)
    ·have:¬(n:Int)<h.scan:=Z0;simpa[x,this]using B
    ·have:(n:Int)<h.scan:=Z0;simp[this]
 unfold RR RX Rq;rw[t,Zhj];simp only[Zdn];rw[L,M,N,<-K];constructor
 ·rintro⟨⟨a,b,c⟩,d,e,f⟩;exact⟨⟨⟨⟨a,c,d⟩,b⟩,e⟩,f⟩
 ·rintro⟨⟨⟨⟨a,c,d⟩,b⟩,e⟩,f⟩;exact⟨⟨a,b,c⟩,d,e,f⟩
def Found.roomy(a:Found h s p):RP s=decide ((h.low.length:Int)+h.high.length+XT p<=h.cap):=by
 unfold RP S8 XT;rw[a.hp,a.o3,a.o4]
end
def Z3Q(h:Hp):Wj h=(Sf (Xf h)&&RL (Xf h)):=by
 grind [Wj,Sf,RL,Xf,ZJ,Zv]
def A0(h:Hp):(Vf h).isSome=Xo h/\∀s,Vf h=some s->∃p,X9 h=some p/\Found h s p:=by
 have k:Vf h=(if Sf (Xf h)=true then if RL (Xf h)=true then if(XZ (Xf h)).1=true then
   if R6 (XZ (Xf h)).2=true then if RR (XZ (Xf h)).2=true then if RX (XZ (Xf h)).2=true then if Rq (XZ (Xf h)).2=true then if RP (XZ (Xf h)).2=true then
    some (XZ (Xf h)).2 else none else none else none else none else none else none else none else none):=rfl
 have t:=Z3Q h;unfold Xo;rw[t];cases a:Sf (Xf h)
 ·simp_all
 have g:ZJ (Zv h)=true:=by
  unfold Sf at a;simp only[Zdn]at a;exact a.1
 cases j:RL (Xf h)
 ·simp_all
 have l:=Z7P g;cases f:X9 h with
 |none=>
  simp_all
 |some p=>
  rw[f]at l;obtain⟨r,d⟩:=l;rw[a,j,r]at k;simp only[Ze3]at k;generalize (XZ (Xf h)).2=s at*;have n:=d.copied g f;have o:=d.ptrs g f;have q:=d.roomy
  have u:Th h p=(R6 s&&((RR s&&(RX s&&Rq s))&&RP s)):=by
   rw[n,o,q];unfold Th;simp only[Bool.and_assoc]
  grind
def Z2Y(h:Hp)(k:Int):K7 h k=Xx h k:=by
 obtain⟨d,g⟩:=A0 h;unfold K7 Xx;cases f:Vf h with
 |none=>
  simp_all
 |some s=>
  rw[f]at d;have a:Xo h=true:=d.symm;obtain⟨p,l,j⟩:=g s f;simp only[a,true_and,l,ZdN,j.obs]
def Z32(h:Hp):((qc h:Nat):Int)=J8 h:=by
 obtain⟨d,j⟩:=A0 h;unfold qc J8;cases g:Vf h with
 |none=>
  simp_all
 |some s=>
  rw[g]at d;have a:Xo h=true:=d.symm;obtain⟨p,k,f⟩:=j s g;simp only[a,k,ZdN,Ze3];unfold S8 XT;rw[f.o3,f.o4]
end Vm
end
section
namespace Vm
open Go Go.Proofs Go.RowKit
section
def CZ{α:Type}(F:Fence)(n:Nat)(P:Z4)(g:Nat)(lb:Za)(d:α->Array Value)(k:World->World->Prop)(S:List α->World->Prop)(o:List PanicEntry->List α->World->Prop)(N:Nat)(bt:Option Nat)(j:World->Prop)(w:Z3):Prop:=
 ∀(l:Nat) (J:List α->World->Prop) (W:Z3),Below w.heap.size w W->(∀pre W,J pre W->j W)->(∀s A B row,J s A->A.grownBy B row->(∀r,row=some r->some r=bt)->J s B)->
  (∀pre x f,J pre f->pre.length<N->YieldAt F (n-1) P l (d x) f λe a=>e=.returned (.bool true)/\J (pre++[x]) a/\k f a)->
  J [] W->
  CallsIn F n P g (#[.func (.yield l) #[] #[]]++lb) W λe a=>(∃v h,e=.returned v/\S h a/\J h a)\/(∃chain pre,e=.panicked chain/\o chain pre a/\J pre a)
def Z55{α:Type}(B:Nat)(d:World->World->Prop)(I:List α->World->Prop)(xs:List α)(W:Z3):Exit->Act->World->Prop
 |.normal,_,a=>KeepsFrom B W a/\d W a/\I xs a
 |_,_,_=>False
def OwnP{β:Type}(bt:Option Nat)(B:Nat)(I:β->World->Prop):Prop:=
 ∀s X Y row,I s X->X.grownBy Y row->(∀r,row=some r->some r=bt\/(B<=r/\∃o:Obj,X.heap[r]?=some o/\o.isCells=false))->I s Y
def OwnP.putObj{β:Type}{bt:Option Nat}{B:Nat}{I:β->World->Prop}(h:OwnP bt B I){s:β}{W:Z3}{l:Nat}{o:Obj}(a:Obj)(d:I s W)(f:B<=l)(g:W.heap[l]?=some o)(j:o.isCells=false):I s (W.putObj l a):=
 h s W _ (some l) d (ZgD W l a) (λr e=>Zcq)
def OwnP.alloc{β:Type}{bt:Option Nat}{B:Nat}{I:β->World->Prop}(h:OwnP bt B I){s:β}{W:Z3}(o:Obj)(a:I s W):I s (W.alloc o):=
 h s W _ none a (ZeK W o none) (λr e=>by cases e)
variable {F:Fence}{n:Nat}{P:Z4}
def Z7Z{α:Type}{g:Operand}{ps:Array Tmp}{assign body:Code}{Q:Zr}{a:Act}{w:Z3}
  (d7:F.round=none) (h1:1<=n) {gf:Nat} {lb:Za} (hg:a.eval g=.func (.func gf) #[] lb) (d8:F.fn gf) (eg:∀args w,(callFunc gf args).run P w=.ok (.enter gf args) w)
  {f:α->Array Value} {M:World->World->Prop} {S:List α->World->Prop} {Pp:List PanicEntry->List α->World->Prop} {N:Nat} {bt:Option Nat} {Ex:World->Prop} {w0:Z3} (a7:CZ F (n-1) P gf lb f M S Pp N bt Ex w0)
  (b4:∀r,bt=some r->r<w.heap.size)
  (T:∀ {A B C:Z3},M A B->M B C->M A C) (a0:∀(W:Z3) (l:Nat) (o o':Obj),w.heap.size<=l->W.heap[l]?=some o->o.isCells=false->o.isWalk=false->M W (W.putObj l o')) (a1:Below w0.heap.size w0 w) (d9:∀x,(f x).size=ps.size)
  (I:List α->World->Prop) (hI:OwnP bt w.heap.size I) (a9:∀pre W,I pre W->Ex W) (h0:I [] w) (hS:OwnP none w.heap.size S) (Ax:α->Act->World->Prop) (a8:∀x G,OwnP none w.heap.size (λ(_:Unit) W=>Ax x G W))
  (q:∀(l:Nat) (pre:List α) (x:α) (W:Z3) (K:Act->World->Prop),I pre W->(∀G W',KeepsFrom w.heap.size W W'->M W W'->I pre W'->Ax x G W'->K G W')->
   assign.wpIn (F.inRound l) (n-1-1) P (Exit.then K (λ_ _ _=>False)) {tmps:=(ps.zip (f x)).foldl (λt (p,v)=>t.setIfInBounds p v) a.tmps,defers:=[]} W)
  (U:∀(l:Nat) (pre:List α) (x:α) (G:Act) (W:Z3),I pre W->Ax x G W->pre.length<N->body.wpIn (F.inRound l) (n-1-1) P (Z55 w.heap.size M I (pre++[x]) W) G W)
  (X:∀(D:Nat) (xs:List α) (W:Z3),w.heap.size<=D->S xs W->I xs W->W.heap[D]?=some (.deferred (some []))->Q .normal {a with defers:= {target:=.collected D,args:=#[]}::a.defers} W)
  (L:∀(D:Nat) (chain:List PanicEntry) (pre:List α) (W:Z3),w.heap.size<=D->Pp chain pre W->I pre W->W.heap[D]?=some (.deferred (some []))->Q (.panic chain) {a with defers:= {target:=.collected D,args:=#[]}::a.defers} W):
  (Code.rangeFunc g ps assign body).wpIn F n P Q a w:=by
 refine wpIn_rangeFunc λfn b6=> ?_;rw[d7];obtain⟨d,z⟩:∃d:LoopState->Option Code->Loop,d=λst pe=> {state:=st,pending:=pe,fn,tmps:=a.tmps,params:=ps,assign,body,defers:=w.heap.size}:=⟨_,rfl⟩;obtain⟨H,J⟩:∃H,(w.alloc (.deferred (some []))).alloc (.loop (d .ready none))=H:=⟨_,rfl⟩
 have b1:H.heap[w.heap.size+1]?=some (.loop (d .ready none)):=by
  have:=World.alloc_heap_new (w.alloc (.deferred (some []))) (.loop (d .ready none));rw[World.size_alloc]at this;rw[<-J];exact this
 have b0:H.heap[w.heap.size]?=some (.deferred (some [])):=by
  rw[<-J];exact(Zds _ _ _ Z1).trans (World.alloc_heap_new w _)
 have b3:Below w0.heap.size w0 H:=by
  rw[<-J];exact a1.trans ((((ZdZ _ w).alloc (Zdp _) _).alloc Z1 _).mono a1.size)
 refine⟨w.heap.size+1,[{target:=.collected w.heap.size,args:=#[]}],H,{target:=.fn (.func gf) lb,args:=#[.func (.yield (w.heap.size+1)) #[] #[]]},H,gf,
  #[.func (.yield (w.heap.size+1)) #[] #[]]++lb,H,?_,?_,?_,?_,λ_=>h1,?_⟩
 ·simp_all[run_enterLoop_outer]
 ·simp only[resolve,hg];simp[go_sem]
 ·simp_all[Target.leads]
 ·simp_all[invoke]
 have R:∀ {A B:Z3} {row:Option Nat} {k:Nat} {o:Obj},A.grownBy B row->(∀r,row=some r->some r=bt)->w.heap.size<=k->A.heap[k]?=some o->B.heap[k]?=some o:=by
  intro A B row k o u hr hk ho;refine(u.block k (Zdq.1 ho).1 λe=> ?_).trans ho;have:=b4 k (hr k e.symm).symm;omega
 refine(a7 (w.heap.size+1) (λpre W=>I pre W/\W.heap[w.heap.size+1]?=some (.loop (d .ready none))/\W.heap[w.heap.size]?=some (.deferred (some []))) H b3 (λpre W h=>a9 pre W h.1)
  (λs A B row hs u hr=>⟨hI s A B row hs.1 u (λr e=>.inl (hr r e)),R u hr Z0 hs.2.1,R u hr (Zdp _) hs.2.2⟩) ?_ ⟨by rw[<-J];exact hI.alloc _ (hI.alloc _ h0),b1,b0⟩).mono ?_
 ·rintro pre x W ⟨hi,Y,hk⟩ a6;have hy:=run_yield (P:=P) (args:=f x) Y Zcq;rw[z]at hy;refine⟨fn,_,assign,body,hy,roundIn_of_wpIn b6 (q _ pre x W _ hi ?_)⟩;intro G V a4 c1 b8 b2;have y:=a4.same _ _ Z0 Y rfl;have c0:=a4.same _ _ (Zdp _) hk rfl;have d5:w.heap.size+1<V.heap.size:=(Zdq.1 y).1;refine⟨_,run_beginRound y (by rw[z]),?_⟩;have d0:(V.putObj (w.heap.size+1) (.loop {d .ready none with state:=.busy})).heap[w.heap.size+1]?=some (.loop {d .ready none with state:=.busy}):=World.putObj_heap_same d5;have b9:(V.putObj (w.heap.size+1) (.loop {d .ready none with state:=.busy})).heap[w.heap.size]?=some (.deferred (some [])):=(Zew Z0).trans c0;have d6:M V (V.putObj (w.heap.size+1) (.loop {d .ready none with state:=.busy})):=a0 _ _ _ _ Z0 y rfl rfl;refine wpIn_mono (U _ pre x G _ (hI.putObj _ b8 Z0 y rfl) ((a8 x G).putObj (s:=()) _ b2 Z0 y rfl) a6) ?_;rintro e a3 W3 O;cases e with
  |normal=>
   obtain⟨a2,a5,b7⟩:=O;have Z:=a2.same _ _ Z0 d0 rfl;have b5:=a2.same _ _ (Zdp _) b9 rfl;have j:=run_endRound (P:=P) none Z;refine⟨_,_,j,rfl,⟨hI.putObj _ b7 Z0 Z rfl,?_,(Zew Z0).trans b5⟩,T c1 (T (T d6 a5) (a0 _ _ _ _ Z0 Z rfl rfl))⟩
   grind [World.putObj_heap_same,Array.getElem?_eq_some_iff]
  |ret=>exact O.elim
  |exit id=>exact O.elim
  |goto t=>exact O.elim
  |panic ch=>exact O.elim
  |outgrown=>exact O.elim
 ·rintro e W2 (⟨v,xs,rfl,hs,hi,Y,hk⟩|⟨chain,pre,rfl,O,hi,Y,hk⟩)
  ·have j:=run_endLoop (P:=P) Y Zcq;rw[z]at j;exact⟨none,_,j,X _ xs _ (Zdp _) (hS.putObj _ hs Z0 Y rfl) (hI.putObj _ hi Z0 Y rfl) ((Zew Z0).trans hk)⟩
  ·exact L _ chain pre _ (Zdp _) O hi hk
end
end Vm
end
section
namespace Vm
open Go
open Go.Proofs
def Hs:Fn:=⟨4,[0,2,3,4],
pQ [pR [pV 1 pF],pC [pK 4 29 [.s 0]] [pV 2 (.ext (.s 4) 0),pV 3 (.ext (.s 4) 1)],.reg ⟨[.lt 5 [] (.bin .eql (.s 0) (pU 0))],[([(5,false)],.bin .eql (.s 3) (pI 0))],[pV 1 (.ite (.s 5) pT (.bin .eql (.s 3) (pI 0)))]⟩] .ret,[(1,.v)]⟩
def PM:ZH Sol.prog fresh sig [.fz] [] Tryz.f128=some Hs:=Z2
end Vm
end
section
namespace Vm
open Go Go.Proofs Go.RowKit
def Z54{x:Int}(hx:ZA x):VC Sol.prog 128 false [vu x] (.bool (WY x)):=by
 refine ZN Sol.func128 follows Z2 PM rfl ?_;simp[Hs];refine Zw (Jg hx) Z1 ?_;simp_all[WY]
def IG{x:Int}(hx:ZA x)(w:World):Calls Sol.prog 128 #[.int .u64 x] w λe a=>e=.returned (.bool (WY x))/\Below w.heap.size w a:=
 Tq (Z54 hx) rfl rfl w
structure Words (w:World) (ws:List Int) (g o cap:Nat):Prop where
 at_:∀(i:Nat) (x:Int),ws[i]?=some x->w.cell? ⟨g,o+i,none⟩=some (.int .u64 x)
 le:ws.length<=cap
 cap:cap<=maxLen
 len:ws.length<=1000000
 u64:∀x∈ws,ZA x
def V6(e:Int):List PanicEntry:=[{v:=.iface 182 (.agg #[.int .i64 e]),recovered:=false}]
def Wy(o:Ob):Value:=.agg #[.int .i64 o.at_,.int .i64 o.size,.int .i64 o.ptrs,.bool o.gone,.int .u64 o.target]
def LM(ws:List Int)(o:Ob):Ending:=
 if(ws.length:Int)<o.at_+1+o.size then .panicked (V6 2)else if Xb ((ws.drop (o.at_.toNat+1)).take o.size.toNat) o.gone o.ptrs 0=false then .panicked (V6 3)else .returned (.tuple #[])
def Z1m(w:World)(ws:List Int)(g o cap:Nat)(C:Words w ws g o cap)(Y:g<w.heap.size)(t:Ob)(a:Nat)(L:t.at_=a)(A:a<ws.length)(B:Ye t.size t.ptrs=true):
  Calls Sol.prog 127 #[.slice (some ⟨g,o,none⟩) ws.length cap,Wy t] w λe w'=>e=LM ws t/\Below w.heap.size w w':=by
 have hl:=C.len;have hc:=C.le;have hm:=C.cap;obtain⟨at_,size,ptrs,gone,target⟩:=t;simp only at L B;subst L;obtain⟨s1,s2,s3,s4⟩:=Yf.1 B;obtain⟨m,rfl⟩:=Zdz s1;have J:=Zdv C;have r:LM ws ⟨a,m,ptrs,gone,target⟩=if(ws.length:Int)<a+1+m then .panicked (V6 2)else if Xb ((ws.drop (a+1)).take m) gone ptrs 0=false then .panicked (V6 3)else .returned (.tuple #[]):=rfl
 generalize LM ws ⟨a,m,ptrs,gone,target⟩=E at*;unfold Wy;dsimp only;by_cases l:(ws.length:Int)<a+1+m
 ·rw[if_pos l]at r;have u:=Zdv r;clear r;have Q:((ws.length- (a+1):Nat):Int)<m:=Z0;go_enter Sol.func127,Tryz.ntmps127;go_wp2
  all_goals exact⟨rfl,u.out.symm,(ZdZ _ _).alloc (Zdp _) _⟩
 ·rw[if_neg l]at r;have u:=Zdv r;clear r;have N:(m:Int)<=((ws.length- (a+1):Nat):Int):=Z0;have O:m<=ws.length- (a+1):=Z0;have R:(ws.length- (a+1)<m)=False:=Zht Z0;have X:m<=cap- (a+1):=Z0;have Z:m<=255:=Z0;clear C l;by_cases z:cap=a+1
  ·have I:m=0:=Z0;subst I;subst z;go_enter Sol.func127,Tryz.ntmps127;go_wp2
   go_loopw [26] (λi wr=>i=.int .i64 0/\Hid (Below w.heap.size w wr)) (λi _=>0)
   case atStart=>exact⟨rfl,Zdv ((ZdZ _ _).alloc (Zdp _) _)⟩
   case round=>
    obtain⟨rfl,T⟩:=hrel;go_wp2
    go_end0
    exact⟨u.out.symm,T.out⟩
  ·go_enter Sol.func127,Tryz.ntmps127;go_wp2
   go_loopw [26] (λi wr=>∃k:Nat,i=.int .i64 k/\k<=m/\Hid (Below w.heap.size w wr/\wr.heap[w.heap.size]?=some (.cells #[.int .i64 a,.int .i64 m,.int .i64 ptrs,.bool gone,.int .u64 target] 68 (0,0))/\
     Xb ((ws.drop (a+1)).take m) gone ptrs 0=Xb (((ws.drop (a+1)).take m).drop k) gone ptrs k)) (λi _=>m- (intOf i).toNat)
   case atStart=>exact⟨0,rfl,Z0,Zdv ⟨(ZdZ _ _).alloc (Zdp _) _,ZdO w _,rfl⟩⟩
   case round=>
    obtain⟨k,rfl,hk,d⟩:=hrel;by_cases A:k<m
    ·obtain⟨x,D⟩:∃x,ws[a+1+k]?=some x:=⟨_,Zdk Z0⟩;have S:ZA x:=J.out.u64 x (Zdr D)
     have K:((ws.drop (a+1)).take m)[k]?=some x:=by
      rw[ZdY,if_pos A,ZdW];exact D
     have c0:wr.cell? ⟨g,o+(a+1)+k,none⟩=some (.int .u64 x):=by
      rw[ZeF];exact(d.out.1.cell (p:=⟨g,o+(a+1+k),none⟩) Y).trans (J.out.at_ _ _ D)
     have c1:wr.cell? ⟨w.heap.size,1,none⟩=some (.int .i64 m):=Zd3;have c2:wr.cell? ⟨w.heap.size,2,none⟩=some (.int .i64 ptrs):=Zd3;have c3:wr.cell? ⟨w.heap.size,3,none⟩=some (.bool gone):=Zd3;have q:=N0 (gone:=gone) (ptrs:=ptrs) K;have P:(k:Int)<m:=Z0;have G:=YT d.out.2.1;clear D K
     have stop:Xb (((ws.drop (a+1)).take m).drop k) gone ptrs k=false->E=.panicked (V6 3):=λh=>by
      rw[u.out,d.out.2.2,h,if_pos rfl]
     cases gone
     ·by_cases hp:(k:Int)<ptrs
      ·cases H:WY x
       ·have f:=Zdv (stop Zcq);clear stop q
        go_wp2_with (go_at_call 128;refine(IG S _).mono ?_;rintro e w1 ⟨rfl,j⟩;have n:=Zdv j;clear j)
        exact⟨rfl,f.out.symm,d.out.1.trans (n.out.mono d.out.1.size)⟩
       ·have y:=Zdv (q.trans (by simp[H]:_=Xb (((ws.drop (a+1)).take m).drop (k+1)) false ptrs (k+1)));clear stop q
        go_wp2_with (go_at_call 128;refine(IG S _).mono ?_;rintro e w1 ⟨rfl,j⟩;have n:=Zdv j;clear j)
        go_wp2
        go_roundw
        case rel=>
         exact⟨k+1,by go_num,Z0,Zdv ⟨d.out.1.trans (n.out.mono d.out.1.size),(n.out.block _ G).trans d.out.2.1,d.out.2.2.trans y.out⟩⟩
        case measure=>grind [intOf]
      ·have y:=Zdv (q.trans (by simp[hp]:_=Xb (((ws.drop (a+1)).take m).drop (k+1)) false ptrs (k+1)));clear stop q;go_wp2
       go_roundw
       case rel=>exact⟨k+1,by go_num,Z0,Zdv ⟨d.out.1,d.out.2.1,d.out.2.2.trans y.out⟩⟩
       case measure=>grind [intOf]
     ·by_cases U:x=0
      ·subst U;have y:=Zdv (q.trans (by simp[WY]:_=Xb (((ws.drop (a+1)).take m).drop (k+1)) true ptrs (k+1)));clear stop q;go_wp2
       go_roundw
       case rel=>exact⟨k+1,by go_num,Z0,Zdv ⟨d.out.1,d.out.2.1,d.out.2.2.trans y.out⟩⟩
       case measure=>grind [intOf]
      ·have f:=Zdv (stop Zcq);clear stop q;go_wp2;exact⟨rfl,f.out.symm,d.out.1⟩
    ·have:k=m:=Z0;subst this;have F:=d.out.2.2;have M:((ws.drop (a+1)).take k).drop k=[]:=Zf0 Zcq;rw[M]at F;have f:=Zdv (u.out.trans (by rw[F];rfl:_=Ending.returned (.tuple #[])));clear F M;go_wp2
     go_end0
     exact⟨f.out.symm,d.out.1⟩
end Vm
namespace Vm
open Go Go.Proofs Go.RowKit
def Z3C(w:World):Sem.run Sol.prog (binOp .neq 183 .nilFunc .nilFunc) w=.ok (.bool false) w:=Zdf
def Al(w:World)(f:FuncId)(vs:Array Value):Sem.run Sol.prog (binOp .neq 183 (.func (.func f) #[] vs) .nilFunc) w=.ok (.bool true) w:=Zdf
def yx{w:World}{b:Nat}{T:TypeId}{v0 v1 d f v4:Value}(h:w.heap[b]?=some (.cells #[v0,v1,d,f,v4] T (0,0)))(O:Obj):
  ((w.alloc O).cell? ⟨b,0,none⟩=some v0/\(w.alloc O).cell? ⟨b,1,none⟩=some v1/\(w.alloc O).cell? ⟨b,2,none⟩=some d/\(w.alloc O).cell? ⟨b,3,none⟩=some f/\(w.alloc O).cell? ⟨b,4,none⟩=some v4)/\
  (w.alloc O).frozen? ⟨b,0,none⟩=false/\(w.alloc O).frozen? ⟨b,1,none⟩=false/\(w.alloc O).frozen? ⟨b,2,none⟩=false/\(w.alloc O).frozen? ⟨b,3,none⟩=false/\(w.alloc O).frozen? ⟨b,4,none⟩=false:=by
 have a:(w.alloc O).heap[b]?=some (.cells #[v0,v1,d,f,v4] T (0,0)):=(Zds _ _ _ (YT h)).trans h;refine⟨⟨?_,?_,?_,?_,?_⟩,YD a,YD a,YD a,YD a,YD a⟩<;>(rw[ZdE _ _ _ _ _ _ a];rfl)
def Se(a:Nat)(x:Int):Ending:=if(ZO x).2.2=0 then .returned (Wy ⟨a,(ZO x).1,(ZO x).2.1,false,0⟩)else .panicked (V6 3)
def Pd(w:World)(ws:List Int)(g o cap:Nat)(n:Words w ws g o cap)(J:g<w.heap.size)(a:Nat)(x:Int)(hx:ws[a]?=some x):
  Calls Sol.prog 126 #[.slice (some ⟨g,o,none⟩) ws.length cap,.int .i64 a,.nilFunc] w λe L=>e=Se a x/\Below w.heap.size w L:=by
 have T:=n.len;have S:=n.le;have U:=n.cap;have K:a<ws.length:=(Zdl.1 hx).1;have A:(a:Int)<ws.length:=Z0;have q:ZA x:=n.u64 x (Zdr hx);have C:=n.at_ a x hx;have z:∀W,Below w.heap.size w W->W.cell? ⟨g,o+a,none⟩=some (.int .u64 x):=λW I=>(I.cell (p:=⟨g,o+a,none⟩) J).trans C;have l:Se a x=if(ZO x).2.2=0 then .returned (Wy ⟨a,(ZO x).1,(ZO x).2.1,false,0⟩)else .panicked (V6 3):=rfl
 generalize Se a x=E at*;have y:=Zdv z;have B:=Z3C;clear n hx z;by_cases t:(ZO x).2.2=0
 ·rw[if_pos t]at l;have r:=Zdv l;clear l;go_enter Sol.func126,Tryz.ntmps126
  go_wp2_with (first
   |(go_at_call 29;refine(VK q _).mono ?_;rintro e w1 ⟨rfl,f⟩;have d:=Zdv f;have D:=y.out w1 (((((ZdZ _ w).alloc (Zdp _) _).alloc (by simp) _).trans (f.mono (by simp;omega))));clear f)
   | (go_at_call 47;refine(KV q _).mono ?_;rintro e w2 ⟨rfl,h⟩;have j:=Zdv h
      have H:=d.out.block;have r0:w2.heap[w.heap.size]?=some (.cells #[.int .i64 0,.int .i64 0,.int .i64 0,.bool false,.int .u64 0] 68 (0,0)):=(h.block _ ZcY).trans ((d.out.block _ Zcr).trans ((Zds _ _ _ Z1).trans (ZdO w _)));have u:w2.heap[w.heap.size+1]?=some (.cells #[.int .i64 a,.int .i64 0,.int .i64 0,.bool false,.int .u64 0] 68 (0,0)):=(h.block _ ZcY).trans ((d.out.block _ Z1).trans Zcv);obtain⟨⟨M,N,O,P,Q⟩,y0,y1,y2,y3,y4⟩:=yx r0 (.cells #[.int .i64 (ZO x).1,.int .i64 (ZO x).2.1] 66);obtain⟨⟨X,Y,p2,p3,p4⟩,Z,q1,q2,q3,q4⟩:=yx u (.cells #[.int .i64 (ZO x).1,.int .i64 (ZO x).2.1] 66);have R:=Zdv (And.intro r0 u);clear h H r0 u))
  refine Zeu (v:=Wy ⟨a,(ZO x).1,(ZO x).2.1,false,0⟩) ?_ rfl ⟨r.out.symm,?_⟩
  ·simp[results,Tryz.results126,go_sem,Wy,M,N,O,P,Q]
  ·have k:=(((ZdZ _ w).alloc (Zdp _) (.cells #[.int .i64 0,.int .i64 0,.int .i64 0,.bool false,.int .u64 0] 68)).alloc Z1 (.cells #[.int .i64 a,.int .i64 0,.int .i64 0,.bool false,.int .u64 0] 68)).trans (d.out.mono Zcr);have G:=(k.trans (j.out.mono (by have:=k.size;omega))).alloc (by have:=k.size;have:=j.out.size;omega) (.cells #[.int .i64 (ZO x).1,.int .i64 (ZO x).2.1] 66);exact((((((G.setCell (p:=⟨w.heap.size+1,1,none⟩) Z1 _).setCell (p:=⟨w.heap.size+1,2,none⟩) Z1 _).setCell (p:=⟨w.heap.size,0,none⟩) (Zdp _) _).setCell (p:=⟨w.heap.size,1,none⟩) (Zdp _) _).setCell (p:=⟨w.heap.size,2,none⟩) (Zdp _) _).setCell (p:=⟨w.heap.size,3,none⟩) (Zdp _) _).setCell (p:=⟨w.heap.size,4,none⟩) (Zdp _) _
 ·rw[if_neg t]at l;have r:=Zdv l;clear l;have F:((ZO x).2.2=0)=False:=Zht t;go_enter Sol.func126,Tryz.ntmps126
  go_wp2_with (first
   |(go_at_call 29;refine(VK q _).mono ?_;rintro e w1 ⟨rfl,f⟩;have d:=Zdv f;have D:=y.out w1 (((((ZdZ _ w).alloc (Zdp _) _).alloc (by simp) _).trans (f.mono (by simp;omega))));clear f)
   |(go_at_call 47;refine(KV q _).mono ?_;rintro e w2 ⟨rfl,h⟩;have j:=Zdv h;clear h))
  refine⟨rfl,r.out.symm,?_⟩;have k:=(((ZdZ _ w).alloc (Zdp _) (.cells #[.int .i64 0,.int .i64 0,.int .i64 0,.bool false,.int .u64 0] 68)).alloc Z1 (.cells #[.int .i64 a,.int .i64 0,.int .i64 0,.bool false,.int .u64 0] 68)).trans (d.out.mono Zcr);exact(k.trans (j.out.mono (by have:=k.size;omega))).alloc (by have:=k.size;have:=j.out.size;omega) _
end Vm
namespace Vm
open Go Go.Proofs Go.RowKit
def MR(s p:Int)(w:World):Calls Sol.prog 78 #[.agg #[.int .i64 s,.int .i64 p]] w λe a=>e=.returned (.bool (Ye s p))/\Below w.heap.size w a:=
 Tq Mn rfl rfl w
structure Shps (w:World) (shs:List (Int×Int)) (bs:Nat) (v:Value):Prop where
 box:w.heap[bs]?=some (.cells #[v] 160 (0,0))
 val:(∃g o cap,v=.slice (some ⟨g,o,none⟩) shs.length cap/\shs.length<=cap/\cap<=maxLen/\g<w.heap.size/\∀(i:Nat) (x:Int×Int),shs[i]?=some x->w.cell? ⟨g,o+i*2,none⟩=some (.int .i64 x.1)/\w.cell? ⟨g,o+i*2+1,none⟩=some (.int .i64 x.2))\/
  (∃a cap,v=.slice a 0 cap/\shs=[])
def Z1c(w:World)(shs:List (Int×Int))(bt h:Nat)(v:Value)(x:shs.length<=1000000)(d:Shps w shs h v)(f:w.heap[bt]?=some (.cells #[.int .i64 shs.length] 3 (0,0))):
  Calls Sol.prog 121 #[.pointer (some ⟨bt,0,none⟩),.pointer (some ⟨h,0,none⟩)] w λe p=>e=.panicked (V6 3)/\Below w.heap.size w p:=by
 have k:w.cell? ⟨bt,0,none⟩=some (.int .i64 shs.length):=by rw[ZdE _ _ _ _ _ _ f];rfl
 have n:=YT f;have j:=YT d.box;have q:w.cell? ⟨h,0,none⟩=some v:=by rw[ZdE _ _ _ _ _ _ d.box];rfl
 obtain⟨g,o,cap,rfl,r,t,u,l⟩|⟨a,cap,rfl,rfl⟩:=d.val
 ·clear l d f;go_enter Sol.func121,Tryz.ntmps121;go_wp2;exact⟨rfl,rfl,(ZdZ _ _).alloc (Zdp _) _⟩
 ·clear d f;simp only[Zfy]at k;go_enter Sol.func121,Tryz.ntmps121;go_wp2;exact⟨rfl,rfl,(ZdZ _ _).alloc (Zdp _) _⟩
def Z1b(w:World)(shs:List (Int×Int))(bt j t:Nat)(v:Value)(x:Int×Int)(I:shs.length<=1000000)(f:Shps w shs j v)(k:w.heap[bt]?=some (.cells #[.int .i64 t] 3 (0,0)))(hx:shs[t]?=some x)(r:Ye x.1 x.2=false):
  Calls Sol.prog 121 #[.pointer (some ⟨bt,0,none⟩),.pointer (some ⟨j,0,none⟩)] w λe A=>e=.panicked (V6 3)/\Below w.heap.size w A:=by
 have B:w.cell? ⟨bt,0,none⟩=some (.int .i64 t):=by rw[ZdE _ _ _ _ _ _ k];rfl
 have u:=YT k;have p:=YT f.box;have y:t<shs.length:=(Zdl.1 hx).1;have z:¬t=shs.length:=Z0;have q:(t:Int)<shs.length:=Z0;have C:w.cell? ⟨j,0,none⟩=some v:=by rw[ZdE _ _ _ _ _ _ f.box];rfl
 obtain⟨g,o,cap,rfl,F,G,H,n⟩|⟨a,cap,rfl,rfl⟩:=f.val
 ·obtain⟨D,d1⟩:=n t x hx;have l:=MR x.1 x.2;rw[r]at l;clear n f k hx r;go_enter Sol.func121,Tryz.ntmps121
  go_wp2_with (go_at_call 78;refine(l _).mono ?_;rintro e w1 ⟨rfl,d⟩;have h:=Zdv d;clear d)
  exact⟨rfl,rfl,((ZdZ _ w).alloc (Zdp _) _).trans (h.out.mono Z1)⟩
 grind
def Z1d(w:World)(shs:List (Int×Int))(bt f t:Nat)(v:Value)(x:Int×Int)(hl:shs.length<=1000000)(y:Shps w shs f v)(l:w.heap[bt]?=some (.cells #[.int .i64 t] 3 (0,0)))(hx:shs[t]?=some x)(J:Ye x.1 x.2=true)(q:f≠bt)
  (r:∀g o cap,v=.slice (some ⟨g,o,none⟩) shs.length cap->g≠bt):
  Calls Sol.prog 121 #[.pointer (some ⟨bt,0,none⟩),.pointer (some ⟨f,0,none⟩)] w λe K=>e=.returned (.agg #[.int .i64 x.1,.int .i64 x.2])/\w.grownBy K (some bt)/\K.heap[bt]?=some (.cells #[.int .i64 ((t+1:Nat):Int)] 3 (0,0)):=by
 have L:w.cell? ⟨bt,0,none⟩=some (.int .i64 t):=by rw[ZdE _ _ _ _ _ _ l];rfl
 have h:=YT l;have n:=YT y.box;have P:t<shs.length:=(Zdl.1 hx).1;have u:¬t=shs.length:=Z0;have I:(t:Int)<shs.length:=Z0;have M:w.cell? ⟨f,0,none⟩=some v:=by rw[ZdE _ _ _ _ _ _ y.box];rfl
 have hf:=YD (o:=0) l;have G:¬f=bt:=q;have H:¬bt=f:=λe=>q e.symm;obtain⟨g,o,cap,rfl,Y,Z,D,F⟩|⟨a,cap,rfl,rfl⟩:=y.val
 ·obtain⟨N,d1⟩:=F t x hx;have hg:=r g o cap rfl;have C:=MR x.1 x.2;rw[J]at C;have B:=Zdv l;clear F y l hx J r;go_enter Sol.func121,Tryz.ntmps121
  go_wp2_with (go_at_call 78;refine(C _).mono ?_;rintro e w1 ⟨rfl,d⟩
               have z:=Zdv d;have s1:=d.size;have k0:w1.cell? ⟨bt,0,none⟩=some (.int .i64 t):=(d.cell (p:=⟨bt,0,none⟩) Zcr).trans ((ZeO _ _ _ h).trans L);have k1:w1.frozen? ⟨bt,0,none⟩=false:=YD ((d.block bt Zcr).trans ((Zds _ _ _ h).trans B.out));have k2:w1.cell? ⟨f,0,none⟩=some (.slice (some ⟨g,o,none⟩) shs.length cap):=(d.cell (p:=⟨f,0,none⟩) Zcr).trans ((ZeO _ _ _ n).trans M);have k3:w1.cell? ⟨g,o+t*2,none⟩=some (.int .i64 x.1):=(d.cell (p:=⟨g,o+t*2,none⟩) Zcr).trans ((ZeO _ _ _ D).trans N);have k4:w1.cell? ⟨g,o+t*2+1,none⟩=some (.int .i64 x.2):=(d.cell (p:=⟨g,o+t*2+1,none⟩) Zcr).trans ((ZeO _ _ _ D).trans d1);have r0:w1.heap[w.heap.size]?=some (.cells #[.int .i64 0,.int .i64 0] 66 (0,0)):=(d.block _ Z1).trans (ZdO w _);have T:w1.cell? ⟨w.heap.size,0,none⟩=some (.int .i64 0):=by rw[ZdE _ _ _ _ _ _ r0];rfl
               have U:w1.cell? ⟨w.heap.size,1,none⟩=some (.int .i64 0):=by rw[ZdE _ _ _ _ _ _ r0];rfl
               have y0:=YD (o:=0) r0;have y1:=YD (o:=1) r0;have R:¬w.heap.size=bt:=Z0;have S:¬bt=w.heap.size:=Z0;have X:=Zdv r0;clear d r0)
  have j:Below w.heap.size w w1:=((ZdZ _ w).alloc (Zdp _) (.cells #[.int .i64 0,.int .i64 0] 66)).trans (z.out.mono Z1);have Q:w1.heap[bt]?=some (.cells #[.int .i64 t] 3 (0,0)):=(j.block bt h).trans B.out;refine Zeu (v:=.agg #[.int .i64 x.1,.int .i64 x.2]) ?_ rfl ⟨rfl,⟨j.os,j.tape,j.output,?_,λk O u=> ?_⟩,?_⟩
  ·simp[results,Tryz.results121,go_sem,T,U,R,S]
  ·simp[World.setCell];exact j.size
  ·have A:k≠bt:=λe=>u (by rw[e]);rw[ZdS _ _ _ _ Zcp,ZdS _ _ _ _ Zcp,ZdS _ _ _ _ A];exact j.block k O
  simp_all[ZdS,World.setCell,Zep]
 grind
end Vm
namespace Vm
open Go Go.Proofs Go.RowKit
def Pe(w:World)(f:FuncId)(vs:Array Value)(ws:List Int)(g o cap:Nat)(q:Words w ws g o cap)(M:g<w.heap.size)(a:Nat)(x:Int)(hx:ws[a]?=some x)(y:¬(adr x).2=0):
  Calls Sol.prog 126 #[.slice (some ⟨g,o,none⟩) ws.length cap,.int .i64 a,.func (.func f) #[] vs] w λe O=>e=Se a x/\Below w.heap.size w O:=by
 have Y:=q.len;have X:=q.le;have Z:=q.cap;have N:a<ws.length:=(Zdl.1 hx).1;have C:(a:Int)<ws.length:=Z0;have r:ZA x:=q.u64 x (Zdr hx);have F:=q.at_ a x hx;have B:∀W,Below w.heap.size w W->W.cell? ⟨g,o+a,none⟩=some (.int .u64 x):=λW K=>(K.cell (p:=⟨g,o+a,none⟩) M).trans F;have n:Se a x=if(ZO x).2.2=0 then .returned (Wy ⟨a,(ZO x).1,(ZO x).2.1,false,0⟩)else .panicked (V6 3):=rfl
 generalize Se a x=E at*;have A:=Zdv B;have L:=λW=>Al W f vs;have D:((adr x).2=0)=False:=Zht y;clear q hx B;by_cases u:(ZO x).2.2=0
 ·rw[if_pos u]at n;have t:=Zdv n;clear n;go_enter Sol.func126,Tryz.ntmps126
  go_wp2_with (first
   |(go_at_call 29;refine(VK r _).mono ?_;rintro e w1 ⟨rfl,h⟩;have d:=Zdv h;have G:=A.out w1 (((((ZdZ _ w).alloc (Zdp _) _).alloc (by simp) _).trans (h.mono (by simp;omega))));clear h)
   | (go_at_call 47;refine(KV r _).mono ?_;rintro e w2 ⟨rfl,j⟩;have k:=Zdv j
      have J:=d.out.block;have r0:w2.heap[w.heap.size]?=some (.cells #[.int .i64 0,.int .i64 0,.int .i64 0,.bool false,.int .u64 0] 68 (0,0)):=(j.block _ ZcY).trans ((d.out.block _ Zcr).trans ((Zds _ _ _ Z1).trans (ZdO w _)));have z:w2.heap[w.heap.size+1]?=some (.cells #[.int .i64 a,.int .i64 0,.int .i64 0,.bool false,.int .u64 0] 68 (0,0)):=(j.block _ ZcY).trans ((d.out.block _ Z1).trans Zcv);obtain⟨⟨P,Q,R,S,T⟩,y0,y1,y2,y3,y4⟩:=yx r0 (.cells #[.int .i64 (ZO x).1,.int .i64 (ZO x).2.1] 66);obtain⟨⟨p0,p1,p2,p3,p4⟩,q0,q1,q2,q3,q4⟩:=yx z (.cells #[.int .i64 (ZO x).1,.int .i64 (ZO x).2.1] 66);have U:=Zdv (And.intro r0 z);clear j J r0 z))
  refine Zeu (v:=Wy ⟨a,(ZO x).1,(ZO x).2.1,false,0⟩) ?_ rfl ⟨t.out.symm,?_⟩
  ·simp[results,Tryz.results126,go_sem,Wy,P,Q,R,S,T]
  ·have l:=(((ZdZ _ w).alloc (Zdp _) (.cells #[.int .i64 0,.int .i64 0,.int .i64 0,.bool false,.int .u64 0] 68)).alloc Z1 (.cells #[.int .i64 a,.int .i64 0,.int .i64 0,.bool false,.int .u64 0] 68)).trans (d.out.mono Zcr);have I:=(l.trans (k.out.mono (by have:=l.size;omega))).alloc (by have:=l.size;have:=k.out.size;omega) (.cells #[.int .i64 (ZO x).1,.int .i64 (ZO x).2.1] 66);exact((((((I.setCell (p:=⟨w.heap.size+1,1,none⟩) Z1 _).setCell (p:=⟨w.heap.size+1,2,none⟩) Z1 _).setCell (p:=⟨w.heap.size,0,none⟩) (Zdp _) _).setCell (p:=⟨w.heap.size,1,none⟩) (Zdp _) _).setCell (p:=⟨w.heap.size,2,none⟩) (Zdp _) _).setCell (p:=⟨w.heap.size,3,none⟩) (Zdp _) _).setCell (p:=⟨w.heap.size,4,none⟩) (Zdp _) _
 ·rw[if_neg u]at n;have t:=Zdv n;clear n;have H:((ZO x).2.2=0)=False:=Zht u;go_enter Sol.func126,Tryz.ntmps126
  go_wp2_with (first
   |(go_at_call 29;refine(VK r _).mono ?_;rintro e w1 ⟨rfl,h⟩;have d:=Zdv h;have G:=A.out w1 (((((ZdZ _ w).alloc (Zdp _) _).alloc (by simp) _).trans (h.mono (by simp;omega))));clear h)
   |(go_at_call 47;refine(KV r _).mono ?_;rintro e w2 ⟨rfl,j⟩;have k:=Zdv j;clear j))
  refine⟨rfl,t.out.symm,?_⟩;have l:=(((ZdZ _ w).alloc (Zdp _) (.cells #[.int .i64 0,.int .i64 0,.int .i64 0,.bool false,.int .u64 0] 68)).alloc Z1 (.cells #[.int .i64 a,.int .i64 0,.int .i64 0,.bool false,.int .u64 0] 68)).trans (d.out.mono Zcr);exact(l.trans (k.out.mono (by have:=l.size;omega))).alloc (by have:=l.size;have:=k.out.size;omega) _
def Dw(w:World)(vs:Array Value)(ws:List Int)(g o cap:Nat)(h:Words w ws g o cap)(G:g<w.heap.size)(a:Nat)(x:Int)(hx:ws[a]?=some x)(A:(adr x).2=0)
  (d:∀W,Below w.heap.size w W->Calls Sol.prog 121 vs W λe W'=>e=.panicked (V6 3)/\Below W.heap.size W W'):
  Calls Sol.prog 126 #[.slice (some ⟨g,o,none⟩) ws.length cap,.int .i64 a,.func (.func 121) #[] vs] w λe C=>e=.panicked (V6 3)/\Below w.heap.size w C:=by
 have H:=h.len;have F:=h.le;have I:=h.cap;have z:a<ws.length:=(Zdl.1 hx).1;have t:(a:Int)<ws.length:=Z0;have B:ZA x:=h.u64 x (Zdr hx);have D:=h.at_ a x hx;have y:=λW=>Al W 121 vs;have u:=Zdv d;clear h hx d;go_enter Sol.func126,Tryz.ntmps126
 go_wp2_with (first
  | (go_at_call 29;refine(VK B _).mono ?_;rintro e w1 ⟨rfl,f⟩
     have r:Below w.heap.size w w1:=((((ZdZ _ w).alloc (Zdp _) _).alloc Z1 _).trans (f.mono Zcr));have k:w1.heap[w.heap.size+1]?=some (.cells #[.int .i64 a,.int .i64 0,.int .i64 0,.bool false,.int .u64 0] 68 (0,0)):=(f.block _ Z1).trans Zcv;have p3:w1.cell? ⟨w.heap.size+1,3,none⟩=some (.bool false):=by rw[ZdE _ _ _ _ _ _ k];rfl
     have p4:w1.cell? ⟨w.heap.size+1,4,none⟩=some (.int .u64 0):=by rw[ZdE _ _ _ _ _ _ k];rfl
     have J:=YD (o:=3) k;have K:=YD (o:=4) k;have n:=Zdv r;clear f r k)
  |(go_at_call 121;refine(u.out _ ?_).mono ?_;rotate_left;rintro e w2 ⟨rfl,j⟩;have l:=Zdv j;clear j))
 case refine_1=>exact(n.out.setCell (p:=⟨w.heap.size+1,3,none⟩) Z1 _).setCell (p:=⟨w.heap.size+1,4,none⟩) Z1 _
 case refine_2=>
  have q:=(n.out.setCell (p:=⟨w.heap.size+1,3,none⟩) Z1 (.bool true)).setCell (p:=⟨w.heap.size+1,4,none⟩) Z1 (.int .u64 (adr x).1);exact⟨rfl,rfl,q.trans (l.out.mono q.size)⟩
theorem Z1f{w W:World}{r:Option Nat}(h:w.grownBy W r){p:Addr}(f:w.heap.size<=p.block)(u:Value):w.grownBy (W.setCell p u) r:=
 ⟨h.os,h.tape,h.output,by simpa[World.setCell]using h.size,λk d a=>(ZdS _ _ _ _ Z0).trans (h.block k d a)⟩
def Pc(w:World)(vs:Array Value)(ws:List Int)(g o cap:Nat)(r:Words w ws g o cap)(Z:g<w.heap.size)(a:Nat)(x:Int)(hx:ws[a]?=some x)(N:(adr x).2=0)
  (bt:Nat) (O:Obj) (s p:Int) (J:bt<w.heap.size)
  (f:∀W,Below w.heap.size w W->Calls Sol.prog 121 vs W λe W'=>e=.returned (.agg #[.int .i64 s,.int .i64 p])/\W.grownBy W' (some bt)/\W'.heap[bt]?=some O):
  Calls Sol.prog 126 #[.slice (some ⟨g,o,none⟩) ws.length cap,.int .i64 a,.func (.func 121) #[] vs] w λe H=>e=.returned (Wy ⟨a,s,p,true,(adr x).1⟩)/\w.grownBy H (some bt)/\H.heap[bt]?=some O:=by
 have hl:=r.len;have Y:=r.le;have hm:=r.cap;have M:a<ws.length:=(Zdl.1 hx).1;have G:(a:Int)<ws.length:=Z0;have P:ZA x:=r.u64 x (Zdr hx);have X:=r.at_ a x hx;have K:=λW=>Al W 121 vs;have I:=Zdv f;clear r hx f;go_enter Sol.func126,Tryz.ntmps126
 go_wp2_with (first
  | (go_at_call 29;refine(VK P _).mono ?_;rintro e w1 ⟨rfl,j⟩
     have D:Below w.heap.size w w1:=((((ZdZ _ w).alloc (Zdp _) _).alloc Z1 _).trans (j.mono Zcr));have t:w1.heap[w.heap.size+1]?=some (.cells #[.int .i64 a,.int .i64 0,.int .i64 0,.bool false,.int .u64 0] 68 (0,0)):=(j.block _ Z1).trans Zcv;have p3:w1.cell? ⟨w.heap.size+1,3,none⟩=some (.bool false):=by rw[ZdE _ _ _ _ _ _ t];rfl
     have p4:w1.cell? ⟨w.heap.size+1,4,none⟩=some (.int .u64 0):=by rw[ZdE _ _ _ _ _ _ t];rfl
     have q3:=YD (o:=3) t;have q4:=YD (o:=4) t;have r0:w1.heap[w.heap.size]?=some (.cells #[.int .i64 0,.int .i64 0,.int .i64 0,.bool false,.int .u64 0] 68 (0,0)):=(j.block _ Zcr).trans ((Zds _ _ _ Z1).trans (ZdO w _));have z:=Zdv (And.intro r0 t);have C:=Zdv D;clear j D r0 t)
  | (go_at_call 121;refine(I.out _ ?_).mono ?_;rotate_left;rintro e w2 ⟨rfl,l,u⟩
     have d:=Zdv l;have A:=Zdv u;have n:w2.heap[w.heap.size+1]?=some (.cells #[.int .i64 a,.int .i64 0,.int .i64 0,.bool true,.int .u64 (adr x).1] 68 (0,0)):=(l.block _ (by simp[World.setCell];exact YT z.out.2) Zcr).trans (by simp[World.setCell,Zep,z.out.2]);have h:w2.heap[w.heap.size]?=some (.cells #[.int .i64 0,.int .i64 0,.int .i64 0,.bool false,.int .u64 0] 68 (0,0)):=(l.block _ (by simp[World.setCell];exact YT z.out.1) Zcr).trans (by simp[World.setCell,Zep,z.out.1]);have s0:w2.cell? ⟨w.heap.size+1,0,none⟩=some (.int .i64 a):=ZcQ;have s1:w2.cell? ⟨w.heap.size+1,1,none⟩=some (.int .i64 0):=ZcQ;have s2:w2.cell? ⟨w.heap.size+1,2,none⟩=some (.int .i64 0):=ZcQ;have s3:w2.cell? ⟨w.heap.size+1,3,none⟩=some (.bool true):=ZcQ;have s4:w2.cell? ⟨w.heap.size+1,4,none⟩=some (.int .u64 (adr x).1):=ZcQ;have Q:w2.cell? ⟨w.heap.size,0,none⟩=some (.int .i64 0):=ZcP;have R:w2.cell? ⟨w.heap.size,1,none⟩=some (.int .i64 0):=ZcP;have S:w2.cell? ⟨w.heap.size,2,none⟩=some (.int .i64 0):=ZcP;have T:w2.cell? ⟨w.heap.size,3,none⟩=some (.bool false):=ZcP;have U:w2.cell? ⟨w.heap.size,4,none⟩=some (.int .u64 0):=ZcP;have u1:=YD (o:=1) n;have u2:=YD (o:=2) n;have v0:=YD (o:=0) h;have v1:=YD (o:=1) h;have v2:=YD (o:=2) h;have v3:=YD (o:=3) h;have v4:=YD (o:=4) h;clear l u h n))
 case refine_1=>exact(C.out.setCell (p:=⟨w.heap.size+1,3,none⟩) Z1 _).setCell (p:=⟨w.heap.size+1,4,none⟩) Z1 _
 next=>
  have q:=(C.out.setCell (p:=⟨w.heap.size+1,3,none⟩) Z1 (.bool true)).setCell (p:=⟨w.heap.size+1,4,none⟩) Z1 (.int .u64 (adr x).1);have L:w.grownBy w2 (some bt):=⟨d.out.os.trans q.os,d.out.tape.trans q.tape,d.out.output.trans q.output,ZdP q.size d.out.size,λk F B=>(d.out.block k (Zdw F q.size) B).trans (q.block k F)⟩;have k1:bt≠w.heap.size+1:=Z0;have y:bt≠w.heap.size:=Z0;clear q;refine Zeu (v:=Wy ⟨a,s,p,true,(adr x).1⟩) ?_ rfl ⟨rfl,?_,?_⟩
  ·simp[results,Tryz.results126,go_sem,Wy,Q,R,S,T,U]
  ·grind [Z1f]
  ·rw[ZdS _ _ _ _ y,ZdS _ _ _ _ y,ZdS _ _ _ _ y,ZdS _ _ _ _ y,ZdS _ _ _ _ y,ZdS _ _ _ _ k1,ZdS _ _ _ _ k1];exact A.out
end Vm
namespace Vm
open Go Go.Proofs Go.RowKit Go.Shelf
def Ug(W:World)(bl:Nat):Option Nat:=(W.cell? ⟨bl,0,none⟩).bind Value.ownBlock
structure KpW (bl base:Nat) (A B:World):Prop where
 size:A.heap.size<=B.heap.size
 same:∀k o,A.heap[k]?=some o->o.isCells=true->k≠bl->(k<base\/Ug A bl≠some k)->B.heap[k]?=some o
 row:∀k,k<A.heap.size->Ug B bl=some k->Ug A bl=some k
theorem KpW.trans{bl base:Nat}{A B C:World}(h:KpW bl base A B)(k:KpW bl base B C):KpW bl base A C:=
 ⟨ZdP h.size k.size,λi o a j l d=>k.same i o (h.same i o a j l d) j l (d.imp id λf e=>f (h.row i (YT a) e)),λi a d=>h.row i a (k.row i (Zdw a h.size) d)⟩
theorem KpW.put{bl base:Nat}{W:World}{l:Nat}{o:Obj}(d:Obj)(n:W.heap[l]?=some o)(p:o.isCells=false)(h:bl≠l):KpW bl base W (W.putObj l d):=by
 have a:(W.putObj l d).cell? ⟨bl,0,none⟩=W.cell? ⟨bl,0,none⟩:=Zel (Zew Z0);refine⟨(ZgD W l d).size,λk r j f _ _=> ?_,λk _ q=> ?_⟩
 ·grind [World.putObj_heap_other,trans]
 simp_all[Ug]
def L0(ws:List Int)(g o cap:Nat)(gv:Value)(shs:List (Int×Int))(old:Bool)(bt:Option Nat)(K:Nat->World->Prop):Prop:=
 ∀(W:World) (a t:Nat) (x:Int),Words W ws g o cap->g<W.heap.size->K t W->ws[a]?=some x->
  Calls Sol.prog 126 #[.slice (some ⟨g,o,none⟩) ws.length cap,.int .i64 a,gv] W λe W'=>W.grownBy W' bt/\match XU shs old a t x with
   |some (d,f)=>e=.returned (Wy d)/\K f W'
   |none=>e=.panicked (V6 3)
def Lq(ws:List Int)(shs:List (Int×Int))(old:Bool)(K:Nat->World->Prop)(xs:List Ob)(W:World):Prop:=
 ∃t,K t W/\ZL ws shs old=(if t<shs.length then([],3)else(xs,0))
def Z0B(ws:List Int)(shs:List (Int×Int))(old:Bool)(chain:List PanicEntry)(pre:List Ob)(W:World):Prop:=
 ∃e,(e=2\/e=3)/\chain=V6 e/\ZL ws shs old=([],e)
structure Stat6 (ws:List Int) (g o cap:Nat) (sv:Value) (bw bg base bl:Nat) (bt:Option Nat) (gv:Value) (W:World):Prop where
 words:Words W ws g o cap
 sv_:sv=.slice (some ⟨g,o,none⟩) ws.length cap\/(ws=[]/\∃a c,sv=.slice a 0 c)
 hbw:W.heap[bw]?=some (.cells #[sv] 23 (0,0))
 hbg:W.heap[bg]?=some (.cells #[gv] 183 (0,0))
 gb:ws≠[]->∃ob,W.heap[g]?=some ob/\ob.isCells=true
 lt:g<base/\bw<base/\bg<base/\base<=W.heap.size
 ne:g≠bl/\bw≠bl/\bg≠bl
 nt:some g≠bt/\some bw≠bt/\some bg≠bt
section
variable {ws:List Int}{g o cap bw bg base bl:Nat}{bt:Option Nat}{sv gv:Value}{W W':World}
theorem Stat6.of(h:Stat6 ws g o cap sv bw bg base bl bt gv W)(n:W.heap.size<=W'.heap.size)(d:∀k a,W.heap[k]?=some a->a.isCells=true->k<base->k≠bl->some k≠bt->W'.heap[k]?=some a):Stat6 ws g o cap sv bw bg base bl bt gv W':=by
 refine⟨⟨λi x p=> ?_,h.words.le,h.words.cap,h.words.len,h.words.u64⟩,h.sv_,d _ _ h.hbw rfl h.lt.2.1 h.ne.2.1 h.nt.2.1,d _ _ h.hbg rfl h.lt.2.2.1 h.ne.2.2 h.nt.2.2,λj=> ?_,⟨h.lt.1,h.lt.2.1,h.lt.2.2.1,ZdP h.lt.2.2.2 n⟩,h.ne,h.nt⟩
 ·have j:ws≠[]:=λe=>Zcq;obtain⟨a,l,f⟩:=h.gb j;have q:=d _ _ l f h.lt.1 h.ne.1 h.nt.1;rw[<-h.words.at_ i x p]
  grind [World.cell?_of_block]
 ·obtain⟨a,l,f⟩:=h.gb j;exact⟨a,d _ _ l f h.lt.1 h.ne.1 h.nt.1,f⟩
def Stat6.grown(h:Stat6 ws g o cap sv bw bg base bl bt gv W)(a:W.grownBy W' bt):Stat6 ws g o cap sv bw bg base bl bt gv W':=
 h.of a.size λk j d _ _ _ f=>(a.block k (YT d) f).trans d
def Stat6.kp(h:Stat6 ws g o cap sv bw bg base bl bt gv W)(j:KpW bl base W W'):Stat6 ws g o cap sv bw bg base bl bt gv W':=
 h.of j.size λk n a l d f _=>j.same k n a l f (.inl d)
end
def Ri{W W':World}(a:Below W.heap.size W W')(r:Option Nat):W.grownBy W' r:=⟨a.os,a.tape,a.output,a.size,λk d _=>a.block k d⟩
def Pa{ws:List Int}{g o cap:Nat}:L0 ws g o cap .nilFunc [] false none (λt _=>t=0):=by
 intro W a t x h f k j;refine(Pd W ws g o cap h f a x j).mono ?_;rintro e W' ⟨rfl,d⟩;refine⟨Ri d none,?_⟩;unfold XU Se
 grind
def Shps.grown{W W':World}{shs:List (Int×Int)}{d:Nat}{v:Value}{r:Option Nat}(h:Shps W shs d v)(j:W.grownBy W' r)(f:some d≠r)(k:shs≠[]->∀g o cap,v=.slice (some ⟨g,o,none⟩) shs.length cap->some g≠r):Shps W' shs d v:=by
 refine⟨(j.block _ (YT h.box) f).trans h.box,?_⟩;obtain⟨g,o,cap,rfl,n,p,l,q⟩|⟨a,cap,rfl,rfl⟩:=h.val
 ·refine .inl ⟨g,o,cap,rfl,n,p,Zdw l j.size,λi x u=> ?_⟩;have t:=j.block g l (k (λe=>Zcq) _ _ _ rfl)
  grind [World.cell?_of_block,trans]
 simp
def KOld(shs:List (Int×Int))(bt a:Nat)(v:Value)(t:Nat)(W:World):Prop:=W.heap[bt]?=some (.cells #[.int .i64 t] 3 (0,0))/\Shps W shs a v/\t<=shs.length
def Pb{ws:List Int}{g o cap:Nat}{shs:List (Int×Int)}{bt k:Nat}{v:Value}(B:shs.length<=1000000)(n:k≠bt)(q:shs≠[]->∀g o cap,v=.slice (some ⟨g,o,none⟩) shs.length cap->g≠bt):
  L0 ws g o cap (.func (.func 121) #[] #[.pointer (some ⟨bt,0,none⟩),.pointer (some ⟨k,0,none⟩)]) shs true (some bt) (KOld shs bt k v):=by
 intro W a t x y w F z;obtain⟨A,D,K⟩:=F;have p:some k≠some bt:=λe=>n Zcp;have r:shs≠[]->∀g o cap,v=.slice (some ⟨g,o,none⟩) shs.length cap->some g≠some bt:=λJ g o cap e M=>q J g o cap e Zcp;have h:∀W',Below W.heap.size W W'->Shps W' shs k v:=λW' d=>D.grown (Ri d none) Z1 (λ_ _ _ _ _=>Z1);have f:∀W',Below W.heap.size W W'->W'.heap[bt]?=some (.cells #[.int .i64 t] 3 (0,0)):=λW' d=>(d.block _ (YT A)).trans A;by_cases l:(adr x).2=0
 ·unfold XU;rw[if_pos ⟨rfl,l⟩];cases j:shs[t]? with
  |none=>
   have:t=shs.length:=by have:=ZfT.1 j;omega
   subst this;refine(Dw W _ ws g o cap y w a x z l λW' d=>Z1c W' shs bt k v B (h W' d) (f W' d)).mono ?_;rintro e W' ⟨rfl,d⟩;exact⟨Ri d _,rfl⟩
  |some s=>
   simp only;cases u:Ye s.1 s.2
   ·refine(Dw W _ ws g o cap y w a x z l λW' d=>Z1b W' shs bt k t v s B (h W' d) (f W' d) j u).mono ?_;rintro e W' ⟨rfl,d⟩;exact⟨Ri d _,Z1⟩
   ·refine(Pc W _ ws g o cap y w a x z l bt _ s.1 s.2 (YT A) λW' d=>Z1d W' shs bt k t v s B (h W' d) (f W' d) j u n (q (λe=>Zcq))).mono ?_;rintro e W' ⟨rfl,C,G⟩;have I:=(Zdl.1 j).1;refine⟨C,?_⟩;simp only[Ze3];exact⟨trivial,G,D.grown C p r,Z0⟩
 ·refine(Pe W _ _ ws g o cap y w a x z l).mono ?_;rintro e W' ⟨rfl,d⟩;refine⟨Ri d _,?_⟩;unfold XU Se;rw[if_neg (λH=>l H.2)];by_cases L:(ZO x).2.2=0
  ·simp only[L,Ze3];exact⟨trivial,f W' d,h W' d,K⟩
  simp_all
end Vm
end
section
namespace Vm
open Go Go.Proofs Go.RowKit Go.Shelf
def CY(a:Nat)(W:World):Prop:=∀k,Ug W a=some k->k<W.heap.size
def ES{A B C:World}{r:Option Nat}(h:A.grownBy B r)(k:B.grownBy C r):A.grownBy C r:=
 ⟨k.os.trans h.os,k.tape.trans h.tape,k.output.trans h.output,ZdP h.size k.size,λi a d=>(k.block i (Zdw a h.size) d).trans (h.block i a d)⟩
def Z7M(ws:List Int)(shs:List (Int×Int))(old:Bool){a t g:Nat}{x:Int}{d:Ob}(hx:ws[a]?=some x)(h:XU shs old a t x=some (d,g)){f:Nat}{pre:List Ob}:
  Xc ws shs old (f+1) a t pre=if(ws.length:Int)<a+1+d.size then([],2)else if Xb ((ws.drop (a+1)).take d.size.toNat) d.gone d.ptrs 0=false then([],3)else Xc ws shs old f (a+1+d.size.toNat) g (pre++[d]):=by
 simp_all[Xc]
def Z0x(n:Nat){w:World}{ws:List Int}{g o cap bw bg base z:Nat}{bt:Option Nat}{sv gv:Value}{shs:List (Int×Int)}{old:Bool}{K:Nat->World->Prop}(d9:Stat6 ws g o cap sv bw bg base z bt gv w)
  (f0:z<base) (b0:some z≠bt) (a7:L0 ws g o cap gv shs old bt K) (d6:K 0 w) (a4:∀t W W',K t W->Below W.heap.size W W'->K t W') (d7:∀t W W',K t W->KpW z base W W'->K t W'):
  CZ Fence.wide n Sol.prog 125 #[.pointer (some ⟨bw,0,none⟩),.pointer (some ⟨bg,0,none⟩)] (λd:Ob=> #[Wy d]) (KpW z base) (Lq ws shs old K) (Z0B ws shs old) ws.length bt (CY z) w:=by
 intro l J W hW d5 hJ hY h0;refine callsIn_of_wp Sol.func125 rfl trivial ?_ rfl;simp only[Tryz.ntmps125,ZeH,ZeM,Zfy,Nat.reduceAdd,Nat.reduceSub,ZfR,ZfS,Zgh,ZfY,Zej,ZeC];have b9:=Zdv (d9.grown (Ri hW bt));have b7:=Zdv (a4 0 w W d6 hW);have b5:=Zdv h0;clear h0
 gi_wp2
 gi_loopw [4] (λp wr=>∃(a t f:Nat) (pre:List Ob),p=.int .i64 a/\Hid (J pre wr/\K t wr/\Stat6 ws g o cap sv bw bg base z bt gv wr/\ws.length<f+a/\0<f/\a<=ws.length/\pre.length<=a/\ZL ws shs old=Xc ws shs old f a t pre))
  (λp _=>ws.length- (intOf p).toNat)
 case atStart=>exact⟨0,0,ws.length+1,[],rfl,Zdv ⟨b5.out,b7.out,b9.out,Z0,Z0,Z0,Z1,rfl⟩⟩
 case round=>
  obtain⟨a,t,f,pre,rfl,j⟩:=hrel;have k:=j.out.2.2.1;have Z:=k.sv_;have c1:wr.cell? ⟨bw,0,none⟩=some sv:=by rw[ZdE _ _ _ _ _ _ k.hbw];rfl
  have c2:wr.cell? ⟨bg,0,none⟩=some gv:=by rw[ZdE _ _ _ _ _ _ k.hbg];rfl
  have e2:=k.words.len;clear k;by_cases a9:a<ws.length
  ·obtain⟨x,hx⟩:∃x,ws[a]?=some x:=⟨_,Zdk a9⟩;obtain rfl:sv=.slice (some ⟨g,o,none⟩) ws.length cap:=Z.resolve_right (λh=>Zcq);clear Z;have e3:((a:Int)<ws.length)=True:=eq_true Z0;have hb:=a7 wr a t x j.out.2.2.1.words (by have:=j.out.2.2.1.lt;omega) j.out.2.1 hx;cases ho:XU shs old a t x with
   |none=>
    rw[ho]at hb;have HX:=Zdv hb;clear hb
    gi_wp2
    refine⟨trivial,λh=>ZcC,(ZgO.2 HX.out).mono ?_⟩;rintro e w1 ⟨y,rfl⟩;have H:=Zdv y;clear y
    gi_wp2
    refine⟨rfl,.inr ⟨_,pre,rfl,⟨3,.inr rfl,rfl,?_⟩,hJ _ _ _ _ j.out.1 H.out (λr e=>e.symm)⟩⟩;obtain⟨_,_,_,hf,M,_,_,I⟩:=j.out;cases f with
    |zero=>omega
    |succ f=>
     simp_all[Xc]
   |some q=>
    obtain⟨d,t'⟩:=q;rw[ho]at hb;have HX:=Zdv hb;clear hb;obtain⟨Y,B⟩:=zE ho
    gi_wp2
    refine⟨trivial,λh=>ZcC,(ZgO.2 HX.out).mono ?_⟩;rintro e w1 ⟨y,rfl,a8⟩;have H:=Zdv y;have b8:=Zdv a8;have L:=j.out.2.2.1.grown y;have e8:=Zdv L
    have e1:∀O,(w1.alloc O).cell? ⟨bw,0,none⟩=some (.slice (some ⟨g,o,none⟩) ws.length cap):=λO=>by
     rw[ZeO _ _ _ (YT L.hbw),ZdE _ _ _ _ _ _ L.hbw];rfl
    have X:wr.grownBy (w1.alloc (.cells #[.int .i64 a,.int .i64 d.size,.int .i64 d.ptrs,.bool d.gone,.int .u64 d.target] 68)) bt:=ES y (ZeK _ _ _);have a6:=Zdv (j.out.2.2.1.grown X);have hh:=Z1m (w1.alloc (.cells #[.int .i64 a,.int .i64 d.size,.int .i64 d.ptrs,.bool d.gone,.int .u64 d.target] 68)) ws g o cap a6.out.words (by have:=a6.out.lt;omega) d a B a9 Y;unfold Wy at hh;rw[B]at hh;have b3:=Zdv X;have Q:=Zdv hh;have G:∀f pre,Xc ws shs old (f+1) a t pre=_:=λf pre=>Z7M ws shs old hx ho (f:=f) (pre:=pre);have R:=Zdv G;clear y a8 L X hh G hx;unfold Wy
    gi_wp2
    refine⟨trivial,λh=>ZcC,(ZgO.2 Q.out).mono ?_⟩;rintro e w2 ⟨rfl,C⟩;have A:wr.grownBy w2 bt:=ES b3.out (Ri C bt);have P:=Zdv A;have b1:=Zdv C;unfold LM;by_cases S:(ws.length:Int)<d.at_+1+d.size
    ·rw[if_pos S];rw[B]at S;clear C A
     gi_wp2
     refine⟨rfl,.inr ⟨_,pre,rfl,⟨2,.inl rfl,rfl,?_⟩,hJ _ _ _ _ j.out.1 P.out (λr e=>e.symm)⟩⟩;obtain⟨_,_,_,hf,M,_,_,I⟩:=j.out;obtain⟨f,rfl⟩:∃f',f=f'+1:=⟨f-1,Z0⟩;rw[I,R.out,if_pos S]
    ·rw[if_neg S];by_cases T:Xb ((ws.drop (d.at_.toNat+1)).take d.size.toNat) d.gone d.ptrs 0=false
     ·rw[if_pos T];rw[B]at S T;clear C A
      gi_wp2
      refine⟨rfl,.inr ⟨_,pre,rfl,⟨3,.inr rfl,rfl,?_⟩,hJ _ _ _ _ j.out.1 P.out (λr e=>e.symm)⟩⟩;obtain⟨_,_,_,hf,M,_,_,I⟩:=j.out;obtain⟨f,rfl⟩:∃f',f=f'+1:=⟨f-1,Z0⟩;rw[I,R.out,if_neg Z0];simp_all
     ·rw[if_neg T];rw[B]at S T;simp only[ZdF]at T;have b4:=Zdv (And.intro S T);have U:=hJ _ _ _ _ j.out.1 A (λr e=>e.symm);have e6:=Zdv U;have c0:=Zdv (j.out.2.2.1.grown A);have u:w2.heap[w1.heap.size]?=some (.cells #[.int .i64 a,.int .i64 d.size,.int .i64 d.ptrs,.bool d.gone,.int .u64 d.target] 68 (0,0)):=(C.block _ Z1).trans (ZdO w1 _);have b2:=Zdv u;obtain⟨fn,e5,assign,e0,hy,I⟩:=hY pre d w2 U (by have:=j.out.2.2.2.2.2.2.1;omega);unfold Wy at hy;rw[B]at hy;have d0:w2.cell? ⟨w1.heap.size,0,none⟩=some (.int .i64 a):=ZcR;have d1:w2.cell? ⟨w1.heap.size,1,none⟩=some (.int .i64 d.size):=ZcR;have d2:w2.cell? ⟨w1.heap.size,2,none⟩=some (.int .i64 d.ptrs):=ZcR;have d3:w2.cell? ⟨w1.heap.size,3,none⟩=some (.bool d.gone):=ZcR;have d4:w2.cell? ⟨w1.heap.size,4,none⟩=some (.int .u64 d.target):=ZcR;clear C A U u
      gi_wp2
      refine⟨λh=>ZcC,I.mono ?_⟩;rintro e W3 ⟨rfl,a1,D⟩;have b6:=Zdv a1;have e7:=Zdv D
      have F:Ug w2 z≠some w1.heap.size:=by
       intro e;have d8:z<wr.heap.size:=by have:=j.out.2.2.1.lt.2.2.2;omega
       have:Ug w2 z=Ug wr z:=by
        unfold Ug;rw[Zel (a:=⟨z,0,none⟩) (P.out.block z d8 b0)]
       rw[this]at e;have:=d5 _ _ j.out.1 _ e;have:=H.out.size;omega
      have N:=D.same _ _ b2.out rfl (by have:=j.out.2.2.1.lt.2.2.2;have:=H.out.size;omega) (.inr F);have f1:W3.cell? ⟨w1.heap.size,1,none⟩=some (.int .i64 d.size):=by rw[ZdE _ _ _ _ _ _ N];rfl
      have a5:=c0.out.kp D;have a2:K t' w2:=a4 _ _ _ b8.out (((ZdZ _ _).alloc (Zdp _) _).trans (b1.out.mono Z1));have a3:=d7 _ _ _ a2 D;have a0:=Zdv (And.intro a5 a3);obtain⟨m,hm⟩:∃m:Nat,d.size=m:=⟨d.size.toNat,by have:=(Yf.1 Y).1;omega⟩;rw[hm]at f1;have f3:(m:Int)<=255:=by have:=(Yf.1 Y);omega
      have q1:IntKind.i64.wrap (1+(m:Int))=((1+m:Nat):Int):=by rw[Zy _ Z0 Z0];omega
      have q2:IntKind.i64.wrap ((a:Int)+((1+m:Nat):Int))=((a+(1+m):Nat):Int):=by rw[Zy _ Z0 Z0];omega
      clear a1 D N a5 a2 a3 F;clear T
      gi_wp2
      obtain⟨_,_,_,hf,M,e9,f4,I⟩:=j.out;obtain⟨f,rfl⟩:∃f',f=f'+1:=⟨f-1,Z0⟩;rw[R.out,if_neg Z0,if_neg b4.out.2]at I;have f2:a+1+m<=ws.length:=Z0;refine⟨⟨a+(1+m),t',f,pre++[d],Z1,Zdv ⟨b6.out,a0.out.2,a0.out.1,Z0,Z0,Z0,Zcr,?_⟩⟩,by grind [intOf]⟩
      grind
  ·have e4:((a:Int)<ws.length)=False:=Zht Z0
   have HE:Hid (Lq ws shs old K pre wr):=Zdv (by
    obtain⟨_,hK,_,hf,M,_,_,I⟩:=j.out;refine⟨t,hK,?_⟩;cases f with
    |zero=>omega
    |succ f=>
     simp_all[Xc,Zeq])
   obtain⟨sa,sc,rfl⟩:∃sa sc,sv=.slice sa ws.length sc:=by
    grind
   clear Z
   gi_wp2
   go_end0
   exact .inl ⟨_,pre,rfl,HE.out,j.out.1⟩
end Vm
namespace Vm
open Go Go.Proofs Go.RowKit Go.Shelf
def Z0y(w:World)(g d:Value)(k:∃a n c,g=.slice a n c)(h:d=.nilFunc\/∃f vs,d=.func (.func f) #[] vs):
  Calls Sol.prog 124 #[g,d] w λe l=>e=.returned (.func (.func 125) #[] #[.pointer (some ⟨w.heap.size,0,none⟩),.pointer (some ⟨w.heap.size+1,0,none⟩)])/\
   l=(w.alloc (.cells #[g] 23)).alloc (.cells #[d] 183):=by
 have j:∀(fn:Go.Fn) (first cap:Array Value) (w:World),(Instr.makeFunc fn first cap).run Sol.prog w=.ok (.func fn first cap) w:=λ_ _ _ _=>rfl;obtain⟨a,n,c,rfl⟩:=k;obtain rfl|⟨f,vs,rfl⟩:=h
 ·go_enter Sol.func124,Tryz.ntmps124;go_wp2;exact Zeu (results_tmp rfl _ _ _) rfl ⟨rfl,rfl⟩
 ·go_enter Sol.func124,Tryz.ntmps124;go_wp2;exact Zeu (results_tmp rfl _ _ _) rfl ⟨rfl,rfl⟩
def Z3A(w:World):Sem.run Sol.prog (binOp .neq 20 .nilIface .nilIface) w=.ok (.bool false) w:=Zdf
def Z3B(w:World)(T:TypeId)(v:Value):Sem.run Sol.prog (binOp .neq 20 (.iface T v) .nilIface) w=.ok (.bool true) w:=Zdf
def Z7m(w:World)(x:Int):Sem.run Sol.prog (Instr.typeAssert (.iface 182 (.agg #[.int .i64 x])) 20 182 true) w=.ok (.tuple #[.agg #[.int .i64 x],.bool true]) w:=Zdf
def Z0e(n:Nat)(p q:Addr)(w:World):
  CallsDIn Fence.wide n Sol.prog 123 #[.pointer (some p),.pointer (some q)] .returning w λe f g=>e=.returned (.tuple #[])/\f=.returning/\g=w:=by
 have j:=Z3A;refine callsDIn_of_wpSIn Sol.func123 rfl trivial λa h d=> ?_;simp only[Tryz.ntmps123,ZeH,ZeM,Zfy,Nat.reduceAdd,Nat.reduceSub,ZfR,ZfS,Zgh,ZfY,Zej,ZeC];apply wpSIn_seq;apply wpSIn_region;simp[wpOpsSIn,go_sem,recoverD,d,Exit.thenS];refine wpSIn_of_wpIn rfl ?_
 gi_wp2
 cases a;simp_all [bodyPostS,results,Tryz.results123]
def Z0f(n:Nat)(a d:Nat)(x:Int)(w:World)(z l:Value)(f:Boxed w a 84 z)(g:Boxed w d 39 l)(h:a≠d):
  CallsDIn Fence.wide n Sol.prog 123 #[.pointer (some ⟨a,0,none⟩),.pointer (some ⟨d,0,none⟩)] (.panicking (V6 x)) w λe y j=>
   e=.returned (.tuple #[])/\y=.panicking [{v:=.iface 182 (.agg #[.int .i64 x]),recovered:=true}]/\
   Boxed j a 84 (.slice none 0 0)/\Boxed j d 39 (.int .i64 x)/\(w.heap.size<=j.heap.size/\∀k,k<w.heap.size->k≠a->k≠d->j.heap[k]?=w.heap[k]?)/\j.os=w.os/\j.tape=w.tape/\j.output=w.output:=by
 have C:=Z3B;have D:=Z7m;have N:=(f.alloc (.cells #[.int .i64 x] 182)).cell;have p2:=(f.alloc (.cells #[.int .i64 x] 182)).frozen;have O:=(g.alloc (.cells #[.int .i64 x] 182)).cell;have P:=(g.alloc (.cells #[.int .i64 x] 182)).frozen;have p3:=f.cell;have p4:=f.frozen;have Q:=g.cell;have R:=g.frozen;have H:=f.lt;have I:=g.lt;have t:¬a=d:=h;have u:¬d=a:=λe=>h e.symm;have J:¬a=w.heap.size:=Z0;have K:¬w.heap.size=a:=Z0;have L:¬d=w.heap.size:=Z0;have M:¬w.heap.size=d:=Z0;have o:=Zdv (And.intro f g);clear f g h;refine callsDIn_of_wpSIn Sol.func123 rfl trivial λB A r=> ?_;simp only[Tryz.ntmps123,ZeH,ZeM,Zfy,Nat.reduceAdd,Nat.reduceSub,ZfR,ZfS,Zgh,ZfY,Zej,ZeC];apply wpSIn_seq;apply wpSIn_region;simp[wpOpsSIn,go_sem,recoverD,r,V6,Exit.thenS];refine wpSIn_of_wpIn rfl ?_
 gi_wp2
 gi_region
 all_goals gi_wp2
 obtain⟨f,g⟩:=o.out;have p:Boxed ((w.setCell ⟨a,0,none⟩ (.slice none 0 0)).setCell ⟨d,0,none⟩ (.int .i64 x)) a 84 (.slice none 0 0):=(ZdS _ ⟨d,0,none⟩ _ a t).trans (f.set _);have q:Boxed ((w.setCell ⟨a,0,none⟩ (.slice none 0 0)).setCell ⟨d,0,none⟩ (.int .i64 x)) d 39 (.int .i64 x):=Boxed.set _ (show Boxed (w.setCell ⟨a,0,none⟩ (.slice none 0 0)) d 39 l from(ZdS _ ⟨a,0,none⟩ _ d u).trans g);refine⟨rfl,_,rfl,_,by simp[results,Tryz.results123],rfl,rfl,p.alloc _,q.alloc _,⟨?_,λk F k1 G=> ?_⟩,rfl,rfl,rfl⟩
 ·simp
 ·show(World.alloc _ _).heap[k]?=_
  grind [Below.heap_alloc,World.setCell,Below.heap_setCell]
end Vm
namespace Vm
open Go Go.Proofs Go.RowKit Go.Shelf
def T7(a:Ob):List Value:=[.int .i64 a.at_,.int .i64 a.size,.int .i64 a.ptrs,.bool a.gone,.int .u64 a.target]
def Wz(l:List Ob):List Value:=l.flatMap T7
def Z3V(l:List Ob)(x:Ob):Wz (l++[x])=Wz l++T7 x:=by simp[Wz]
structure WIv (w:World) (bt:Option Nat) (pre:List Ob) (W:World):Prop where
 row:∃v,Boxed W w.heap.size 84 v/\W.ownsRow (w.heap.size+4) 68 5 v pre.length (Wz pre)
 e:Boxed W (w.heap.size+1) 39 (.int .i64 0)
 gr:w.grownBy W bt
 size:w.heap.size+4<=W.heap.size
def Ss{w X Y:World}{bt row:Option Nat}(h:w.grownBy X bt)(k:X.grownBy Y row)(f:∀r,row=some r->some r=bt\/w.heap.size<=r):w.grownBy Y bt:=
 ⟨k.os.trans h.os,k.tape.trans h.tape,k.output.trans h.output,ZdP h.size k.size,λi a d=>
  (k.block i (Zdw a h.size) (λe=>Zcp)).trans (h.block i a d)⟩
theorem yz{W:World}{b:Nat}{t:TypeId}{v:Value}(h:Boxed W b t v):Ug W b=v.ownBlock:=by
 unfold Ug;rw[h.cell];rfl
def WIv.rowIn{w:World}{bt:Option Nat}{pre:List Ob}{W:World}(h:WIv w bt pre W):CY w.heap.size W:=by
 obtain⟨v,f,d⟩:=h.row;intro k a;rw[yz f]at a;exact(d.lt k a).2
def WIv.own{w:World}{bt:Option Nat}(y:∀r,bt=some r->r<w.heap.size):OwnP bt (w.heap.size+4) (WIv w bt):=by
 intro s X Y row h d l
 have f:∀k,w.heap.size<=k->k<w.heap.size+4->some k≠row:=by
  intro k u x e;obtain n|⟨n,_⟩:=l k e.symm
  ·grind
  ·omega
 obtain⟨v,A,a⟩:=h.row;refine⟨⟨v,A.kept d (f _ (Zdp _) Z0),a.kept d ?_⟩,h.e.kept d (f _ Z0 Z0),Ss h.gr d λr e=>(l r e).imp id λx=>Z0,ZdP h.size d.size⟩;cases p:v.ownBlock with
 |none=>simp
 |some b=>
  refine .inr λe=> ?_;have u:=a.lt b p;obtain n|⟨_,o,q,z⟩:=l b e.symm
  ·grind
  ·obtain⟨rfl,_⟩|⟨g,cap,t,rfl,_,j,_⟩:=a.2
   ·simp[Value.ownBlock]at p
   ·obtain rfl:g=b:=by grind [Value.ownBlock]
    rw[j]at q;cases q;cases z
def WIv.appended{w W w1:World}{bt:Option Nat}{pre:List Ob}{x:Ob}{v v':Value}{tmp:Obj}(C:∀r,bt=some r->r<w.heap.size)(h:WIv w bt pre W)(A:Boxed W w.heap.size 84 v)
  (g:W.ownsRow (w.heap.size+4) 68 5 v pre.length (Wz pre)) (d:w1.ownsRow (w.heap.size+4) 68 5 v' (pre.length+1) (Wz pre++T7 x))
  (a:(W.alloc tmp).grownBy w1 v.ownBlock) (f:v'.ownBlock=v.ownBlock\/v'.ownBlock=some (W.alloc tmp).heap.size):
  Boxed w1 w.heap.size 84 v/\KeepsFrom (w.heap.size+4) W (w1.setCell ⟨w.heap.size,0,none⟩ v')/\KpW w.heap.size (w.heap.size+4) W (w1.setCell ⟨w.heap.size,0,none⟩ v')/\WIv w bt (pre++[x]) (w1.setCell ⟨w.heap.size,0,none⟩ v'):=by
 have u:=h.size;obtain⟨y,l,F,j,B⟩:=A.appended (by decide) (zQ g (B':=w.heap.size) Z0) Z0 (Zdp _) (zQ d (B':=w.heap.size) Z0) a;have z:∀b,v.ownBlock=some b->w.heap.size+4<=b:=λb p=>(g.lt b p).1
 have t:(w1.setCell ⟨w.heap.size,0,none⟩ v').ownsRow (w.heap.size+4) 68 5 v' (pre.length+1) (Wz pre++T7 x):=d.kept (Zgq w1 w.heap.size v') (by
  cases p:v'.ownBlock with
  |none=>simp
  |some b=>exact .inr λe=>by have G:=(d.lt b p).1;grind)
 refine⟨y,j.from _,⟨j.size,λk o n H D I=> ?_,λk n e=> ?_⟩,⟨v',l,?_⟩,?_,?_,ZdP u j.size⟩
 ·rw[ZdS _ _ _ _ D,a.block k (by have:=YT n;simp;omega) (λe=> ?_),Zds _ _ _ (YT n),n]
  grind [yz,trans]
 ·rw[yz l]at e;rw[yz A];obtain f|f:=f
  ·simp_all
  ·rw[f]at e;simp at e;omega
 ·simp_all[Ze8,Z3V]
 ·have q:Boxed w1 (w.heap.size+1) 39 (.int .i64 0):=(h.e.alloc tmp).kept a (λe=>Zcp);exact(ZdS _ _ _ _ Z1).trans q
 ·refine Ss (Ss (Ss h.gr (ZeK W tmp none) Z1) a λr e=>.inr ?_) (Zgq w1 w.heap.size v') λr e=>.inr ?_
  ·grind
  simp_all
def KpW.alloc{a base:Nat}{W:World}(o:Obj)(f:a<W.heap.size):KpW a base W (W.alloc o):=by
 refine⟨Z1,λk h d _ _ _=>(Zds _ _ _ (YT d)).trans d,λk _ g=> ?_⟩;simp_all[Ug,ZeO]
end Vm
namespace Vm
open Go Go.Proofs Go.RowKit Go.Shelf
attribute [local go_sem] Oper.semAt_some
def Z2A:(Sol.prog.info? 68).map (λi=>(i.zero,i.size,i.bytes))=some (some (.agg #[.int .i64 0,.int .i64 0,.int .i64 0,.bool false,.int .u64 0]),5,40):=Z2
def unO:Sol.prog.underlying 84=some (.slice 68):=Z2
def Z0j(w:World)(a b c d e:Value)(t:TypeId):∀j u,[a,b,c,d,e][j]?=some u->(w.alloc (.cells #[a,b,c,d,e] t)).cell? ((⟨w.heap.size,0,none⟩:Addr).add j)=some u:=by
 intro j u h;have:=ZdE _ _ j _ _ _ (ZdO w (.cells #[a,b,c,d,e] t))
 grind [add,Addr.add]
def D3(w:World)(ws:List Int)(shs:List (Int×Int))(old:Bool)(bt:Option Nat)(K:Nat->World->Prop)(e:Ending)(W:World):Prop:=
 ∃v n a,e=.returned (.tuple #[v,.int .i64 n])/\w.grownBy W bt/\W.ownsRow (w.heap.size+4) 68 5 v a.length (Wz a)/\((n=0/\Lq ws shs old K a W)\/((n=2\/n=3)/\a=[]/\ZL ws shs old=([],n)))
def NI{w:World}{ws:List Int}{g o cap:Nat}{bt:Option Nat}{p j:Value}{shs:List (Int×Int)}{old:Bool}{K:Nat->World->Prop}(hw:Words w ws g o cap)
  (a9:p=.slice (some ⟨g,o,none⟩) ws.length cap\/(ws=[]/\∃a c,p=.slice a 0 c)) (hg:(ws≠[]->g<w.heap.size)/\g<w.heap.size+4/\g≠w.heap.size) (d5:j=.nilFunc\/∃f vs,j=.func (.func f) #[] vs)
  (T:∀r,bt=some r->r<w.heap.size) (c0:some g≠bt) (a4:L0 ws g o cap j shs old bt K) (b4:K 0 w)
  (z:∀t A B row,K t A->A.grownBy B row->(∀r,row=some r->w.heap.size<=r)->K t B)
  (b6:∀bl base t A B,w.heap.size<=bl->w.heap.size<=base->K t A->KpW bl base A B->K t B):
  Calls Sol.prog 120 #[p,j] w (D3 w ws shs old bt K):=by
 refine(ZgO (n:=5)).1 ?_;have f8:∀(fn:Go.Fn) (first cap:Array Value) (w:World),(Instr.makeFunc fn first cap).run Sol.prog w=.ok (.func fn first cap) w:=λ_ _ _ _=>rfl
 have d9:∃a n c,p=.slice a n c:=by
  obtain rfl|⟨_,a,c,rfl⟩:=a9
  ·simp
  ·simp
 refine callsIn_of_wp_marks Sol.func120 rfl trivial ?_ rfl;simp only[Tryz.ntmps120,ZeH,ZeM,Zfy,Nat.reduceAdd,Nat.reduceSub,ZfR,ZfS,Zgh,ZfY,Zej,ZeC];have he:=λW=>Z0y W p j d9 d5
 gi_wp2
 refine⟨trivial,(ZgO.2 (he _)).mono ?_⟩;rintro e w1 ⟨rfl,rfl⟩
 gi_wp2
 have a0:∀b:Nat,b<w.heap.size->((((w.alloc (Obj.cells #[.slice none 0 0] 84)).alloc (.cells #[.int .i64 0] 39)).alloc (.cells #[p] 23)).alloc (.cells #[j] 183)).heap[b]?=w.heap[b]? :=λb hb=>by
  grind [Below.heap_alloc]
 have b0:Boxed ((((w.alloc (Obj.cells #[.slice none 0 0] 84)).alloc (.cells #[.int .i64 0] 39)).alloc (.cells #[p] 23)).alloc (.cells #[j] 183)) w.heap.size 84 (.slice none 0 0):=(((Boxed.new w _ _).alloc _).alloc _).alloc _
 have b1:Boxed ((((w.alloc (Obj.cells #[.slice none 0 0] 84)).alloc (.cells #[.int .i64 0] 39)).alloc (.cells #[p] 23)).alloc (.cells #[j] 183)) (w.heap.size+1) 39 (.int .i64 0):=by
  have:=((Boxed.new (w.alloc (Obj.cells #[.slice none 0 0] 84)) 39 (.int .i64 0)).alloc (.cells #[p] 23)).alloc (.cells #[j] 183);rwa[World.size_alloc]at this
 have b2:Boxed ((((w.alloc (Obj.cells #[.slice none 0 0] 84)).alloc (.cells #[.int .i64 0] 39)).alloc (.cells #[p] 23)).alloc (.cells #[j] 183)) (w.heap.size+2) 23 p:=by
  have:=(Boxed.new ((w.alloc (Obj.cells #[.slice none 0 0] 84)).alloc (.cells #[.int .i64 0] 39)) 23 p).alloc (.cells #[j] 183);simp_all
 have b3:Boxed ((((w.alloc (Obj.cells #[.slice none 0 0] 84)).alloc (.cells #[.int .i64 0] 39)).alloc (.cells #[p] 23)).alloc (.cells #[j] 183)) (w.heap.size+3) 183 j:=by
  have:=Boxed.new (((w.alloc (Obj.cells #[.slice none 0 0] 84)).alloc (.cells #[.int .i64 0] 39)).alloc (.cells #[p] 23)) 183 j;simp_all
 have I:w.grownBy ((((w.alloc (Obj.cells #[.slice none 0 0] 84)).alloc (.cells #[.int .i64 0] 39)).alloc (.cells #[p] 23)).alloc (.cells #[j] 183)) bt:=⟨rfl,rfl,rfl,Zcr,λk Z _=>a0 k Z⟩;have N:((((w.alloc (Obj.cells #[.slice none 0 0] 84)).alloc (.cells #[.int .i64 0] 39)).alloc (.cells #[p] 23)).alloc (.cells #[j] 183)).heap.size=w.heap.size+4:=Z1;generalize f6:(((w.alloc (Obj.cells #[.slice none 0 0] 84)).alloc (.cells #[.int .i64 0] 39)).alloc (.cells #[p] 23)).alloc (.cells #[j] 183)=W0 at*
 have e0:Stat6 ws g o cap p (w.heap.size+2) (w.heap.size+3) (w.heap.size+4) w.heap.size bt j W0:=by
  refine⟨⟨λi x F=> ?_,hw.le,hw.cap,hw.len,hw.u64⟩,a9,b2,b3,λhn=> ?_,⟨Z0,Z0,Z0,Z0⟩,⟨Z0,Z0,Z0⟩,c0,?_,?_⟩
  ·rw[<-hw.at_ i x F]
   grind [World.cell?_of_block]
  ·obtain⟨x,F⟩:∃x,ws[0]?=some x:=by cases ws with|nil=>simp_all|cons x l=>simp
   have:=hw.at_ 0 x F;rw[a0 g (hg.1 hn)];unfold World.cell? at this;cases hh:w.heap[g]? with
   |none=>simp_all
   |some ob=>
    refine⟨ob,rfl,?_⟩
    grind [Obj.isCells]
  ·grind
  ·grind
 have a3:K 0 W0:=z 0 w W0 none b4 ⟨I.os,I.tape,I.output,I.size,λk Z _=>a0 k Z⟩ Z1;have a8:=Z0x 4 e0 Z0 (λe=>Zcp) a4 a3 (λt A B hA M=>z t A B none hA ⟨M.os,M.tape,M.output,M.size,λk Z _=>M.block k Z⟩ Z1) (λt A B hA M=>b6 _ _ t A B (Zdp _) Z0 hA M)
 refine Z7Z rfl Z0 (gf:=125) (lb:=#[.pointer (some ⟨w.heap.size+2,0,none⟩),.pointer (some ⟨w.heap.size+3,0,none⟩)]) rfl trivial (enters_of Sol.func125 Z2 rfl)
  a8 (λr e=>Zcp) KpW.trans (λW l o o' h1 h2 h3 _=>KpW.put o' h2 h3 Z0) (ZdZ _ _) (λ_=>rfl)
  (WIv w bt) (N▸WIv.own T) (λpre W h=>h.rowIn) ⟨⟨_,b0,ZeN _ _ _ _⟩,b1,I,Z0⟩ ?hS
  (λx a' W=>∃y,w.heap.size+4<=y/\W.heap[y]?=some (.cells #[.int .i64 x.at_,.int .i64 x.size,.int .i64 x.ptrs,.bool x.gone,.int .u64 x.target] 68 (0,0))/\
   a'= {tmps:=#[p,j,undef,undef,.pointer (some ⟨w.heap.size,0,none⟩),.pointer (some ⟨w.heap.size+1,0,none⟩),.pointer (some ⟨y,0,none⟩),
    .func (.func 123) #[] #[.pointer (some ⟨w.heap.size,0,none⟩),.pointer (some ⟨w.heap.size+1,0,none⟩)],p,j,.func (.func 125) #[] #[.pointer (some ⟨w.heap.size+2,0,none⟩),.pointer (some ⟨w.heap.size+3,0,none⟩)],Wy x,undef,undef,undef,undef,undef],defers:=[]})
  ?hAx ?assign ?body ?done ?panic
 case hS=>
  rintro u X Y row ⟨t,hK,hR⟩ J d;exact⟨t,z t X Y row hK J λr e=>(d r e).elim (λe2=>by cases e2) (λe2=>Z0),hR⟩
 case hAx=>
  rintro x a' s X Y row ⟨y,M,F,ha⟩ J d;refine⟨y,M,(J.block y (YT F) λe=> ?_).trans F,ha⟩;obtain e2|⟨_,o2,h2,h3⟩:=d y e.symm
  ·cases e2
  ·rw[F]at h2;cases h2;cases h3
 case assign=>
  rintro l pre x W K2 q b5;simp only[List.zip_cons_cons,Array.zip,Wy]
  gi_wp2
  exact b5 _ _ ((KeepsOthers.alloc W _).from _) (KpW.alloc _ (by have:=q.size;omega)) ((WIv.own T).alloc _ q) ⟨W.heap.size,q.size,ZdO W _,rfl⟩
 case body=>
  rintro l pre x a' W q ⟨y,f5,F,rfl⟩ a6;obtain⟨v,O,d⟩:=q.row;obtain⟨i0,d6,e7,e8,e9⟩:=info_parts Z2A;obtain⟨G,H,rfl⟩:=YP d;have c1:=O.cell;have c2:=O.frozen;have d0:W.cell? ⟨y,0,none⟩=some (.int .i64 x.at_):=Zcy;have d1:W.cell? ⟨y,1,none⟩=some (.int .i64 x.size):=Zcy;have d2:W.cell? ⟨y,2,none⟩=some (.int .i64 x.ptrs):=Zcy;have d3:W.cell? ⟨y,3,none⟩=some (.bool x.gone):=Zcy;have d4:W.cell? ⟨y,4,none⟩=some (.int .u64 x.target):=Zcy;have f9:pre.length<=1000000:=ZdP (Nat.le_of_lt a6) hw.len;have f4:=q.size;have HA:=λtmp w1 v'=>WIv.appended (W:=W) (w1:=w1) (x:=x) (v':=v') (tmp:=tmp) T q O d
  gi_wp2_with (gi_at_builtin;refine wpListIn_append_own_at _ rfl _ _ 84 rfl (w.heap.size+4) 68 i0 _ 5 40 unO d6 e7 e8 e9 rfl (by decide) _ _ _ rfl (d.alloc _) ⟨W.heap.size,0,none⟩ 1 1 (T7 x) rfl rfl (Z0j _ _ _ _ _ _ _) (by simp[T7,Value.oneCell']) Zdd Z0 Zcr ?_;intro v' w1 L U _ b8;obtain⟨g',f3,rfl⟩:=ownsRow_succ L;obtain⟨e1,e2,e3,e4⟩:=HA _ _ _ L U b8;have e5:=e1.cell;have e6:=e1.frozen)
  rw[N];exact⟨e2,e3,e4⟩
 case done=>
  rintro D u W hD hS q S;obtain⟨v,O,d⟩:=q.row;obtain⟨G,H,rfl⟩:=YP d;have c1:=O.cell;have c2:=O.frozen;have c3:=q.e.cell;have c4:=q.e.frozen;rw[N]at hD
  gi_wp2
  have a2:((W.setCell ⟨w.heap.size,0,none⟩ (.slice G u.length H)).setCell ⟨w.heap.size+1,0,none⟩ (.int .i64 0)).heap[D]?=some (.deferred (some [])):=by
   rw[ZdS _ _ _ _ Zcp,ZdS _ _ _ _ Zcp];exact S
  have f0:Boxed ((W.setCell ⟨w.heap.size,0,none⟩ (.slice G u.length H)).setCell ⟨w.heap.size+1,0,none⟩ (.int .i64 0)) w.heap.size 84 (.slice G u.length H):=
   (ZdS _ _ _ _ Z1).trans (O.set _)
  have f1:Boxed ((W.setCell ⟨w.heap.size,0,none⟩ (.slice G u.length H)).setCell ⟨w.heap.size+1,0,none⟩ (.int .i64 0)) (w.heap.size+1) 39 (.int .i64 0):=
   Boxed.set _ (show Boxed (W.setCell ⟨w.heap.size,0,none⟩ (.slice G u.length H)) (w.heap.size+1) 39 (.int .i64 0)from(ZdS _ _ _ _ Z1).trans q.e)
  have g1:=Zgq W w.heap.size (.slice G u.length H);have g2:=Zgq (W.setCell ⟨w.heap.size,0,none⟩ (.slice G u.length H)) (w.heap.size+1) (.int .i64 0);have P:=d.lt
  have r2:=(d.kept g1 (by
   cases hb:(Value.slice G u.length H).ownBlock with
   |none=>simp
   |some b=>exact .inr λe=>by have:=(P b hb).1;grind)).kept g2 (by
   cases hb:(Value.slice G u.length H).ownBlock with
   |none=>simp
   |some b=>exact .inr λe=>by have:=(P b hb).1;grind)
  generalize f7:(W.setCell ⟨w.heap.size,0,none⟩ (.slice G u.length H)).setCell ⟨w.heap.size+1,0,none⟩ (.int .i64 0)=W2 at*;have g3:=ZgD W2 D (.deferred none);have Q:Boxed (W2.putObj D (.deferred none)) w.heap.size 84 (.slice G u.length H):=(Zew Z0).trans f0;have R:Boxed (W2.putObj D (.deferred none)) (w.heap.size+1) 39 (.int .i64 0):=(Zew Z0).trans f1;have k0:=Q.cell;have k1:=R.cell;refine⟨Z1,.inl ⟨D,_,rfl,run_takeDeferred a2,?_⟩⟩;refine⟨Z1,.inr ⟨λh=>ZcC,.func 123,_,123, #[.pointer (some ⟨w.heap.size,0,none⟩),.pointer (some ⟨w.heap.size+1,0,none⟩)],rfl,Zdf,λ_ _=>trivial,?_⟩⟩;refine(Z0e _ _ _ _).mono ?_;rintro e u' f2 ⟨rfl,rfl,rfl⟩;refine⟨.tuple #[.slice G u.length H,.int .i64 0],by simp[results,Tryz.results120,go_sem,k0,k1],?_⟩;obtain⟨t,hK,hR⟩:=hS;refine⟨_,0,u,rfl,Ss (Ss (Ss q.gr g1 λr e=>.inr ?_) g2 λr e=>.inr ?_) g3 λr e=>.inr ?_,ownsRow_putObj r2 _ a2 rfl,.inl ⟨rfl,t,z t _ _ _ (z t _ _ _ (z t _ _ _ hK g1 λr e=> ?_) g2 λr e=> ?_) g3 λr e=> ?_,hR⟩⟩
  all_goals (grind)
 case panic=>
  rintro D chain pre W hD ⟨e,b9,rfl,b7⟩ q S;rw[N]at hD;obtain⟨v,O,d⟩:=q.row;have g3:=ZgD W D (.deferred none);have Q:Boxed (W.putObj D (.deferred none)) w.heap.size 84 v:=(Zew Z0).trans O;have R:Boxed (W.putObj D (.deferred none)) (w.heap.size+1) 39 (.int .i64 0):=(Zew Z0).trans q.e;have C:w.grownBy (W.putObj D (.deferred none)) bt:=Ss q.gr g3 λr e=>.inr Zcp;refine⟨Z1,.inl ⟨D,_,rfl,run_takeDeferred S,?_⟩⟩;refine⟨Z1,.inr ⟨λh=>ZcC,.func 123,_,123, #[.pointer (some ⟨w.heap.size,0,none⟩),.pointer (some ⟨w.heap.size+1,0,none⟩)],rfl,Zdf,λ_ _=>trivial,?_⟩⟩;refine(Z0f _ w.heap.size (w.heap.size+1) e _ _ _ Q R Z0).mono ?_;rintro e' u' f2 ⟨rfl,rfl,h0,h1,⟨d8,Z⟩,d7,a1,a7⟩;have k0:=h0.cell;have k1:=h1.cell;refine⟨.tuple #[.slice none 0 0,.int .i64 e],by simp[results,Tryz.results120,go_sem,k0,k1],?_⟩;refine⟨_,e,[],rfl,⟨d7.trans C.os,a1.trans C.tape,a7.trans C.output,ZdP C.size d8,λk a5 hn=> ?_⟩,ZeN _ _ _ _,.inr ⟨b9,rfl,b7⟩⟩;exact(Z k (Zdw a5 C.size) Z0 Z0).trans (C.block k a5 hn)
end Vm
namespace Vm
open Go Go.Proofs Go.RowKit Go.Shelf
theorem TT{w:World}{G:Nat->Prop}{k:IntKind}{n:Int}{v:Value}(r:Rd w G (.int k n) v):v=.int k n:=by cases r;rfl
theorem M0{w:World}{G:Nat->Prop}{b:Bool}{v:Value}(r:Rd w G (.bool b) v):v=.bool b:=by cases r;rfl
def NP{w:World}{G:Nat->Prop}{ws:List Int}{v:Value}(r:Rd w G (.sl (ws.map vu)) v)(p:∀b,G b->b<w.heap.size)(B:ws.length<=1000000)(C:∀x∈ws,ZA x)(q:Nat):
  ∃g o cap,Words w ws g o cap/\(v=.slice (some ⟨g,o,none⟩) ws.length cap\/(ws=[]/\∃a c,v=.slice a 0 c))/\((ws≠[]->g<w.heap.size)/\(g<w.heap.size\/g=q)):=by
 generalize t:ws.map vu=L at r;cases r with
 |nil a cap D=>
  have:ws=[]:=List.map_eq_nil_iff.1 t;subst this;exact⟨q,0,0,⟨λi x d=>Zde,Z1,Zdd,Z1,Z1⟩,.inr ⟨rfl,a,cap,rfl⟩,λh=>absurd rfl h,.inr rfl⟩
 |sl _ b o cap k vs f y j l n z=>
  subst t;simp only[Ze9]at f n⊢;refine⟨b,o,cap,⟨λi x d=> ?_,f,y,B,C⟩,.inl rfl,λ_=>p b j,.inl (p b j)⟩;have u:(ws.map vu)[i]?=some (vu x):=by rw[ZdJ,d];rfl
  have A:k=1:=((l _ (Zdr u)).1).symm;subst A;have F:i<ws.length:=(Zdl.1 d).1;rw[n i Z0];have:=z i (vu x) (by have:=Vu l u 0 Z0;simp_all);rw[TT this]
def Z6J{w:World}{G:Nat->Prop}{shs:List (Int×Int)}{v:Value}(r:Rd w G (.sl (shs.map Xa)) v)(t:∀b,G b->b<w.heap.size):
  (∃g o cap,v=.slice (some ⟨g,o,none⟩) shs.length cap/\shs.length<=cap/\cap<=maxLen/\g<w.heap.size/\∀(i:Nat) (x:Int×Int),shs[i]?=some x->w.cell? ⟨g,o+i*2,none⟩=some (.int .i64 x.1)/\w.cell? ⟨g,o+i*2+1,none⟩=some (.int .i64 x.2))\/
  (∃a cap,v=.slice a 0 cap/\shs=[]):=by
 generalize u:shs.map Xa=L at r;cases r with
 |nil a cap B=>
  simp_all
 |sl _ b o cap k vs h n p d q j=>
  subst u;simp only[Ze9]at h q⊢;refine .inl ⟨b,o,cap,rfl,h,n,t b p,λi x l=> ?_⟩;have f:(shs.map Xa)[i]?=some (Xa x):=by rw[ZdJ,l];rfl
  have y:k=2:=((d _ (Zdr f)).1).symm;subst y;have C:i<shs.length:=(Zdl.1 l).1;have z:=j (i*2) (vi x.1) (by have:=Vu d f 0 Z0;simp_all);have A:=j (i*2+1) (vi x.2) (by have:=Vu d f 1 Z0;simp_all)
  grind [TT,Nat.add_assoc]
def GJ{w:World}{G:Nat->Prop}:∀(l:List Ob) (i:Nat) (c:V),(flat (l.map ZE))[i]?=some c->Rd w G c ((Wz l).getD i undef)
 | [],i,c,h=>Zcq
 |x::l,i,c,h=>by
  rw[ZdK,So]at h;have e:Wz (x::l)=T7 x++Wz l:=by simp[Wz]
  rw[e];by_cases d:i<5
  ·match i,d with
   |0,_=>simp[ZE,V.cells]at h;subst h;exact .int _ _
   |1,_=>simp[ZE,V.cells]at h;subst h;exact .int _ _
   |2,_=>simp[ZE,V.cells]at h;subst h;exact .int _ _
   |3,_=>simp[ZE,V.cells]at h;subst h;exact .bool _
   |4,_=>simp[ZE,V.cells]at h;subst h;exact .int _ _
  ·have a:(flat (l.map ZE))[i-5]?=some c:=by
    rw[ZdI Zcq]at h;simpa[ZE,V.cells]using h
   have:=GJ (w:=w) (G:=G) l (i-5) c a
   have f:(T7 x++Wz l).getD i undef=(Wz l).getD (i-5) undef:=by
    simp only[ZgM];rw[ZdI (by grind [T7])];simp[T7]
   simp_all
def Z3W(l:List Ob):∀x∈l.map ZE,V.fits 5 x:=by
 intro x d;obtain⟨o,_,rfl⟩:=ZdB.1 d;exact⟨rfl,λc a=>by simp[ZE,V.cells]at a;obtain rfl|rfl|rfl|rfl|rfl:=a<;>rfl⟩
def GK{w:World}{G:Nat->Prop}{B:Nat}{e:TypeId}{v:Value}{l:List Ob}(h:w.ownsRow B e 5 v l.length (Wz l))(n:∀c,B<=c->c<w.heap.size->G c):Rd w G (.sl (l.map ZE)) v:=by
 have a:(Wz l).length=l.length*5:=h.1;obtain⟨rfl,k⟩|⟨g,cap,j,rfl,o,q,t,d,_⟩:=h.2
 ·have:l=[]:=Zf6.1 k;subst this;exact .nil _ _ Zdd
 ·have:=Rd.sl (w:=w) (G:=G) (l.map ZE) g 0 cap 5 (λi=>(Wz l).getD i undef) Zcq d (n g o (YT q)) (Z3W l) (λi r=>by
    have f:i< (Wz l).length:=by rw[a];simpa using r
    rw[Ze7,h.cellAt i Z0];simp[f]) (λi c p=>GJ l i c p)
  simp_all
def Z7N{ws:List Int}{shs:List (Int×Int)}{old:Bool}{K:Nat->World->Prop}{n:Int}{xs:List Ob}{W:World}(a:shs=[])(h:(n=0/\Lq ws shs old K xs W)\/((n=2\/n=3)/\xs=[]/\ZL ws shs old=([],n))):ZL ws shs old=(xs,n):=by
 subst a;obtain⟨rfl,t,_,h⟩|⟨_,rfl,h⟩:=h
 ·simp_all
 ·exact h
def qq:SZ:=by
 intro S M N;refine⟨Z2,λw G vs I p q=> ?_⟩;have r0:=q 0 _ rfl;obtain⟨⟨l⟩⟩:=vs
 ·simp at p
 rename_i v0 l;cases l with
 |cons _ _=>simp at p
 |nil=>
  simp at r0;obtain⟨g,o,cap,C,k,x,L⟩:=NP r0 I M N (w.heap.size+1);have z:=NI (w:=w) (shs:=[]) (old:=false) (bt:=none) (K:=λt _=>t=0) C k ⟨x,Z0,Z0⟩ (.inl rfl) Z1 Z1 Pa rfl (λt A B row h _ _=>h) (λO base t A B _ _ h _=>h)
  obtain⟨Q,R,sc,rfl⟩:∃a n c,v0=.slice a n c:=by
   obtain rfl|⟨_,a,c,rfl⟩:=k
   ·simp
   ·simp
  have D:=Zdv z;clear z C k r0 q;go_enter Sol.func108,Tryz.ntmps108
  go_wp2_with (go_at_call 120;refine D.out.mono ?_;rintro e w1 ⟨v,n,T,rfl,f,d,u⟩;have F:=Zdv (And.intro f (And.intro d u));clear f d u)
  obtain⟨f,d,u⟩:=F.out;have J:=Z7N rfl u;refine Zeu (v:=.tuple #[v,.int .i64 n]) (by simp[results,Tryz.results108,go_sem]) rfl ⟨_,rfl,(ZdZ _ w).grown f (Zdp _) (λj e=>by cases e),?_⟩;rw[J];refine .tup _ _ rfl ?_;intro i y r
  match i,r with
  |0,r=>cases r;exact GK d λc P H=>.inr ⟨Z0,H⟩
  |1,r=>cases r;exact .int _ _
def KpW.cell{l base:Nat}{A B:World}(h:KpW l base A B){k i:Nat}{c:Value}(hc:A.cell? ⟨k,i,none⟩=some c)(n:k<base)(o:k≠l):B.cell? ⟨k,i,none⟩=some c:=by
 have d:=hc;unfold World.cell? at hc;cases f:A.heap[k]? with
 |none=>simp_all
 |some j=>
  have g:j.isCells=true:=by
   rw[f]at hc;cases j<;>simp_all [Obj.isCells]
  rw[<-d];exact Zel (a:=⟨k,i,none⟩) ((h.same k j f g o (.inl n)).trans f.symm)
def KOld.grown{shs:List (Int×Int)}{bt a t n:Nat}{v:Value}{A B:World}{row:Option Nat}(h:KOld shs bt a v t A)(f:A.grownBy B row)(p:bt<n)(l:a<n)(x:shs≠[]->∀g o cap,v=.slice (some ⟨g,o,none⟩) shs.length cap->g<n)(w:∀r,row=some r->n<=r):KOld shs bt a v t B:=by
 obtain⟨d,j,k⟩:=h;exact⟨(f.block _ (YT d) (λe=>Zcp)).trans d,j.grown f (λe=>Zcp) (λu g o cap e q=>Zcp),k⟩
def KOld.kp{shs:List (Int×Int)}{bt d t n j base:Nat}{v:Value}{A B:World}(h:KOld shs bt d v t A)(a:KpW j base A B)(u:bt<n)(r:d<n)(w:shs≠[]->∀g o cap,v=.slice (some ⟨g,o,none⟩) shs.length cap->g<n)(D:n<=j)(h2:n<=base):KOld shs bt d v t B:=by
 obtain⟨k1,⟨y,z⟩,C⟩:=h;refine⟨a.same _ _ k1 rfl Z0 (.inl Z0),⟨a.same _ _ y rfl Z0 (.inl Z0),?_⟩,C⟩;obtain⟨g,o,cap,rfl,l,p,q,f⟩|h:=z
 ·refine .inl ⟨g,o,cap,rfl,l,p,Zdw q a.size,λi x k=> ?_⟩;have:=w (λe=>Zcq) _ _ _ rfl;exact⟨a.cell (f i x k).1 Z0 Z0,a.cell (f i x k).2 Z0 Z0⟩
 simp_all
def Words.below2{w W:World}{ws:List Int}{g o cap:Nat}(h:Words w ws g o cap)(d:ws≠[]->g<w.heap.size)(a:Below w.heap.size w W):Words W ws g o cap:=
 ⟨λi x f=>by rw[a.cell (p:=⟨g,o+i,none⟩) (d (λe=>Zcq))];exact h.at_ i x f,h.le,h.cap,h.len,h.u64⟩
def qp:R0:=by
 intro C d hl a7 hu b2;refine⟨Z2,λw G vs hG L N=> ?_⟩;have r0:=N 0 _ rfl;have r1:=N 1 _ rfl;obtain⟨⟨l⟩⟩:=vs
 ·simp at L
 rename_i v0 l;cases l with
 |nil=>simp at L
 |cons v1 l=>
 cases l with
 |cons _ _=>simp at L
 |nil=>
  simp at r0 r1;obtain⟨g,o,cap,hw,K,P,a0⟩:=NP r0 hG hl hu (w.heap.size+3);have M:=Z6J r1 hG
  obtain⟨sa,sn,sc,rfl⟩:∃a n c,v0=.slice a n c:=by
   obtain rfl|⟨_,a,c,rfl⟩:=K
   ·simp
   ·simp
  obtain⟨k,q,rfl⟩:∃a c,v1=.slice a d.length c:=by
   grind
  have b0:((w.alloc (.cells #[.slice k d.length q] 160)).alloc (.cells #[.int .i64 0] 3)).heap[w.heap.size]?=some (.cells #[.slice k d.length q] 160 (0,0)):=(Zds _ _ _ Z1).trans (ZdO w _)
  have b1:((w.alloc (.cells #[.slice k d.length q] 160)).alloc (.cells #[.int .i64 0] 3)).heap[w.heap.size+1]?=some (.cells #[.int .i64 0] 3 (0,0)):=by
   have:=ZdO (w.alloc (.cells #[.slice k d.length q] 160)) (.cells #[.int .i64 0] 3);simp_all
  have z:Below w.heap.size w ((w.alloc (.cells #[.slice k d.length q] 160)).alloc (.cells #[.int .i64 0] 3)):=((ZdZ _ w).alloc (Zdp _) _).alloc Z1 _;have J:((w.alloc (.cells #[.slice k d.length q] 160)).alloc (.cells #[.int .i64 0] 3)).heap.size=w.heap.size+2:=Z1
  have a5:d≠[]->∀g o cap,Value.slice k d.length q=.slice (some ⟨g,o,none⟩) d.length cap->g<w.heap.size:=by
   intro T g o cap e;obtain⟨g1,U,c1,Z,_,_,h4,_⟩|⟨_,_,_,h⟩:=M
   ·simp_all
   ·simp_all
  have S:Calls Sol.prog 120 #[.slice sa sn sc,.func (.func 121) #[] #[.pointer (some ⟨w.heap.size+1,0,none⟩),.pointer (some ⟨w.heap.size,0,none⟩)]] ((w.alloc (.cells #[.slice k d.length q] 160)).alloc (.cells #[.int .i64 0] 3))
    (D3 ((w.alloc (.cells #[.slice k d.length q] 160)).alloc (.cells #[.int .i64 0] 3)) C d true (some (w.heap.size+1)) (KOld d (w.heap.size+1) w.heap.size (.slice k d.length q))):=by
   generalize a8:(w.alloc (.cells #[.slice k d.length q] 160)).alloc (.cells #[.int .i64 0] 3)=Y at*;have I:d≠[]->∀g o cap,Value.slice k d.length q=.slice (some ⟨g,o,none⟩) d.length cap->g<Y.heap.size:=λT g o cap e=>Zcp;refine NI (hw.below2 P z) K ⟨λh=>Zcp,Z0,Z0⟩ (.inr ⟨_,_,rfl⟩) (λr e=>Zcp) (λe=>Zcp) (Pb a7 Z0 (λT g o cap e=>Zcp)) ⟨b1,⟨b0,?_⟩,Z0⟩ (λt A B row h hg hr=>h.grown hg (n:=Y.heap.size) Z0 Z0 I hr) (λbl base t A B h1 h2 h S=>h.kp S (n:=Y.heap.size) Z0 Z0 I h1 h2);obtain⟨g1,U,c1,Z,a1,a2,a3,a4⟩|⟨a,c,Z,h⟩:=M
   ·exact .inl ⟨g1,U,c1,Z,a1,a2,Z0,λi x hx=>⟨(z.cell (p:=⟨g1,U+i*2,none⟩) a3).trans (a4 i x hx).1,(z.cell (p:=⟨g1,U+i*2+1,none⟩) a3).trans (a4 i x hx).2⟩⟩
   ·simp_all
  have F:∀w1 v n (O:List Ob),(v=.slice none 0 0/\O=[]\/w1.ownsRow (w.heap.size+6) 68 5 v O.length (Wz O))->ZL C d true=(O,n)->Rd w1 (λb=>true=false/\G b\/w.heap.size<=b/\b<w1.heap.size) (.tup [.sl ((ZL C d true).1.map ZE),vi (ZL C d true).2]) (.tuple #[v,.int .i64 n]):=by
   intro w1 v n O f hW;rw[hW];refine .tup _ _ rfl ?_;intro i y R
   match i,R with
   |0,R=>
    cases R;obtain⟨rfl,rfl⟩|f:=f
    ·exact .nil _ _ Zdd
    ·exact GK f λc h1 h2=>.inr ⟨Z0,h2⟩
   |1,R=>cases R;exact .int _ _
  have Q:Calls Sol.prog 120 #[.slice sa sn sc,.func (.func 121) #[] #[.pointer (some ⟨w.heap.size+1,0,none⟩),.pointer (some ⟨w.heap.size,0,none⟩)]] ((w.alloc (.cells #[.slice k d.length q] 160)).alloc (.cells #[.int .i64 0] 3)) λe w1=>
    (∃(v:Value) (t:Nat),e=.returned (.tuple #[v,.int .i64 0])/\w1.cell? ⟨w.heap.size+1,0,none⟩=some (.int .i64 t)/\w1.cell? ⟨w.heap.size,0,none⟩=some (.slice k d.length q)/\(t:Int)<d.length/\Hid (Below w.heap.size w w1/\Rd w1 (λb=>true=false/\G b\/w.heap.size<=b/\b<w1.heap.size) (.tup [.sl ((ZL C d true).1.map ZE),vi (ZL C d true).2]) (.tuple #[.slice none 0 0,.int .i64 3])))\/
    (∃(v:Value) (t:Nat),e=.returned (.tuple #[v,.int .i64 0])/\w1.cell? ⟨w.heap.size+1,0,none⟩=some (.int .i64 t)/\w1.cell? ⟨w.heap.size,0,none⟩=some (.slice k d.length q)/\¬(t:Int)<d.length/\Hid (Below w.heap.size w w1/\Rd w1 (λb=>true=false/\G b\/w.heap.size<=b/\b<w1.heap.size) (.tup [.sl ((ZL C d true).1.map ZE),vi (ZL C d true).2]) (.tuple #[v,.int .i64 0])))\/
    (∃(v:Value) (n:Int),e=.returned (.tuple #[v,.int .i64 n])/\¬n=0/\Hid (Below w.heap.size w w1/\Rd w1 (λb=>true=false/\G b\/w.heap.size<=b/\b<w1.heap.size) (.tup [.sl ((ZL C d true).1.map ZE),vi (ZL C d true).2]) (.tuple #[.slice none 0 0,.int .i64 n]))):=by
   refine S.mono ?_;rintro e w1 ⟨v,n,O,rfl,a6,f,hE⟩;rw[J]at f;have hB:Below w.heap.size w w1:=z.trans ((ZdZ _ _).grown a6 Z0 (λj e=>Zcp));obtain⟨rfl,t,⟨hb,hs,ht⟩,u⟩|⟨T,rfl,u⟩:=hE
   ·have W:w1.cell? ⟨w.heap.size+1,0,none⟩=some (.int .i64 t):=by rw[ZdE _ _ _ _ _ _ hb];rfl
    have X:w1.cell? ⟨w.heap.size,0,none⟩=some (.slice k d.length q):=by rw[ZdE _ _ _ _ _ _ hs.box];rfl
    by_cases D:t<d.length
    ·rw[if_pos D]at u;exact .inl ⟨v,t,rfl,W,X,Z0,Zdv ⟨hB,F w1 _ _ [] (.inl ⟨rfl,rfl⟩) u⟩⟩
    ·rw[if_neg D]at u;exact .inr (.inl ⟨v,t,rfl,W,X,Z0,Zdv ⟨hB,F w1 _ _ O (.inr f) u⟩⟩)
   ·exact .inr (.inr ⟨v,n,rfl,Z0,Zdv ⟨hB,F w1 _ _ [] (.inl ⟨rfl,rfl⟩) u⟩⟩)
  have HK:=Zdv Q;clear hw K r0 r1 N M P a0 S Q z b0 b1 a5 J F;go_enter Sol.func110,Tryz.ntmps110;have a9:∀(fn:Go.Fn) (first cap:Array Value) (w:World),(Instr.makeFunc fn first cap).run Sol.prog w=.ok (.func fn first cap) w:=λ_ _ _ _=>rfl
  go_wp2_with (go_at_call 120;refine HK.out.mono ?_;rintro e w1 (⟨v,t,rfl,W,X,D,H⟩|⟨v,t,rfl,W,X,D,H⟩|⟨v,n,rfl,T,H⟩))
  ·refine Zeu (v:=.tuple #[.slice none 0 0,.int .i64 3]) (by simp[results,Tryz.results110,go_sem]) rfl ⟨_,rfl,H.out.1,H.out.2⟩
  ·refine Zeu (v:=.tuple #[v,.int .i64 0]) (by simp[results,Tryz.results110,go_sem]) rfl ⟨_,rfl,H.out.1,H.out.2⟩
  ·refine Zeu (v:=.tuple #[.slice none 0 0,.int .i64 n]) (by simp[results,Tryz.results110,go_sem]) rfl ⟨_,rfl,H.out.1,H.out.2⟩
end Vm
namespace Vm
open Go Go.Proofs Go.RowKit
def Z3X{w:World}{G:Nat->Prop}{l:List Ob}{v:Value}(r:Rd w G (.sl (l.map ZE)) v)(u:∀b,G b->b<w.heap.size):
  (∃g o cap,v=.slice (some ⟨g,o,none⟩) l.length cap/\l.length<=cap/\cap<=maxLen/\g<w.heap.size/\∀(i:Nat) (x:Ob),l[i]?=some x->w.cell? ⟨g,o+i*5,none⟩=some (.int .i64 x.at_)/\w.cell? ⟨g,o+i*5+1,none⟩=some (.int .i64 x.size)/\
   w.cell? ⟨g,o+i*5+2,none⟩=some (.int .i64 x.ptrs)/\w.cell? ⟨g,o+i*5+3,none⟩=some (.bool x.gone)/\w.cell? ⟨g,o+i*5+4,none⟩=some (.int .u64 x.target))\/
  (∃a cap,v=.slice a 0 cap/\l=[]):=by
 generalize y:l.map ZE=L at r;cases r with
 |nil a cap H=>
  simp_all
 |sl _ b o cap k vs j p q d t h=>
  subst y;simp only[Ze9]at j t⊢;refine .inl ⟨b,o,cap,rfl,j,p,u b q,λi x n=> ?_⟩;have f:(l.map ZE)[i]?=some (ZE x):=by rw[ZdJ,n];rfl
  have z:k=5:=((d _ (Zdr f)).1).symm;subst z;have I:i<l.length:=(Zdl.1 n).1;have A:=h (i*5) (vi x.at_) (by have:=Vu d f 0 Z0;simp_all);have B:=h (i*5+1) (vi x.size) (by have:=Vu d f 1 Z0;simp_all);have C:=h (i*5+2) (vi x.ptrs) (by have:=Vu d f 2 Z0;simp_all);have D:=h (i*5+3) (.bool x.gone) (by have:=Vu d f 3 Z0;simp_all);have F:=h (i*5+4) (vu x.target) (by have:=Vu d f 4 Z0;simp_all)
  grind [TT,Nat.add_assoc,M0]
end Vm
end
section

end
section
namespace Vm
open Go Go.Proofs
def CL{h:Hp}(a:h.ok):VC Sol.prog 19 false [ZD h] (.bool (Xo h)):=by
 rw[<-(A0 h).1];exact O8 qq qp a
def O6{h:Hp}(a:h.ok){k:Int}:VC Sol.prog 56 false [ZD h,vi k] (.tup [.sl ((Xx h k).1.map ZE),vi (Xx h k).2]):=by
 rw[<-Z2Y h k];exact O7 qq qp a
def O9{h:Hp}(a:h.ok):VC Sol.prog 20 false [ZD h] (vi (J8 h)):=by
 rw[<-Z32 h];exact Oa qq qp a
end Vm
end
section
namespace Vm
open Go
open Go.Proofs
def Hq:Fn:=⟨12,[0,1,2,3,4,5,24,6,29,7,8,63],
pQ [pR [(2,pS 0 2),(3,pS 1 2),pV 4 pF],pC [pK 12 35 [.m 2 1,.m 3 1]] [pV 5 (.s 12)],pQ [.reg ⟨[.lt 13 [] (.un .not (.s 5))],[([(13,false)],.bin .neq (.len (.m 2 0)) (.len (.m 3 0)))],[pV 6 (.ite (.s 13) pT (.bin .neq (.len (.m 2 0)) (.len (.m 3 0))))]⟩] (.cond (.s 6) (pQ [pR [pV 4 pF]] .ret) .skip),pQ [pR [pV 7 (pI 0)]] (.block 0 (.loop [0,1,2,3,4,5,6,7] (pQ [pQ [pR [pV 8 (.bin .lss (.s 7) (.len (.m 2 0)))]] (.cond (.s 8) .skip (.exit 0)),.block 1 (pQ [pC [pK 14 35 [.fld (.idx (.m 2 0) (.s 7) 2) 0,.fld (.idx (.m 3 0) (.s 7) 2) 0]] [pV 9 (.s 14)],pC [pK 15 22 [.fld (.idx (.m 2 0) (.s 7) 2) 1,.fld (.idx (.m 3 0) (.s 7) 2) 1]] [pV 10 (.s 15)],.reg ⟨[.lt 16 [] (.un .not (.s 9))],[([(16,false)],.un .not (.s 10))],[pV 11 (.ite (.s 16) pT (.un .not (.s 10)))]⟩] (.cond (.s 11) (pQ [pR [pV 4 pF]] .ret) .skip))] (pR [pV 7 (.bin .add (.s 7) (pI 1))])))),pR [pV 4 pT]] .ret,[(4,.v)]⟩
def PJ:ZH Sol.prog fresh sig [.fz,.fz] [] Tryz.f12=some Hq:=Z2
def HI:Fn:=⟨5,[0,1,2,3,6],
pQ [pR [(1,pS 0 2),(2,.m [pN,pN]),pV 3 (pI 0)],pQ [pC [pK 5 58 [.mm 1 0 2]] [pV 4 (.un .not (.s 5))]] (.cond (.s 4) (pQ [.reg ⟨[],[([],.ag [pN,pN])],[(2,.m [pN,pN]),pV 3 (pI 1)]⟩] .ret) .skip),pC [.callm 6 [] (.id 59) [.fz,(.own 119)] [.mm 1 0 2,.c (.mp 0 [] [])]] [(2,pM (.sz (.ext (.s 6) 0) 2) 2),pV 3 (pI 0)]] .ret,[(2,(.ag 2)),(3,.v)]⟩
def PZ:ZH Sol.prog fresh sig [.fz] [] Tryz.f30=some HI:=Z2
def AN:Fn:=⟨7,[0,1,4,10,5,14,25],
pQ [pR [pV 2 pF],pQ [pR [pV 3 (.bin .neq (.len (.s 0)) (.len (.s 1)))]] (.cond (.s 3) (pQ [pR [pV 2 pF]] .ret) .skip),pQ [pR [pV 4 (pI 0)]] (.block 0 (.loop [0,1,2,3,4] (pQ [pQ [pR [pV 5 (.bin .lss (.s 4) (.len (.s 0)))]] (.cond (.s 5) .skip (.exit 0)),.block 1 (pQ [pR [pV 6 (.bin .neq (.fld (.idx (.s 0) (.s 4) 1) 0) (.fld (.idx (.s 1) (.s 4) 1) 0))]] (.cond (.s 6) (pQ [pR [pV 2 pF]] .ret) .skip))] (pR [pV 4 (.bin .add (.s 4) (pI 1))])))),pR [pV 2 pT]] .ret,[(2,.v)]⟩
def t5:ZH Sol.prog fresh sig [.fz,.fz] [] Tryz.f35=some AN:=Z2
def I6:Fn:=⟨11,[0,1,2,9,3,14,13,15,5,12,32],
pQ [pR [(1,pS 0 2),pV 2 pF],pQ [pR [pV 3 (.bin .gtr (.len (.m 1 1)) (pI 16))]] (.cond (.s 3) (pQ [pR [pV 2 pF]] .ret) .skip),pR [(4,.no)],pQ [pR [(4,.no),pV 5 (pI 0),pV 6 (.len (.m 1 0)),pV 9 (.m 1 0)]] (.block 0 (.loop [0,1,2,3,4,5,6,9] (pQ [pR [(4,.no),pV 7 (.bin .lss (.s 5) (.s 6))],.cond (.s 7) .skip (.exit 0),.block 1 (pQ [pR [(4,.no),(8,pM (.flds (.idx (.s 9) (.s 5) 2) 0 2) 2)],.reg ⟨[.lt 11 [] (.bin .gtr (.bin .add (.len (.m 8 0)) (.len (.m 8 1))) (pI 255)),.callm 12 [(11,false)] (.id 85) [.fz,(.mem [.fz,.fz])] [.m 8 0,.ag [.m 1 0,.m 1 1]]],[([(11,false)],.un .not (.ext (.s 12) 0))],[(1,pM (.ext (.s 12) 1) 2),(4,.no),pV 10 (.ite (.s 11) pT (.un .not (.ext (.s 12) 0)))]⟩] (.cond (.s 10) (pQ [pR [pV 2 pF,(4,.no)]] .ret) .skip))] (pR [(4,.no),pV 5 (.bin .add (.s 5) (pI 1))])))),pC [.callm 13 [] (.id 85) [.fz,(.mem [.fz,.fz])] [.m 1 1,.ag [.m 1 0,.m 1 1]]] [(1,pM (.ext (.s 13) 1) 2),pV 2 (.ext (.s 13) 0),(4,.no)]] .ret,[(2,.v)]⟩
def c58:ZH Sol.prog fresh sig [.fz] [] Tryz.f58=some I6:=Z2
def I7:Fn:=⟨11,[0,1,2,4,5,13,12,14,7,11,8],
pQ [pR [(2,pS 0 2),(3,.m [pN,pN])],pR [(4,.m [pN,pN])],pQ [pC [.callm 9 [] (.id 86) [.fz,(.own 119)] [.mm 2 0 2,.s 1]] [pV 1 (.ext (.s 9) 1),pV 5 (pI 0),pV 6 (.len (.ext (.s 9) 0)),pV 9 (.ext (.s 9) 0)]] (.block 0 (.loop [0,1,2,3,4,5,6,9] (pQ [pR [pV 7 (.bin .lss (.s 5) (.s 6))],.cond (.s 7) .skip (.exit 0),.block 1 (pQ [pR [pV 8 (.fld (.idx (.s 9) (.s 5) 1) 0)],pR [(10,pM (.flds (.idx (.m 2 0) (.s 8) 2) 0 2) 2)]] (pC [.call 11 [] (.id 87) true false [.m 10 0,.s 1]] [(4,.m [.app (.m 4 0) (.lit [.ag [.one (.s 11),.app pN (.m 10 1) 1]]) 2,.m 4 1])]))] (pR [pV 5 (.bin .add (.s 5) (pI 1))])))),pC [.call 12 [] (.id 87) true false [.m 2 1,.s 1]] [(4,.m [.m 4 0,.one (.s 12)])],pR [(3,pM (.mm 4 0 2) 2)]] .ret,[(3,(.ag 2))]⟩
def c59:ZH Sol.prog fresh sig [.fz,(.own 119)] [(1,(.own 119))] Tryz.f59=some I7:=Z2
def Ij:Fn:=⟨9,[0,1,3,8,7,9,5,6,20],
pQ [pR [pV 2 pF],pQ [pR [pV 3 (pI 0),pV 4 (.len (.s 0)),pV 7 (.s 0)]] (.block 0 (.loop [0,1,2,3,4,7] (pQ [pR [pV 5 (.bin .lss (.s 3) (.s 4))],.cond (.s 5) .skip (.exit 0),.block 1 (pQ [pR [pV 6 (.fld (.idx (.s 7) (.s 3) 1) 0)],.reg ⟨[.lt 9 [] (.bin .lss (.s 6) (pI (-1)))],[([(9,false)],.bin .geq (.s 6) (.len (.m 1 0)))],[pV 8 (.ite (.s 9) pT (.bin .geq (.s 6) (.len (.m 1 0))))]⟩] (.cond (.s 8) (pQ [pR [pV 2 pF]] .ret) .skip))] (pR [pV 3 (.bin .add (.s 3) (pI 1))])))),pR [pV 2 pT]] .ret,[(2,.v)]⟩
def c85:ZH Sol.prog fresh sig [.fz,(.mem [.fz,.fz])] [(1,(.mem [.fz,.fz]))] Tryz.f85=some Ij:=Z2
def Ke:Fn:=⟨9,[0,1,2,3,4,5,6,7,17],
pQ [pR [(1,.no),(2,pS 0 2),(3,.m [.s 1]),pV 4 pN],pR [(3,.m [.mclr (.m 3 0)])],pR [(5,.m [pN])],pR [(6,.no)],pC [.callm 9 [] (.id 105) [.fz,(.mem [(.own 119)]),(.mem [(.own 3)])] [.m 2 1,.ag [.m 3 0],.ag [.m 5 0]]] [(3,.m [.fld (.ext (.s 9) 1) 0]),(5,.m [.fld (.ext (.s 9) 2) 0]),(6,.no)],pQ [pR [(6,.no),pV 7 (pI 0)]] (.block 0 (.loop [0,2,3,4,5,6,7] (pQ [pQ [pR [(6,.no),pV 8 (.bin .lss (.s 7) (.len (.m 5 0)))]] (.cond (.s 8) .skip (.exit 0)),.block 1 (pC [.callm 10 [] (.id 105) [.fz,(.mem [(.own 119)]),(.mem [(.own 3)])] [.fld (.idx (.m 2 0) (.fld (.idx (.m 5 0) (.s 7) 1) 0) 2) 0,.ag [.m 3 0],.ag [.m 5 0]]] [(3,.m [.fld (.ext (.s 10) 1) 0]),(5,.m [.fld (.ext (.s 10) 2) 0]),(6,.no)])] (pR [(6,.no),pV 7 (.bin .add (.s 7) (pI 1))])))),pR [pV 4 (.m 5 0),(6,.no)]] .ret,[(4,.v)]⟩
def c86:ZH Sol.prog fresh sig [.fz,(.own 119)] [(3,(.mem [(.own 119)]))] Tryz.f86=some Ke:=Z2
def Ik:Fn:=⟨10,[0,1,4,5,10,9,11,7,8,15],
pQ [pR [pV 2 pN],pR [pV 3 pN],pQ [pR [pV 4 (pI 0),pV 5 (.len (.s 0)),pV 8 (.s 0)]] (.block 0 (.loop [0,1,2,3,4,5,8] (pQ [pR [pV 6 (.bin .lss (.s 4) (.s 5))],.cond (.s 6) .skip (.exit 0),.block 1 (pQ [pR [pV 7 (.fld (.idx (.s 8) (.s 4) 1) 0)],pQ [pR [pV 9 (.bin .geq (.s 7) (pI 0))]] (.cond (.s 9) (pR [pV 7 (.lk (.i .i64) (.s 1) (.s 7) (.int .i64 0) false)]) .skip)] (pR [pV 3 (.app (.s 3) (.lit [.one (.s 7)]) 1)]))] (pR [pV 4 (.bin .add (.s 4) (pI 1))])))),pR [pV 2 (.s 3),(3,.no)]] .ret,[(2,.v)]⟩
def c87:ZH Sol.prog fresh sig [.fz,.fz] [(4,(.own 3))] Tryz.f87=some Ik:=Z2
def Hg:Fn:=⟨11,[0,1,2,10,9,11,5,8,6,7,25],
pQ [pR [pV 3 (pI 0),pV 4 (.len (.s 0)),pV 7 (.s 0)]] (.block 0 (.loop [0,1,2,3,4,7] (pQ [pR [pV 5 (.bin .lss (.s 3) (.s 4))],.cond (.s 5) .skip (.exit 0),.block 1 (pQ [pR [pV 6 (.fld (.idx (.s 7) (.s 3) 1) 0)],pR [pV 8 (.fl (.ext (.lk (.i .i64) (.m 1 0) (.s 6) (.int .i64 0) true) 0)),pV 9 (.fl (.ext (.lk (.i .i64) (.m 1 0) (.s 6) (.int .i64 0) true) 1))],.reg ⟨[.lt 11 [] (.bin .geq (.s 6) (pI 0))],[([(11,true)],.un .not (.s 9))],[pV 10 (.ite (.s 11) (.un .not (.s 9)) pF)]⟩] (.cond (.s 10) (pQ [pR [(1,.m [.mput (.i .i64) (.m 1 0) (.s 6) (.len (.m 2 0))])]] (pR [(2,.m [.app (.m 2 0) (.lit [.one (.s 6)]) 1])])) .skip))] (pR [pV 3 (.bin .add (.s 3) (pI 1))])))),[]⟩
def Pw:ZH Sol.prog fresh sig [.fz,(.mem [(.own 119)]),(.mem [(.own 3)])] [(1,(.mem [(.own 119)])),(2,(.mem [(.own 3)]))] Tryz.f105=some Hg:=Z2
end Vm
end
section
namespace Vm
open Go Go.Proofs
def Gr.sm(g:Gr):Prop:=g.nodes.length<=100000/\g.roots.length<=100000/\∀n∈g.nodes,n.ptrs.length<=100000/\n.data.length<=100000
def Uv(n:Nat)(p:Int):Bool:=decide (-1<=p/\p<n)
def Sy(k:Nat)(n:Nd):Bool:=decide (n.ptrs.length+n.data.length<=255)&&n.ptrs.all (Uv k)
def right(g:Gr):Bool:=decide (g.roots.length<=16)&&g.nodes.all (Sy g.nodes.length)&&g.roots.all (Uv g.nodes.length)
theorem Da{α:Type}{p:α->Bool}{l:List α}{i:Nat}{x:α}(h:l[i]?=some x):(l.take (i+1)).all p=((l.take i).all p&&p x):=by
 rw[Zee,h,ZgE];simp
theorem D9{α:Type}{p:α->Bool}{l:List α}{i:Nat}{x:α}(h:l[i]?=some x)(a:p x=false):l.all p=false:=by
 grind
def Ep{l:List Int}{ns:List V}{a:V}(g:l.length<=100000)(k:a.one=true)(j:YR a=some a):
  V7 Sol.prog 85 [.fz,.mem [.fz,.fz]] [.sl (l.map vi),.agg [.sl ns,a]] (.tup [.bool (l.all (Uv ns.length)),.agg [.sl ns,a]]):=by
 refine J7 Sol.func85 follows Z2 c85 Z2 ?_;simp[-List.all_eq_true,-List.all_eq_false,Ij];refine UK (λt=>∃i:Nat,i<=l.length/\(l.take i).all (Uv ns.length)=true/\t=[.v (.sl (l.map vi)),.m [.sl ns,a],.v (.bool false),.v (vi i),.v (vi l.length),.no,.no,.v (.sl (l.map vi))]) (λt=>match get t 3 with|.v (.int _ n)=>l.length-n.toNat|_=>0) ?_ ?_
 ·exact⟨0,Z1,Z1,Z1⟩
 ·rintro t ⟨i,f,d,rfl⟩;by_cases h:i<l.length
  ·have o:l[i]?=some l[i]:=Zdk h;simp[-List.all_eq_true,-List.all_eq_false,h];simp(disch:=omega) only[Zy]
   grind [D9,Uv,Da]
  ·have:i=l.length:=Z0;simp_all
def Z5Z{g:Gr}(r:g.sm):VC Sol.prog 58 false [Ym g] (.bool (right g)):=by
 obtain⟨u,j,k⟩:=r;refine ZN Sol.func58 follows Z2 c58 rfl ?_;simp[-List.all_eq_true,-List.all_eq_false,I6];split
 ·grind [List.all_eq_true,List.all_eq_false,right]
 ·rename_i h;refine UK (λt=>∃i:Nat,i<=g.nodes.length/\(g.nodes.take i).all (Sy g.nodes.length)=true/\t=[.v (Ym g),.m [.sl (g.nodes.map Yi),.sl (g.roots.map vi)],.v (.bool false),.v (.bool false),.no,.v (vi i),.v (vi g.nodes.length),.no,.no,.v (.sl (g.nodes.map Yi))]) (λt=>match get t 5 with|.v (.int _ n)=>g.nodes.length-n.toNat|_=>0) ?_ ?_
  ·exact⟨0,Z1,Z1,by simp[h]⟩
  ·rintro t ⟨i,z,a,rfl⟩;by_cases d:i<g.nodes.length
   ·have A:g.nodes[i]?=some g.nodes[i]:=Zdk d;obtain⟨q,y⟩:=k _ (ZdA d);have p:=Zy ((i:Int)+1) Z0 Z0;simp[-List.all_eq_true,-List.all_eq_false,d,p];simp(disch:=omega) only[Zy];have w:Sy g.nodes.length g.nodes[i]=false->right g=false:=λx=>by grind [List.all_eq_true,List.all_eq_false,right,D9]
    by_cases l:(g.nodes[i].ptrs.length:Int)+(g.nodes[i].data.length:Int)<=255
    ·rw[if_pos l];refine VL (Ep q Zdf Zdf) ?_;have f:¬(255:Int)< (g.nodes[i].ptrs.length:Int)+(g.nodes[i].data.length:Int):=Z0;cases o:g.nodes[i].ptrs.all (Uv g.nodes.length)
     ·simp[-List.all_eq_true,-List.all_eq_false,f,o];simp_all[Zdu,Zfx,Sy]
     ·simp[-List.all_eq_true,-List.all_eq_false,f,o,p]
      grind [Da,List.all_eq_true,List.all_eq_false,Sy]
    ·rw[if_neg l]
     grind [List.all_eq_true,List.all_eq_false,Sy]
   ·have:i=g.nodes.length:=Z0;subst this;simp[-List.all_eq_true,-List.all_eq_false];refine VL (Ep j Zdf Zdf) ?_;rw[Zem]at a;simp[-List.all_eq_true,-List.all_eq_false,right,a];omega
end Vm
namespace Vm
open Go Go.Proofs
def FA{a b:List Int}(g:a.length<=100000):VC Sol.prog 35 false [.sl (a.map vi),.sl (b.map vi)] (.bool (decide (a=b))):=by
 refine ZN Sol.func35 follows Z2 t5 rfl ?_;by_cases d:a.length=b.length
 ·simp[AN,d];refine UK (λt=>∃i:Nat,i<=b.length/\a.take i=b.take i/\t=[.v (.sl (a.map vi)),.v (.sl (b.map vi)),.v (.bool false),.v (.bool false),.v (vi i)]) (λt=>match get t 4 with|.v (.int _ n)=>b.length-n.toNat|_=>0) ?_ ?_
  ·exact⟨0,Z1,Z1,Z1⟩
  ·rintro t ⟨i,j,heq,rfl⟩;by_cases h:i<b.length
   ·have f:i<a.length:=Z0;by_cases k:a[i]=b[i]
    ·simp_all;simp(disch:=omega) only[Zy]
     grind [Cf]
    ·simp_all
     grind
   simp_all[Zem,Zek]
 ·simp[AN,show ¬((a.length:Int)=(b.length:Int))by omega]
  grind
end Vm
namespace Vm
open Go Go.Proofs
def Cn(n:Nat):List V:=(List.range n).map λ(i:Nat)=>vi i
def XC(id:Nat)(l:List Int):V:=.mp id (l.map vi) (Cn l.length)
def Yb:List Int->List Int->List Int
 |a,[]=>a
 |a,x::l=>Yb (if 0<=x/\x∉a then a++[x]else a) l
def jb{x:Int}:∀ {l:List Int},UT (vi x) (l.map vi)=some (l.findIdx? (· ==x))
 | []=>rfl
 |y::l=>by
  simp only[ZdK,UT,JS,Ze3,Zg3];by_cases h:x=y
  ·subst h;simp
  ·have a:(x==y)=false:=by simpa using h
   have d:(y==x)=false:=by simpa using Zfu h
   simp[a,d,jb]
def El{x:Int}{l:List Int}:l.findIdx? (· ==x)=none↔x∉l:=by
 grind
theorem FV{id:Nat}{l:List Int}{x:Int}{z:V}{ok:Bool}:Ub (.i .i64) (XC id l) (vi x) z ok=match l.findIdx? (· ==x)with
  |some i=>some (if ok then .tup [vi i,.bool true]else vi i)
  |none=>some (if ok then .tup [z,.bool false]else z):=by
 unfold Ub XC;simp only[WX,ZgK,ZeQ,Ze1,jb]
 grind [List.findIdx?_eq_some_iff_getElem,Cn]
def Z3x{id:Nat}{l:List Int}{x:Int}(hx:x∉l):Uy (.i .i64) (XC id l) (vi x) (vi l.length)=some (XC id (l++[x])):=by
 unfold Uy XC;simp only[WX,ZgK,ZeQ,Ze1,jb,El.2 hx];simp[Cn,Zfe]
@[simp]theorem ZaY(id:Nat)(l:List Int):YR (XC id l)=some (XC id l):=rfl
def GB{ns acc:List Int}{id:Nat}(q:ns.length<=100000)(k:acc.length<=1000000):V7 Sol.prog 105 [.fz,.mem [.own 119],.mem [.own 3]] [.sl (ns.map vi),.agg [XC id acc],.agg [.sl (acc.map vi)]]
  (.tup [.tup [],.agg [XC id (Yb acc ns)],.agg [.sl ((Yb acc ns).map vi)]]):=by
 refine J7 Sol.func105 follows Z2 Pw Z2 ?_;simp[Hg];refine UK (λt=>∃i l,i<=ns.length/\Yb l (ns.drop i)=Yb acc ns/\l.length<=1000000+i/\t=[.v (.sl (ns.map vi)),.m [XC id l],.m [.sl (l.map vi)],.v (vi (i:Nat)),.v (vi ns.length),.no,.no,.v (.sl (ns.map vi))]) (λt=>match get t 3 with|.v (.int _ n)=>ns.length-n.toNat|_=>0) ?_ ?_
 ·exact⟨0,acc,Z1,Z1,Z0,Z1⟩
 ·rintro t ⟨i,l,r,f,u,rfl⟩;by_cases h:i<ns.length
  ·have p:ns.drop i=ns[i]::ns.drop (i+1):=(Zef h);rw[p,Yb]at f;simp[h,FV];by_cases d:ns[i]∈l
   ·have a:∃j,l.findIdx? (· ==ns[i])=some j:=by
     cases o:l.findIdx? (· ==ns[i])with
     |none=>grind
     |some j=>simp
    obtain⟨j,o⟩:=a;simp[o,Wh,V.flatc];simp(disch:=omega) only[Zy]
    grind
   ·simp[El.2 d,Wh,V.flatc];simp(disch:=omega) only[Zy];by_cases g:0<=ns[i]
    ·rw[if_pos g,Z3x d];rw[if_pos ⟨g,d⟩]at f;simp;refine⟨by grind [Y2],⟨i+1,Z0,l++[ns[i]],f,Zcr,rfl,Z1,Z1⟩,Z0⟩
    grind
  ·have:i=ns.length:=Z0;simp_all[Yb]
@[simp]theorem Z91(id:Nat)(l:List Int):(XC id l).cells=[XC id l]:=rfl
def Good(n:Nat)(l:List Int):Prop:=l.Nodup/\∀x∈l,0<=x/\x<n
def Ap:∀(n:Nat) {l:List Int},l.Nodup->(∀x∈l,0<=x/\x<n)->l.length<=n
 |0,l,_,h=>by
  cases l with
  |nil=>simp
  |cons x l=>have:=h x Z1;omega
 |n+1,l,d,h=>by
  by_cases j:(n:Int)∈l
  ·have g:=Ap n (d.erase (n:Int)) λx a=>by
    have f:=(d.mem_erase_iff).1 a;have:=h x f.2;omega
   rw[List.length_erase_of_mem j]at g;omega
  ·have:=Ap n d λx a=>by
    have g:=h x a;have:x≠n:=λe=>j (e▸a);omega
   omega
def Good.len{n:Nat}{l:List Int}(h:Good n l):l.length<=n:=Ap n h.1 h.2
def T6{n:Nat}:∀ {g d:List Int},Good n d->(∀x∈g,x<n)->Good n (Yb d g)
 | [],d,h,_=>h
 |x::g,d,h,l=>by
  simp only[Yb];refine T6 ?_ λy f=>l y (by simp[f]);split
  ·rename_i k;refine⟨?_,λy f=> ?_⟩
   ·rw[Zgg];exact⟨h.1,Z1,λa o b j=>by simp at j;subst j;exactλe=>k.2 (e▸o)⟩
   ·obtain f|f:=ZdL.1 f
    ·exact h.2 y f
    ·simp at f;subst f;exact⟨k.1,l _ Z1⟩
  ·exact h
def XQ(g:Gr):Nat->Nat->List Int->List Int
 |0,_,l=>l
 |f+1,i,l=>match l[i]? with
  |some x=>XQ g f (i+1) (Yb l ((g.nodes[x.toNat]?).getD default).ptrs)
  |none=>l
def order(g:Gr):List Int:=XQ g (g.nodes.length+1) 0 (Yb [] g.roots)
def Fw{n:Nat}{p:Int}(h:Uv n p=true): -1<=p/\p<n:=by grind [Uv]
def RO{g:Gr}(a:right g=true):∀x∈g.roots,-1<=x/\x<g.nodes.length:=by
 simp only[right,Zdn,Zdu]at a;exactλx d=>Fw (a.2 x d)
def BB{g:Gr}(a:right g=true):∀n∈g.nodes,∀x∈n.ptrs,-1<=x/\x<g.nodes.length:=by
 simp only[right,Zdn,Zdu,Sy]at a;exactλn d x f=>Fw ((a.1.2 n d).2 x f)
def Z4m{g:Gr}(C:g.sm)(B:right g=true)(id:Nat)(ks vs:List V):
  Yu Sol.prog Ke.body [.v (Ym g),.v (.mp id ks vs)] (λs=>get s 4=.v (.sl ((order g).map vi))/\get s 3=.m [XC id (order g)]) (λ_ _=>False) (λs=>get s 4=.v (.sl ((order g).map vi))/\get s 3=.m [XC id (order g)]):=by
 obtain⟨D,q,r⟩:=C;simp[Ke];refine VL (GB (ns:=g.roots) (acc:=[]) (id:=id) q Z1) ?_;simp;have d:=RO B;have j:Good g.nodes.length (Yb [] g.roots):=T6 ⟨Z1,Z1⟩ λx p=>(d x p).2;refine UK (λt=>∃i l,i<=l.length/\Good g.nodes.length l/\XQ g (g.nodes.length+1-i) i l=order g/\t=[.v (Ym g),.no,.m [.sl (g.nodes.map Yi),.sl (g.roots.map vi)],.m [XC id l],.v (.sl []),.m [.sl (l.map vi)],.no,.v (vi (i:Nat))]) (λt=>match get t 7 with|.v (.int _ n)=>g.nodes.length-n.toNat|_=>0) ?_ ?_
 ·exact⟨0,_,Z1,j,rfl,Z1⟩
 ·rintro t ⟨i,l,I,u,A,rfl⟩;have z:=u.len;by_cases h:i<l.length
  ·obtain⟨G,K⟩:=u.2 _ (ZdA h);obtain⟨k,w⟩:=Zdz G;have o:k<g.nodes.length:=Z0;have p:l[i]?=some (k:Int):=by rw[Zdk h,w]
   simp[h,w,o];refine VL (GB (r _ (ZdA o)).1 Z0) ?_;simp;simp(disch:=omega) only[Zy];have a:Good g.nodes.length (Yb l g.nodes[k].ptrs):=T6 u λx p=>(BB B _ (ZdA o) x p).2;refine⟨⟨i+1,_,?_,a,?_,rfl,rfl,Z1⟩,Z0⟩
   ·have:∀ {ns acc:List Int},acc.length<=(Yb acc ns).length:=by
     intro ns
     induction ns with
     |nil=>simp_all[Yb]
     |cons y ns J=>
      intro acc;simp only[Yb]
      grind
    grind
   ·rw[show g.nodes.length+1-i=(g.nodes.length+1- (i+1))+1 by omega,XQ,p]at A;simp_all
  ·have:i=l.length:=Z0;subst this
   have F:l=order g:=by
    rw[<-A];cases H:g.nodes.length+1-l.length with
    |zero=>omega
    |succ f=>simp[XQ]
   simp_all
def Z4l{g:Gr}(hg:g.sm)(hr:right g=true)(id:Nat)(ks vs:List V):V7 Sol.prog 86 [.fz,.own 119] [Ym g,.mp id ks vs] (.tup [.sl ((order g).map vi),XC id (order g)]):=by
 refine⟨Z2,λB w h us a8 hA=> ?_⟩;obtain⟨b5,a0,a1⟩:=hA;obtain⟨d7,Q,a9⟩:=a1 1 (.own 119) (.mp id ks vs) rfl rfl;simp only[We,Zdj]at Q;subst Q;obtain⟨x1,R,O⟩:=a9;simp only[eval,Zdj]at R;subst R;obtain⟨_,_,hl,_⟩|⟨c1,d5,d9,b,es,T,he,hv,a4,hB,hid,hh,Y,h2,h3,h4⟩:=O
 ·cases hl
 cases he
 have Z:L6 Sol.prog B w h [.fz,.own 119] [Ym g,.mp (b+1) ks vs] us:=by
  refine⟨rfl,a0,λi k x f j=> ?_⟩
  match i,f,j with
  |0,f,j=>grind
  |1,f,j=>
   simp at f j;subst f j;exact⟨_,rfl,_,rfl,.inr ⟨b+1,ks,vs,b,es,T,rfl,hv,a4,hB,.inr rfl,hh,Y,h2,h3,h4⟩⟩
  |i+2,f,j=>simp at f
 refine LD (cf:=Ke) (fin:=[(3,.mem [.own 119])]) (xs:=[Ym g,.mp (b+1) ks vs]) (Rt:=λs=>get s 4=.v (.sl ((order g).map vi))/\get s 3=.m [XC (b+1) (order g)]) Sol.func86 follows c86 (Z4m hg hr (b+1) ks vs) a8 Z λc s S a w' W hP b7 M z J r p hK o l=> ?_;rw[<-hP]at l z⊢;simp only[SB,Zdn,Zdu]at l;obtain⟨A,a6⟩:=l;obtain⟨d,a7⟩:=L7 r p a6;have N:c.ix 3=3:=M 3 (by decide)
 have hr:Wc s (Kx c.P c.ix Tryz.f86)=some (.sl ((order g).map vi)):=by
  rw[<-z];simp[Ke,J.1]
 obtain⟨v,b0,b1⟩:=Ky (D:=(W.drop (Vd S [(3,.mem [.own 119])])).F) r p (λb hb=>.inl hb) (λq hq=>by
  have Y:=A q hq;have h2:=Zdu.1 (Z2:Mh Tryz.f86 [(3,.mem [.own 119])]=true) q hq;refine⟨Y,λi b hb=>.inr ⟨SL q,i+1,?_,Z0,hb⟩⟩;simp_all[Vd,ZgV,SL]) hr
 obtain⟨u,hu,b3,d8,T3,e1,e2,e3,e4,e5⟩:=d.at_ 3 (by grind [Yy,Ys]) Zdf;obtain⟨X,hX,C⟩:=e5 0 (.own 119,.m (c.ix 3) 0) rfl
 have a2:X=XC (b+1) (order g):=by
  simp only[eval,N,J.2]at hX;simpa using hX.symm
 subst a2;obtain⟨_,_,hl,_⟩|⟨d0,d6,e0,H,U,I,L,b9,n,b6,b4,a5,q1,q2,q3,q4⟩:=C
 ·cases hl
 simp only[XC,V.mp.injEq]at L;obtain⟨rfl,rfl,rfl⟩:=L;have a3:H=b:=Z0;subst a3;obtain⟨r1,r2,r3⟩:=d.ok.b_lt 3 1 H n
 refine⟨v,b0,v,.sl ((order g).map vi),[.bool false,XC id (order g)],{F:=(W.drop (Vd S [(3,.mem [.own 119])])).F,bl:=λt i=>if t=1/\i=1 then some H else none,K:=W.K},rfl,o.below,o.same,
  ⟨d.ok.base,d.ok.f_lt,d.ok.f_or,d.ok.g_F,λt i x j=> ?_,λt i t' i' x j c0=> ?_,d.ok.k_lt,λt i x j=> ?_,d.ok.k_F⟩,hK,b1,⟨rfl,λi k y f b8 G=> ?_⟩,rfl⟩
 ·grind
 ·grind
 ·simp only at j;split at j
  ·simp only[Zdj]at j;subst j;exact d.ok.k_bl 3 1 H n
  ·cases j
 ·match i,f,G with
  |0,f,G=>grind
  |1,f,G=>
   simp at f G;subst f G;exact⟨_,rfl,_,rfl,.inr ⟨id,_,_,H,U,I,rfl,hv,Z1,hB,hid,a5,q1,q2,q3,q4⟩⟩
  |i+2,f,G=>simp at f
end Vm
namespace Vm
open Go Go.Proofs
def R3(l:List Int)(p:Int):Int:=match l.findIdx? (· ==p)with
 |some i=>(i:Nat)
 |none=>0
def V0(l a:List Int):List Int:=a.map λp=>if 0<=p then R3 l p else p
def Qg(g:Gr)(l:List Int)(x:Int):Nd:=let n:=(g.nodes[x.toNat]?).getD default;⟨V0 l n.ptrs,n.data⟩
def Wo(g:Gr):Gr:=⟨(order g).map (Qg g (order g)),V0 (order g) g.roots⟩
def Z2R{id:Nat}{l:List Int}{x:Int}:Ub (.i .i64) (XC id l) (vi x) (vi 0) false=some (vi (R3 l x)):=by
 grind [FV,R3]
def Z0Y{l:List Int}:∀c∈flat (l.map vi),c.flatc=true:=by
 intro c d;simp only[flat,Zfj,ZdB]at d;obtain⟨y,⟨a,_,rfl⟩,d⟩:=d;have:c=vi a:=by simpa[V.cells]using d
 subst this;rfl
def Gp{a l:List Int}{id:Nat}(o:a.length<=100000):VC Sol.prog 87 true [.sl (a.map vi),XC id l] (.sl ((V0 l a).map vi)):=by
 refine Z7F (t:=4) (ty:=3) Sol.func87 follows Z2 rfl c87 rfl Z0Y ?_;simp[Ik];refine UK (λt=>∃i:Nat,i<=a.length/\t=[.v (.sl (a.map vi)),.v (XC id l),.v (.sl []),.v (.sl ((V0 l (a.take i)).map vi)),.v (vi i),.v (vi a.length),.no,.no,.v (.sl (a.map vi))]) (λt=>match get t 4 with|.v (.int _ n)=>a.length-n.toNat|_=>0) ?_ ?_
 ·exact⟨0,Z1,by simp[V0]⟩
 ·rintro t ⟨i,k,rfl⟩;by_cases h:i<a.length
  ·have j:a[i]?=some a[i]:=Zdk h
   have d:V0 l (a.take (i+1))=V0 l (a.take i)++[if 0<=a[i]then R3 l a[i]else a[i]]:=by
    unfold V0;rw[Zee,j,ZeL];rfl
   have g:(V0 l (a.take i)).length<=100000:=by simp[V0];omega
   simp[h];simp(disch:=omega) only[Zy];by_cases f:0<=a[i]
   ·simp[f,Z2R];refine⟨ZcK,⟨i+1,Z0,by rw[d];simp[f],Z1⟩,Z0⟩
   ·simp[f];refine⟨ZcK,⟨i+1,Z0,by rw[d];simp[f],Z1⟩,Z0⟩
  ·have:i=a.length:=Z0;subst this;simp
def GX{g:Gr}(d:right g=true):∀ {f i:Nat} {l:List Int},Good g.nodes.length l->Good g.nodes.length (XQ g f i l)
 |0,i,l,h=>h
 |f+1,i,l,h=>by
  simp only[XQ];split
  ·rename_i x k;refine GX d (T6 h λy j=> ?_);obtain⟨n,o⟩:=h.2 x (Zdr k);have a:x.toNat<g.nodes.length:=Z0;rw[Zdk a]at j;exact(BB d _ (ZdA a) y j).2
  ·exact h
def AE{g:Gr}(a:right g=true):Good g.nodes.length (order g):=
 GX a (T6 ⟨Z1,Z1⟩ λx d=>(RO a x d).2)
def Z09{g:Gr}(p:g.sm)(r:right g=true)(id:Nat)(ks vs:List V):V7 Sol.prog 59 [.fz,.own 119] [Ym g,.mp id ks vs] (.tup [Ym (Wo g),XC id (order g)]):=by
 refine J7 Sol.func59 follows Z2 c59 Z2 ?_;simp[I7];refine VL (Z4l p r id ks vs) ?_;simp;obtain⟨u,j,o⟩:=p;have a:=AE r;have f:=a.len;generalize A:order g=l at a f;refine UK (λt=>∃i:Nat,i<=l.length/\t=[.v (Ym g),.v (XC id l),.m [.sl (g.nodes.map Yi),.sl (g.roots.map vi)],.m [.sl [],.sl []],.m [.sl (((l.take i).map (Qg g l)).map Yi),.sl []],.v (vi i),.v (vi l.length),.no,.no,.v (.sl (l.map vi))]) (λt=>match get t 5 with|.v (.int _ n)=>l.length-n.toNat|_=>0) ?_ ?_
 ·exact⟨0,Z1,Z1⟩
 ·rintro t ⟨i,z,rfl⟩;by_cases h:i<l.length
  ·have B:l[i]?=some l[i]:=Zdk h;obtain⟨y,D⟩:=a.2 _ (ZdA h);obtain⟨k,q⟩:=Zdz y;have d:k<g.nodes.length:=Z0;obtain⟨x,C⟩:=o _ (ZdA d);simp[h,q,d];refine Zw (Gp x) Z1 ?_;simp;simp(disch:=omega) only[Zy]
   have w:V.agg [V.sl (List.map vi (V0 l g.nodes[k].ptrs)),V.sl (List.map vu g.nodes[k].data)]=Yi (Qg g l l[i]):=by
    simp[Qg,q,d,Yi]
   refine⟨by grind [Y2],by grind [Y2],⟨i+1,Z0,?_,Z1⟩,Z0⟩;simp_all[Zee,ZdJ]
  ·have:i=l.length:=Z0;simp_all;refine Zw (Gp j) Z1 ?_;simp_all[Wo,Ym]
def Z08{g:Gr}(h:g.sm)(o:right g=true):(Wo g).sm:=by
 obtain⟨j,k,l⟩:=h;have a:=AE o;have d:=a.len;refine⟨by grind [Wo],by simp_all[Wo,V0],λn f=> ?_⟩;simp only[Wo,ZdB]at f;obtain⟨x,p,rfl⟩:=f;obtain⟨q,r⟩:=a.2 x p;simp_all[ZdA,Qg,V0]
def TL:Gr:=⟨[],[]⟩
def WT(g:Gr):V:=if right g=true then .tup [Ym (Wo g),vi 0]else .tup [Ym TL,vi 1]
def Oc{g:Gr}(a:g.sm):VC Sol.prog 30 false [Ym g] (WT g):=by
 refine ZN Sol.func30 follows Z2 PZ rfl ?_;simp[HI];refine Zw (Z5Z a) Z1 ?_;cases d:right g
 ·simp[WT,d,TL,Ym]
 ·simp;refine VL (Z09 a d 0 [] []) ?_;simp_all[WT,Ym]
def OF{a b:Gr}(p:a.sm):VC Sol.prog 12 false [Ym a,Ym b] (.bool (decide (a=b))):=by
 refine ZN Sol.func12 follows Z2 PJ rfl ?_;obtain⟨u,l,o⟩:=p;simp[Hq];refine Zw (FA l) Z1 ?_;by_cases k:a.roots=b.roots
 ·simp[k];by_cases g:a.nodes.length=b.nodes.length
  ·simp[g];refine UK (λt=>∃i:Nat,i<=b.nodes.length/\a.nodes.take i=b.nodes.take i/\t=[.v (Ym a),.v (Ym b),.m [.sl (a.nodes.map Yi),.sl (a.roots.map vi)],.m [.sl (b.nodes.map Yi),.sl (b.roots.map vi)],.v (.bool false),.v (.bool true),.v (.bool false),.v (vi i)]) (λt=>match get t 7 with|.v (.int _ n)=>b.nodes.length-n.toNat|_=>0) ?_ ?_
   ·exact⟨0,Z1,Z1,by simp[k]⟩
   ·rintro t ⟨i,w,heq,rfl⟩;by_cases h:i<b.nodes.length
    ·have j:i<a.nodes.length:=Z0;obtain⟨q,r⟩:=o _ (ZdA j);simp[h,j,g];refine Zw (FA q) Z1 ?_;simp[h,j,g];refine Zw (RD (ZdP r Z0)) Z1 ?_;by_cases d:a.nodes[i].ptrs=b.nodes[i].ptrs
     ·by_cases f:a.nodes[i].data=b.nodes[i].data
      ·simp[d,f];simp(disch:=omega) only[Zy]
       have z:a.nodes[i]=b.nodes[i]:=by
        generalize a.nodes[i]=x at d f;generalize b.nodes[i]=y at d f;cases x;cases y;simp at d f;simp[d,f]
       grind [Cf]
      ·simp[d,f]
       grind
     ·simp[d]
      grind
    ·have:i=b.nodes.length:=Z0;subst this;rw[Zem,Zek Z0]at heq;simp[g];cases a;simp_all
  ·simp[show ¬((a.nodes.length:Int)=(b.nodes.length:Int))by omega]
   grind
 ·simp[k]
  grind
end Vm
namespace Vm
open Go Go.Proofs
end Vm
end
section
namespace Vm
open Go Go.Proofs
def g0:Gr:=⟨[⟨[],[]⟩,⟨[],[4]⟩,⟨[1],[]⟩,⟨[],[]⟩],[2,0]⟩
def g1:Gr:=⟨[],[0]⟩
def g2:Gr:=⟨[],[-1,-1]⟩
end Vm
end
section

end
section
namespace Vm
open Go Go.Proofs
def outs(g:Gr)(x:Int):List Int:=((g.nodes[x.toNat]?).getD default).ptrs
def Gz:∀(a:Ze) {d b:Ze},Yb d (a++b)=Yb (Yb d a) b
 | [],_,_=>rfl
 |x::a,d,b=>by simp only[ZeC,Yb];exact Gz a
def zB:∀(l:Ze) {acc:Ze},∃t,Yb acc l=acc++t
 | [],acc=>⟨[],by simp[Yb]⟩
 |x::l,acc=>by
  simp only[Yb];obtain⟨t,a⟩:=zB l (acc:=if 0<=x/\x∉acc then acc++[x]else acc);rw[a];split
  ·exact⟨x::t,Z1⟩
  ·exact⟨t,rfl⟩
def RB:∀ {l d:Ze} {x:Int},x∈Yb d l↔x∈d\/(x∈l/\0<=x)
 | [],d,x=>by simp[Yb]
 |y::l,d,x=>by
  simp only[Yb,RB (l:=l),ZdG];split
  ·rename_i h;simp only[ZdL,Zes];constructor
   ·rintro((a|rfl)|a)
    ·exact .inl a
    ·exact .inr ⟨.inl rfl,h.1⟩
    ·exact .inr ⟨.inr a.1,a.2⟩
   ·rintro(a|⟨rfl|a,f⟩)
    ·exact .inl (.inl a)
    ·exact .inl (.inr rfl)
    ·exact .inr ⟨a,f⟩
  ·rename_i h;constructor
   ·rintro(a|a)
    ·exact .inl a
    ·exact .inr ⟨.inr a.1,a.2⟩
   ·rintro(a|⟨rfl|a,f⟩)
    ·exact .inl a
    ·exact .inl (by by_cases g:x∈d;exact g;exact(h ⟨f,g⟩).elim)
    ·exact .inr ⟨a,f⟩
def LI{g:Gr}(f:right g=true)(x:Int):∀y∈outs g x,-1<=y/\y<g.nodes.length:=by
 intro y a;unfold outs at a;cases d:g.nodes[x.toNat]? with
 |none=>rw[d]at a;cases a
 |some n=>rw[d]at a;exact BB f n (Zdr d) y a
def GZ{g:Gr}(n:right g=true):∀ {f i:Nat} {l:Ze},Good g.nodes.length l->i<=l.length->g.nodes.length<f+i->l=Yb [] (g.roots++(l.take i).flatMap (outs g))->
  XQ g f i l=Yb [] (g.roots++(XQ g f i l).flatMap (outs g))
 |0,i,l,j,p,o,a=>by have:=j.len;omega
 |f+1,i,l,j,p,o,a=>by
  simp only[XQ];cases d:l[i]? with
  |none=>
   have:l.length<=i:=ZcI;rw[Zek this]at a;exact a
  |some x=>
   have q:i<l.length:=by
    obtain h|h:=Zhr i l.length
    ·exact h
    ·rw[Zeq h]at d;cases d
   obtain⟨t,k⟩:=zB (outs g x) (acc:=l);refine GZ n (T6 j λy r=>(LI n x y r).2) ?_ Z0 ?_
   ·show i+1<=(Yb l (outs g x)).length;rw[k,Ze8];omega
   ·show Yb l (outs g x)=Yb [] (g.roots++((Yb l (outs g x)).take (i+1)).flatMap (outs g));rw[k,List.take_append_of_le_length Z0,Zee,d,<-k];simp only[Zfc,Option.toList,<-Zei];rw[Gz,<-a];simp
def H1{g:Gr}(a:right g=true):order g=Yb [] (g.roots++(order g).flatMap (outs g)):=by
 refine GZ a (T6 ⟨List.nodup_nil,Z1⟩ λy d=>(RO a y d).2) (Zex _) Z0 ?_;simp
end Vm
end
