import Derived.Test.YthdflnfincieaaaGreatSMutatorRoom6
set_option linter.unusedSimpArgs false
set_option linter.unusedVariables false
set_option linter.defProp false
open Option renaming some→J,none→U
open Bool renaming true→xk,false→xw
open Go renaming undef→xy
open List renaming length→I
open Array renaming size→xz
open Go.World renaming heap→xj
open List renaming length→xq
open Array renaming size→xz
open Go.World renaming heap→xj
set_option maxHeartbeats 8000000
set_option maxRecDepth 100000
theorem ZgS{p:Prop}(h:p:=by rw[cell_of_row _ _ _ _ _ _ d];rfl):p:=h
def ZlN:=@List.take_left'
section
namespace Vm
open Go Go.Proofs Go.RowKit
structure Now (B:Nat) (w:World) (b:Nat) (h:Hp) (x:Nat->Value):Prop where
 blk:w.heap[b]?=J (.cells #[.int .u64 h.base,.int .i64 h.cap,.int .i64 h.to,.bool h.M,.int .i64 h.Z,x 0,x 1,x 2,x 3,x 4] 144 (0,0))
 own:HOwn B w h x
 ak:∀j,j<5->∀c,(x j).ownBlock=J c->c≠b
 new:B<=b
def SP(h:Hp)(part:Int)(a n:Nat):Int:=(Xr (Y3 (Zv<|Xu h part a n) 1<|I h.H).1).1
def Z0U(B:Nat)(w:World)(b:Nat)(h:Hp)(p a n:Nat)(e:Ending)(w':World):Prop:=
 ∃d,e=.returned (.int .u64<|SP h (p+1) a n)/\Below B w w'/\Now B w' b (Xp (Xu h (p+1) a n) (p+1)<|(zr (Zu h p) a n).set a<|SP h (p+1) a n) d
def ZbY{P}w{o:Oper}{a K Q}s t
  (d:o.op=.call {callee:=.builtin .clear,args:=#[s],argTypes:=#[t]}) vs (g:a.eval s=vs)
  w' (f:(Builtin.clear_ #[t] o.type #[vs]).run P w=.ok (.tuple #[]) w') (h:K (a.put o.dst<|.tuple #[]) w'):o.wp P a w K Q:=by
 unfold Oper.wp execOp;simp[d,resolve,invoke,builtin,g,f];exact h
def ZbV{P}w{ops rest o a Q}(d:o.guard=U)s t
  (f:o.op=.call {callee:=.builtin .clear,args:=#[s],argTypes:=#[t]}) vs (j:a.eval s=vs)
  w' (g:(Builtin.clear_ #[t] o.type #[vs]).run P w=.ok (.tuple #[]) w') (h:wpList P ops Q rest (a.put o.dst<|.tuple #[]) w'):wpList P ops Q (o::rest) a w:=
 wpList_plain d λ_ k=>ZbY w s t f vs j w' g ZgI
def Pu{b c}(hc:c≠b):∀vs o (w:World),(w.setCells b o vs).heap[c]?=w.heap[c]?
 | [],_,_=>rfl
 |v::r,o,w=>by
  show((w.setCell ⟨b,o,U⟩ v).setCells b _ r).heap[c]?=_;rw[Pu hc r];exact Zi0 _ _ _ _ hc
def Pv b:∀vs o (w:World),xz (xj<|w.setCells b o vs)=xz (xj w)
 | [],_,_=>rfl
 |v::r,o,w=>by
  show xz (xj<|(w.setCell ⟨b,o,U⟩ v).setCells b _ r)=_;rw[Pv b r];simp
def Ps{B b}(d:B<=b):∀vs o a w,Below B a w->Below B a (w.setCells b o vs)
 | [],_,_,_,h=>h
 |v::r,o,a,w,h=>Ps d r _ a _<|h.setCell d _
def MW{B g len cap L}a:∀n k (w:World),a+k+n<=len->w.ownsRow B 24 1 (.slice (J ⟨g,0,U⟩) len cap) len (Yd .u64<|zr L a k)->
  (w.setCells g (a+k)<|List.replicate n<|.int .u64 0).ownsRow B 24 1 (.slice (J ⟨g,0,U⟩) len cap) len (Yd .u64<|zr L a<|k+n)
 |0,k,w,_,h=>h
 |n+1,k,w,j,h=>by
  have d:=(h.stored (a+k)<|.int .u64 0).1;have f:(Yd .u64<|zr L a k).set (a+k) (.int .u64 0)=Yd .u64 (zr L a<|k+1):=by rw[zr,Js]
  rw[f]at d;have:=MW a n _ _ Z0 d;rw[show k+1+n=k+(n+1)by omega]at this;exact this
def Z3g(w:World)(B b:Nat)(h:Hp)(x:Nat->Value)(q:Now B w b h x)(hB:B<=xz (xj w))(hh:h.ok)(p a n:Nat)(hp:p=2\/p=3)(S:0<n)(hn:n<=1000)(f4:(n:Int)<=Wa (Zv h))
  (g cap:Nat) (hx:x p=.slice (J ⟨g,0,U⟩) (I<|Zu h p) cap) (j1:a+n<=I (Zu h p)) (c':Nat):
  Calls xP 60 #[.pointer<|J ⟨b,0,U⟩,.slice (J ⟨g,a,U⟩) n c'] w (Z0U B w b h p a n):=by
 obtain⟨iU,e8,i8,i5,j2⟩:=info_parts Z5J;have k6:I (Zu h 0)<=1000000:=Su hh 0;obtain⟨v1,w1,i4,f3,z,a9⟩:=Z9M (P:=xP) (w:=w) (T:=28) (tI:=3) (ty:=28) SZ Z2i e8 i8 rfl rfl i5 j2 (q.own.own 0 Z0) hB S Z0 .i64;obtain⟨a0,q0,e0⟩:=Xl<|q.own.own 0 Z0;have b0:w.cell? ⟨b,5,U⟩=J (x 0):=by rw[ZhQ _ _ _ _ _ _ q.blk];rfl
 have f0:w.frozen? ⟨b,5,U⟩=xw:=Yh q.blk;have e4:=Y1 q.blk;have F:J b≠(x 0).ownBlock:=λe=>q.ak 0 Z0 b e.symm rfl;have c1:=(z.cell_far ⟨b,5,U⟩ e4 F).trans b0;have f1:=(z.frozen_far ⟨b,5,U⟩ e4 F).trans f0;rw[e0]at i4 b0 c1;have i1:I (Yd .u64<|Zu h 0)=I (Zu h 0):=by simp[Yd]
 obtain⟨_,k2⟩|⟨g0,q1,y,k0,b3,g7,j8,j9,b1,f8⟩:=f3.2;omega;subst k0;have k3:¬q1=I (Zu h 0):=Z0;have R:g0≠b:=by
  intro e;obtain r|⟨_,r⟩:=a9;exact F (by rw[<-r,e];rfl);have:=(r.lt g0 rfl).1;omega
 have e5:g≠b:=q.ak p Z0 g (by rw[hx];rfl);have h8:g<xz (xj w):=((q.own.own p Z0).lt g (by rw[hx];rfl)).2;have e7:J g≠(x 0).ownBlock:=λe=>q.own.apart 0 p Z0 Z0 g e.symm (by rw[hx];rfl);have b4:g≠g0:=by
  intro e;obtain r|⟨_,r⟩:=a9;exact e7 (by rw[<-r,e];rfl);have:=(r.lt g0 rfl).1;omega
 obtain⟨w2,H⟩:∃w2,w2=w1.setCell ⟨b,5,U⟩ (.slice (J ⟨g0,0,U⟩) (I (Zu h 0)+n) q1):=⟨_,rfl⟩;have Q:w2.heap[g0]?=J (.cells y 24 (0,0)):=by rw[H,Zi0 _ _ _ _ R];exact g7
 have h6:∀c,c≠b->c<xz (xj w)->J c≠(x 0).ownBlock->w2.heap[c]?=w.heap[c]? :=λc A h2 h3=>by
  rw[H,Zi0 _ _ _ _ A,z.block c h2 h3]
 have N:w2.heap[b]?=J (.cells #[.int .u64 h.base,.int .i64 h.cap,.int .i64 h.to,.bool h.M,.int .i64 h.Z,.slice (J ⟨g0,0,U⟩) (I (Zu h 0)+n) q1,x 1,x 2,x 3,x 4] 144 (0,0)):=by
  have:=(z.block b e4 F).trans q.blk;rw[H];simp[World.setCell,Zij,this]
 have i9:w2.cell? ⟨b,5,U⟩=J (.slice (J ⟨g0,0,U⟩) (I (Zu h 0)+n) q1):=by rw[ZhQ _ _ _ _ _ _ N];rfl
 have X:w2.ownsRow B 24 1 (x p) (I<|Zu h p)<|Yd .u64<|Zu h p:=Xm (q.own.own p Z0) λc f=>by
  rw[hx]at f;cases f;exact h6 g e5 h8 e7
 obtain⟨M,a8⟩:∃M,M=Yd .u64 (((Zu h p).take<|a+n).drop a):=⟨_,rfl⟩;have O:I M=n:=by rw[a8];simp[Yd];omega
 have i6:∀j v,M[j]?=J v->w2.cell? ((⟨g,a,U⟩:Addr).add j)=J v:=by
  intro j v hv;have o:j<n:=by rw[<-O];exact(ZhH.1 hv).1
  rw[hx]at X;have:=X.cellAt (a+j) Z0;rw[Zjk,this];rw[a8]at hv;simp only[Yd]at hv⊢;rw[<-hv];simp[Zim,show a+j<a+n by omega]
 obtain⟨w3,K⟩:∃w3,w3=w2.setRow g0 (y.toList.take (I<|Zu h 0)++(M++y.toList.drop (I (Zu h 0)+I M))).toArray:=⟨_,rfl⟩;have b2:I (Zu h 0)+I M<=y.size:=by rw[O];simp at b1;omega
 have i3:∀v∈M,v.oneCell'=xk:=by
  intro v hv;rw[a8]at hv;obtain⟨_,_,rfl⟩:=Zi4.1 hv;rfl
 have i2:I M=Nat.min n n:=by rw[O];simp
 have i7:(xP.info? 24).map (·.size)=J 1:=by rw[e8];simp[i5]
 have d:w3.heap[b]?=J (.cells #[.int .u64 h.base,.int .i64 h.cap,.int .i64 h.to,.bool h.M,.int .i64 h.Z,.slice (J ⟨g0,0,U⟩) (I (Zu h 0)+n) q1,x 1,x 2,x 3,x 4] 144 (0,0)):=by
  rw[K,ZjC _ _ _ _ R.symm];exact N
 have h9:∀c,c≠b->c≠g0->c<xz (xj w)->J c≠(x 0).ownBlock->w3.heap[c]?=w.heap[c]? :=λc A h2 h3 h4=>by
  rw[K,ZjC _ _ _ _ h2];exact h6 c A h3 h4
 have k4:xz (xj w)<=xz (xj w3):=by
  have:=z.size;have e2:xz (xj w2)=xz (xj w1):=by rw[H];simp[World.setCell]
  have e3:xz (xj w3)=xz (xj w2):=by rw[K];simp[World.setRow]
  omega
 have j5:Zu (Xu h (p+1) a n) 0=Zu h 0++((Zu h p).take<|a+n).drop a:=by
  obtain rfl|rfl:=hp<;>rfl
 have i0:∀j,j≠0->Zu (Xu h (p+1) a n) j=Zu h j:=λj o=>by
  unfold Zu Xu;simp[o]
 have Y:∀j,j<5->w3.ownsRow B 24 1 (if j=0 then .slice (J ⟨g0,0,U⟩) (I (Zu h 0)+n) q1 else x j) (I<|Zu (Xu h (p+1) a n) j) (Yd .u64<|Zu (Xu h (p+1) a n) j):=by
  intro j o;by_cases e9:j=0;subst e9;rw[ZhS rfl,j5];have hd:I (((Zu h p).take<|a+n).drop a)=n:=ZgJ;refine⟨by simp[Yd],.inr ⟨g0,q1,(y.toList.take (I<|Zu h 0)++(M++y.toList.drop (I (Zu h 0)+I M))).toArray,?_,b3,?_,?_,j9,?_,?_⟩⟩;rw[Zin,hd];rw[K];exact ZlU _ _ _ _ _ _ Q;rw[Zin,hd];exact j8;simp[O]at b1 b2⊢;omega;have ht:y.toList.take (I<|Zu h 0)=Yd .u64 (Zu h 0):=by
   have:=ZiP (List.take<|I<|Zu h 0) f8;rw[List.take_take,Zl7 Z0]at this;rw[this,ZlN i1]
  rw[Zin,hd,ht];simp only[ZlV];rw[<-Ziw,ZlN (by simp[i1,O]),a8];simp[Yd];rw[ZhP e9,i0 j e9];have ho:=q.own.own j o
  exact Xm ho λc f=>h9 c (q.ak j o c f) (λe=>by
   obtain r|⟨_,r⟩:=a9;exact q.own.apart 0 j Z0 o c (by rw[<-r,e];rfl) f;have A:=(r.lt g0 rfl).1;have h2:=(ho.lt c f).2;omega) (ho.lt c f).2 (λe=>q.own.apart 0 j Z0 o c e.symm f)
 have g8:∀j,0<j->j<5->(x j).ownBlock≠J g0:=λj h0 o f=>by
  obtain r|⟨_,r⟩:=a9;exact q.own.apart 0 j h0 o g0 (by rw[<-r];rfl) f;have A:=(r.lt g0 rfl).1;have h2:=((q.own.own j o).lt g0 f).2;omega
 have j3:∀j,j<5->j≠p->(x j).ownBlock≠J g:=λj o F f=>by
  have h7:(x p).ownBlock=J g:=by rw[hx];rfl
  obtain A|A:=Zkg F;exact q.own.apart j p A Z0 g f h7;exact q.own.apart p j A o g h7 f
 have h5:B<=g:=((q.own.own p Z0).lt g (by rw[hx];rfl)).1;have b5:=q.own.own p Z0;rw[hx]at b5;have Z:∀W:World,W.heap[g]?=w.heap[g]? ->W.ownsRow B 24 1 (.slice (J ⟨g,0,U⟩) (I<|Zu h p) cap) (I<|Zu h p) (Yd .u64<|Zu h p):=λW hW=>Xm b5 λc f=>by
  cases f;exact hW
 have j6:I (Yd .u64<|Zu h p)=I (Zu h p):=by simp[Yd]
 have l:∀W:World,W.heap[g]?=w.heap[g]? ->(∀j,j<n->(W.cell? ⟨g,a+j,U⟩).isSome=xk)/\(∀j,j<n->W.frozen? ⟨g,a+j,U⟩=xw):=λW hW=>⟨λj o=>by
  rw[(Z W hW).cellAt (a+j) Z0];simp[j6];omega,λj o=>(Z W hW).frozenAt _⟩
 have g9:w3.heap[g]?=w.heap[g]? :=h9 g e5 b4 h8 e7;have HN:=ZhK q;have HO:=ZhK f3;have HG:=ZhK z;have g3:=ZhK H;have g4:=ZhK K;have f9:=ZhK Y;have d0:w3.cell? ⟨b,0,U⟩=J (Value.int .u64 h.base):=ZgS;have d1:w3.cell? ⟨b,1,U⟩=J (Value.int .i64 h.cap):=ZgS;have d2:w3.cell? ⟨b,2,U⟩=J (Value.int .i64 h.to):=ZgS;have d3:w3.cell? ⟨b,3,U⟩=J (Value.bool h.M):=ZgS;have d4:w3.cell? ⟨b,4,U⟩=J (Value.int .i64 h.Z):=ZgS;have d5:w3.cell? ⟨b,5,U⟩=J (Value.slice (J ⟨g0,0,U⟩) (I (Zu h 0)+n) q1):=ZgS;have d6:w3.cell? ⟨b,6,U⟩=J (x 1):=ZgS;have d7:w3.cell? ⟨b,7,U⟩=J (x 2):=ZgS;have d8:w3.cell? ⟨b,8,U⟩=J (x 3):=ZgS;have d9:w3.cell? ⟨b,9,U⟩=J (x 4):=ZgS;have j7:(Xu h (p+1) a n).ok:=Mh hh (by obtain rfl|rfl:=hp<;>exact j1) f4 S;clear q f3 z H K Y;go_enter Fb,Tryz.ntmps60
 go_wp2_with (first
  |(at_builtin;refine Lib.wpList_append_run _ rfl _ _ 28 3 rfl _ _ rfl rfl _ _ i4 ?_)
  |(rw[<-g3.out];refine wpList_copy_own rfl _ _ 28 28 rfl 24 SZ i7 g0 (I<|Zu h 0) n (q1- I (Zu h 0)) ⟨g,a,U⟩ n c' rfl rfl y 24 Q M i2 i6 b2 i3 ?_;rw[<-g4.out])
  |(go_at_call 20;refine(Ke (h:=Xu h (p+1) a n) (x:=λj=>if j=0 then .slice (J ⟨g0,0,U⟩) (I (Zu h 0)+n) q1 else x j) (G:=λc=>B<=c/\c<xz (xj w3)) (λc f=>f.2)<|λj o=>Tn (f9.out j o) (λc A h2=>⟨A,h2⟩)).mono ?_;rintro e w4 ⟨rfl,g6⟩;have t:=ZhK g6;clear g6)
  |(go_at_call 19;refine(A5 j7.bc _ _ _).mono ?_;rintro e C ⟨rfl,a6⟩;have D:C.heap[g]?=w.heap[g]? :=(a6.block g (by have:=t.out.size;omega)).trans<|(t.out.block g<|by omega).trans g9;have k8:xz (xj w3)<=xz (xj C):=Zif t.out.size a6.size;have a4:=ZhK a6;clear a6;obtain⟨w6,a3⟩:∃w6,w6=C.setCells g a (List.replicate n<|.int .u64 0):=⟨_,rfl⟩;have k9:xz (xj w6)=xz (xj C):=by {rw[a3];exact Pv _ _ _ _};have c6:w6.cell? ⟨g,a,U⟩=J (.int .u64 0):=by {rw[a3];have:=World.cell?_setCells_in g (List.replicate n<|Value.int .u64 0) a C (by simpa using(l C D).1) 0 (by simpa using S);simpa using this};have f6:w6.frozen? ⟨g,a,U⟩=xw:=by {rw[a3,World.frozen?_setCells];exact(l C D).2 0 S};have a5:=ZhK a3;clear a3)
  |(refine ZbV _ rfl _ 28 rfl _ rfl _ (Lib.run_clear_slice _ _ 24 _ (.int .u64 0) SZ (jp e8 i8) rfl rfl g a n c' S (l C D).1 (l C D).2) ?_;rw[<-a5.out])
  |(go_at_call 21;refine(Oj Z2o _).mono ?_;rintro e w7 ⟨rfl,a7⟩;have c7:=(a7.cell (p:=⟨g,a,U⟩) (by show g<xz (xj w6);omega)).trans c6;have f7:=(a7.frozen (p:=⟨g,a,U⟩) (by show g<xz (xj w6);omega)).trans f6;have b6:=ZhK a7;clear a7))
 go_ret
 have b7:Below B w w3:=by
  rw[g4.out,g3.out];exact Go.below_setRow (Below.setCell (p:=⟨b,5,U⟩) ((ZhY B w).grown HG.out hB<|λk hk=>((HN.out.own.own 0 Z0).lt k hk).1) HN.out.new _) b3 _
 have j0:B<=xz (xj w3):=Z0;have b8:Below B w C:=(b7.trans<|t.out.mono j0).trans<|a4.out.mono (by have:=t.out.size;omega);have b9:Below B w w6:=by rw[a5.out];exact Ps h5 _ _ _ _ b8
 have c0:Below B w w7:=b9.trans<|b6.out.mono Z0;have k7:=t.out.size;have k5:=a4.out.size;have g5:∀(c:Nat) (u:Value),c≠g->c<xz (xj w3)->(w7.setCell ⟨g,a,U⟩ u).heap[c]?=w3.heap[c]? :=λc u A h2=>by
  rw[Zi0 _ _ _ _ A,b6.out.block c Z0,a5.out,Pu A,a4.out.block c Z0,t.out.block c h2]
 have D:C.heap[g]?=w.heap[g]? :=(a4.out.block g Z0).trans<|(t.out.block g Z0).trans g9;have a1:=MW (L:=Zu h p) a n 0 C Z0<|Z C D;have e6:C.setCells g (a+0) (List.replicate n<|.int .u64 0)=w6:=a5.out.symm;rw[e6,Zit]at a1;have f5:=Xm (w':=w7) a1 λc f=>by
  cases f;exact b6.out.block g Z0
 have a2:=(f5.stored a<|.int .u64<|SP h (p+1) a n).1;rw[<-Js]at a2;refine⟨λj=>if j=0 then .slice (J ⟨g0,0,U⟩) (I (Zu h 0)+n) q1 else x j,rfl,c0.setCell h5 _,?_,⟨?_,?_⟩,?_,HN.out.new⟩;rw[g5 b _ (λe=>e5 e.symm) Z0,d];obtain rfl|rfl:=hp<;>rfl;intro j o;by_cases f2:j=p;subst f2;have r:Zu (Xp (Xu h (j+1) a n) (j+1)<|(zr (Zu h j) a n).set a<|SP h (j+1) a n) j=(zr (Zu h j) a n).set a (SP h (j+1) a n):=by
  obtain rfl|rfl:=hp<;>rfl
 rw[r,ZhP Z0,hx,Zjs,jQ];exact a2;have r:Zu (Xp (Xu h (p+1) a n) (p+1)<|(zr (Zu h p) a n).set a<|SP h (p+1) a n) j=Zu (Xu h (p+1) a n) j:=by
  have:j=0\/j=1\/j=2\/j=3\/j=4:=Z0;obtain rfl|rfl:=hp<;>obtain rfl|rfl|rfl|rfl|rfl:=this<;>first|rfl|exact(f2 rfl).elim
 rw[r];have ho:=f9.out j o;refine Xm ho λc f=>g5 c _ (λe=> ?_) (ho.lt c f).2;subst e;by_cases h0:j=0;rw[ZhS h0]at f;cases f;exact b4 rfl;rw[ZhP h0]at f;exact j3 j o f2 f;intro i j j4 o c f;rw[ZhP (Z0:¬j=0)];by_cases h0:i=0;rw[ZhS h0]at f;cases f;exact g8 j Z0 o;rw[ZhP h0]at f;exact HN.out.own.apart i j j4 o c f;intro j o c f;by_cases h0:j=0;rw[ZhS h0]at f;cases f;exact R;rw[ZhP h0]at f;exact HN.out.ak j o c f
end Vm
namespace Vm
open Go Go.Proofs Go.RowKit
def Z4a(w:World)(B b:Nat)(h:Hp)(x:Nat->Value)(j:Now B w b h x)(o:h.ok)(p a:Nat)(q:p=2\/p=3)(g cap:Nat)
  (hx:x p=.slice (J ⟨g,0,U⟩) (I<|Zu h p) cap) (u:a< I (Zu h p)):
  Calls xP 57 #[.pointer<|J ⟨b,0,U⟩,.agg #[.int .i64<|(p:Int)+1,.int .i64 a]] w λe r=>e=.returned (.slice (J ⟨g,a,U⟩) (I (Zu h p)-a)<|cap-a)/\Below (xz<|xj w) w r:=by
 have f:=Y1 j.blk;have y:=Su o p;have l:I (Zu h p)<=cap:=by
  have:=(j.own.own p Z0).2;rw[hx]at this;obtain⟨k,_⟩|⟨_,_,_,k,_,_,n,_⟩:=this;cases k;cases k;exact n
 obtain rfl|rfl:=q
 .have t:(w.alloc<|.cells #[.int .i64 3,.int .i64 a] 65).cell? ⟨b,7,U⟩=J (.slice (J ⟨g,0,U⟩) (I<|Zu h 2) cap):=by
   rw[Zj7 _ _ _ f,ZhQ _ _ _ _ _ _ j.blk,<-hx];rfl
  have d:(I (Zu h 2):Int)<=9223372036854775807:=Z0;go_enter jX,Tryz.ntmps57;go_wp2;go_region;go_wp2;go_ret
  exact⟨rfl,((ZhY _ _).alloc (ZhL _) _).drew⟩
 .have c8:(w.alloc<|.cells #[.int .i64 4,.int .i64 a] 65).cell? ⟨b,8,U⟩=J (.slice (J ⟨g,0,U⟩) (I<|Zu h 3) cap):=by
   rw[Zj7 _ _ _ f,ZhQ _ _ _ _ _ _ j.blk,<-hx];rfl
  have d:(I (Zu h 3):Int)<=9223372036854775807:=Z0;go_enter jX,Tryz.ntmps57;go_wp2;go_region;go_wp2;go_ret
  exact⟨rfl,((ZhY _ _).alloc (ZhL _) _).drew⟩
end Vm
namespace Vm
open Go Go.Proofs Go.RowKit
def FwdPost(w:World)(r:Int×Hp×Int)(e:Ending)(w':World):Prop:=
 ∃x,e=.returned (.tuple #[.int .u64 r.1,ZA r.2.1 x,.int .i64 r.2.2])/\Below (xz<|xj w) w w'/\HOwn (xz<|xj w) w' r.2.1 x
def Lr{B' B}{w:World}{e n v l}(h:w.ownsRow B' e 1 v n l)(k:∀c,B'<=c->c<xz (xj w)->B<=c/\c<xz (xj w)):w.ownsRow B e 1 v n l:=by
 refine⟨h.1,?_⟩;obtain d|⟨g,cap,a,j,o,f,r⟩:=h.2;exact .inl d;exact .inr ⟨g,cap,a,j,ZgH,f,r⟩
def K5 w' G:∀j,j<5->Rd w' G (.sl<|(Zu Hp.zero j).map vu) (.slice U 0 0):=λj a=>by
 have:Zu Hp.zero j=[]:=by
  unfold Zu Hp.zero;split;rfl;split;rfl;split;rfl;split<;>rfl
 rw[this];exact .nil _ _ ZgX
def Z0H B w':HOwn B w' Hp.zero (λ_=>.slice U 0 0):=⟨λj d=>by
 have:Zu Hp.zero j=[]:=by
  unfold Zu Hp.zero;split;rfl;split;rfl;split;rfl;split<;>rfl
 rw[this];exact Zj6 _ _ _ _,λi j _ _ c a=>by cases a⟩
def En(w:World)(o:Obj):((w.alloc o).alloc<|.cells #[.int .u64 0,.int .i64 0,.int .i64 0,.bool xw,.int .i64 0,.slice U 0 0,.slice U 0 0,.slice U 0 0,.slice U 0 0,.slice U 0 0] 30).heap[xz (xj w)+1]?=J (.cells ZL 30 (0,0)):=by
 have e:xz (xj<|w.alloc o)=xz (xj w)+1:=Z1;have:=Zi7 (w.alloc o)<|.cells ZL 30;rw[e]at this;exact this
end Vm
namespace Vm
open Go Go.Proofs Go.RowKit
def Ef(h:Hp)(x:Nat->Value):Obj:=.cells #[.int .u64 h.base,.int .i64 h.cap,.int .i64 h.to,.bool h.M,.int .i64 h.Z,x 0,x 1,x 2,x 3,x 4] 144
def Z7c{B a h x}(f:HOwn B a h x)(k:B<=xz (xj a)):Now B (a.alloc<|Ef h x) (xz<|xj a) h x:=by
 refine⟨Zi7 a _,⟨λj d=> ?_,f.apart⟩,λj d c g=> ?_,k⟩;exact Xm (f.own j d) λc g=>ZhU _ _ _ ((f.own j d).lt c g).2;have:=((f.own j d).lt c g).2;omega
def Gm(W:World):W.drew.heap=W.heap:=rfl
def Z8G{w2:World}{b c:Nat}(hc:c≠b){v0 v1 a d v4 f v6 g h j:Value}:(Tr w2 b v0 v1 a d v4 f v6 g h j).drew.heap[c]?=w2.heap[c]? :=by
 rw[Gm];exact Vq hc
def JA{w:World}{B n q e z a v xs}(h:w.ownsRow B e z v n xs)(j:v=.slice a n q)(l:0<n):∃g,a=J ⟨g,0,U⟩:=by
 subst j;obtain⟨_,k⟩|⟨g,cap,d,f,_⟩:=h.2;omega;cases f;exact⟨g,rfl⟩
def MV{w:World}{B n q e z a xs}(h:w.ownsRow B e z (.slice a n q) n xs)(o:0<n):n<=q/\q<=maxLen:=by
 obtain⟨_,l⟩|⟨g,cap,d,k,_,_,f,j,_⟩:=h.2;omega;cases k;exact⟨f,j⟩
def Lq{w:World}{B g cap l}(h:w.ownsRow B 24 1 (.slice (J ⟨g,0,U⟩) (I l) cap) (I l)<|Yd .u64 l){i v}(a:l[i]?=J v):w.cell? ⟨g,i,U⟩=J (.int .u64 v):=by
 let⟨d,f⟩:=ZhH.1 a;rw[h.cellAt i Z0];simp[Yd,a]
abbrev T4:=List<|Nat×Array Value×TypeId
structure Kp (w W:World) (L:T4):Prop where
 bp:Below (xz<|xj w) w W
 row:∀x∈L,W.heap[x.1]?=J (.cells x.2.1 x.2.2 (0,0))
def Kf(W:World):T4->Prop
 | []=>True
 |x::L=>((∀j,W.cell? ⟨x.1,j,U⟩=x.2.1[j]?)/\∀j,W.frozen? ⟨x.1,j,U⟩=xw)/\Kf W L
def Kp.below{w W W':World}{L:T4}(k:Kp w W L)(a:Below (xz<|xj W) W W'):Kp w W' L:=⟨k.bp.trans<|a.mono k.bp.size,λx d=>(a.block _<|Y1<|k.row x d).trans<|k.row x d⟩
def Kp.alloc{w W:World}{L:T4}(k:Kp w W L)(cs:Array Value)(T:TypeId){n:Nat}(d:xz (xj W)=n:=by first|rfl):Kp w (W.alloc<|.cells cs T)<|(n,cs,T)::L:=by
 subst d;refine⟨k.bp.alloc k.bp.size _,λx a=> ?_⟩;obtain rfl|a:=Zi6.1 a;exact Zi7 W _;rw[ZhU _ _ _<|Y1<|k.row x a];exact k.row x a
def Kp.F{w W:World}:∀ {L:T4},Kp w W L->Kf W L
 | [],_=>trivial
 |x::L,k=>⟨⟨λj=>ZhQ _ _ _ _ _ _<|k.row x<|.head _,λj=>Yh<|k.row x<|.head _⟩,Kp.F ⟨k.bp,λy a=>k.row y<|.tail _ a⟩⟩
def Now.below{B b:Nat}{W W':World}{h:Hp}{x:Nat->Value}(s:Now B W b h x)(a:Below (xz<|xj W) W W'):Now B W' b h x:=
 ⟨(a.block _<|Y1 s.blk).trans s.blk,⟨λj d=>Xm (s.own.own j d) λc f=>a.block _ ((s.own.own j d).lt c f).2,s.own.apart⟩,s.ak,s.new⟩
abbrev UV(h:Hp)(a:Nat->Option Addr)(q:Nat->Nat):Nat->Value:=λj=>.slice (a j) (I<|Zu h j)<|q j
def HOwn.ms{B:Nat}{w:World}{h:Hp}{x:Nat->Value}(o:HOwn B w h x):∃a q,ZA h x=ZA h (UV h a q)/\HOwn B w h (UV h a q):=by
 have:∀j,∃p:Option Addr×Nat,j<5->x j=.slice p.1 (I<|Zu h j) p.2:=λj=>by
  by_cases d:j<5;obtain⟨a,q,e⟩:=Xl<|o.own j d;exact⟨(a,q),λ_=>e⟩;exact⟨(U,0),λh=>absurd h d⟩
 obtain⟨f,e⟩:=Zk6 this;refine⟨λj=>(f j).1,λj=>(f j).2,?_,λj d=> ?_,λi j g d c k=> ?_⟩;simp only[ZA,e 0 Z0,e 1 Z0,e 2 Z0,e 3 Z0,e 4 Z0];have:=o.own j d;rwa[e j d]at this;have:=o.apart i j g d c;rw[e i Z0,e j d]at this;exact this k
def Zc8{w W:World}{L:T4}(k:Kp w W L){rb:Nat}(a:xz (xj w)<=rb){r:Int×Hp×Int}{c:Int}(e:r=(0,Hp.zero,c)):
  FwdPost w r (.returned<|.tuple #[.int .u64 0,.agg ZL,.int .i64 r.2.2]) (Tr W rb (.int .u64 0) (.int .i64 0) (.int .i64 0) (.bool xw) (.int .i64 0) (.slice U 0 0) (.slice U 0 0) (.slice U 0 0) (.slice U 0 0)<|.slice U 0 0):=by
 subst e;exact⟨λ_=>.slice U 0 0,by simp[ZA,Hp.zero,ZL],WP k.bp a,Z0H _ _⟩
def FwdPost.drew{w W:World}{r:Int×Hp×Int}{e:Ending}(p:FwdPost w r e W):FwdPost w r e W.drew:=by
 obtain⟨x,d,f,a⟩:=p;exact⟨x,d,f.drew,⟨λj g=>Xm (a.own j g) λc h=>rfl,a.apart⟩⟩
def Hu{w W:World}{rb B:Nat}{L:T4}(k:Kp w W L)(f:xz (xj w)<=rb)(p:rb<B){h:Hp}{x:Nat->Value}(o:HOwn B W h x){r:Int×Hp×Int}(c:Int)(e:r=(c,h,0)):
  FwdPost w r (.returned<|.tuple #[.int .u64 c,ZA h x,.int .i64 0]) (RM W rb h x):=by
 subst e;refine⟨x,rfl,WP k.bp f,λj l=> ?_,o.apart⟩;have a:=o.own j l;exact Lr (Xm a λc g=>Vq (by have:=(a.lt c g).1;omega)) λc n d=>⟨Z0,d⟩
def EC(w:World)(G:Nat->Prop)(n:∀b,G b->b<xz (xj w))(h:Hp)(p:h.ok)(d:Nat->Value)(t:∀j,j<5->Rd w G (.sl<|(Zu h j).map vu) (d j)):
  Calls xP 15 #[ZA h d] w λe g=>∃a q,e=.returned (ZA h<|UV h a q)/\Below (xz<|xj w) w g/\HOwn (xz<|xj w) g h (UV h a q):=
 (zB w G n h p d t).mono λe g ⟨x,k,o,r⟩=>by
  obtain⟨a,q,l,f⟩:=r.ms;exact⟨a,q,by rw[k,l],o,f⟩
def Z4e{h:Hp}(P:h.ok){v:Int}(S:ZB v):
  (ZI (Zv h)=xw/\fwd h v=(0,Hp.zero,1))\/(ZI (Zv h)=xk/\¬v=0/\¬(adr v).2=0/\fwd h v=(0,Hp.zero,3))\/(ZI (Zv h)=xk/\¬v=0/\(adr v).2=0/\¬(Yg (Zv h) (adr v).1).2.2=0/\fwd h v=(0,Hp.zero,6))\/
  (ZI (Zv h)=xk/\v=0/\fwd h v=(0,h,0))\/(∃(part:Int) (at_:Nat),ZI (Zv h)=xk/\¬v=0/\(adr v).2=0/\Yg (Zv h) (adr v).1=(part,(at_:Int),0)/\(part=1\/part=2)/\fwd h v=(v,h,0))\/
  ∃(j at_:Nat) (f:Int),ZI (Zv h)=xk/\¬v=0/\(adr v).2=0/\Yg (Zv h) (adr v).1=((j:Int)+1,(at_:Int),0)/\(j=2\/j=3)/\(Zu h j)[at_]?=J f/\ZB f/\
   (((adr f).2=0/\fwd h v=(f,h,0))\/(¬(adr f).2=0/\∃(sz:Nat) (pt x:Int),ZR f=((sz:Int),pt,x)/\sz<=255/\
     ((¬x=0/\fwd h v=(0,Hp.zero,3))\/(x=0/\I (Zu h j)<at_+(sz+1)/\fwd h v=(0,Hp.zero,2))\/
       (x=0/\at_+(sz+1)<=I (Zu h j)/\Wa (Zv h)< ((sz+1:Nat):Int)/\fwd h v=(0,Hp.zero,7))\/
       (x=0/\at_+(sz+1)<=I (Zu h j)/\¬Wa (Zv h)< ((sz+1:Nat):Int)/\
        fwd h v=(SP h ((j:Int)+1) at_<|sz+1,Xp (Xu h ((j:Int)+1) at_<|sz+1) ((j:Int)+1)<|(zr (Zu h j) at_<|sz+1).set at_<|SP h ((j:Int)+1) at_<|sz+1,0))))):=by
 cases p:ZI<|Zv h;exact .inl ⟨rfl,by simp[fwd,p]⟩;by_cases a:v=0;exact .inr<|.inr<|.inr<|.inl ⟨rfl,a,by simp[fwd,p,a]⟩;by_cases o:(adr v).2=0;case neg=>exact .inr<|.inl ⟨rfl,a,o,by simp[fwd,p,a,o]⟩
 by_cases D:(Yg (Zv h) (adr v).1).2.2=0;case neg=>exact .inr<|.inr<|.inl ⟨rfl,a,o,D,by simp[fwd,p,a,o,D]⟩
 obtain⟨_,L,M,N,G,_⟩:=Z3R D;rw[Tv ⟨L,M⟩]at G;obtain⟨k,K⟩:=ZhW N;have t:Yg (Zv h) (adr v).1=((Yg (Zv h) (adr v).1).1,(k:Int),0):=by rw[<-K,<-D]
 rw[K]at G;generalize (Yg (Zv h) (adr v).1).1=part at*;by_cases u:part<3;exact .inr<|.inr<|.inr<|.inr<|.inl ⟨part,k,rfl,a,o,t,Z0,by simp[fwd,p,a,o,t,u]⟩;obtain⟨j,Q,rfl,l⟩:∃j:Nat,(j=2\/j=3)/\(j:Int)+1=part/\Zz h part=Zu h j:=by
  have:part=3\/part=4:=Z0;obtain rfl|rfl:=this;exact⟨2,.inl rfl,rfl,rfl⟩;exact⟨3,.inr rfl,rfl,rfl⟩
 have r:=(XQ P<|(j:Int)+1).1;rw[l]at G r;have y:k< I (Zu h j):=Z0;have C:(Zu h j)[k]?=J (Zu h j)[k]:=ZhG y;replace r:=r _<|Zi5 y;generalize (Zu h j)[k]=f at*;have z:(Zu h j).getD k 0=f:=by simp[List.getD,C]
 refine .inr<|.inr<|.inr<|.inr<|.inr ⟨j,k,f,rfl,a,o,t,Q,C,r,?_⟩;by_cases g:(adr f).2=0;exact .inl ⟨g,by simp[fwd,p,a,o,t,u,l,-List.getD_eq_getElem?_getD,z,g]⟩;refine .inr ⟨g,?_⟩;by_cases d:(ZR f).2.2=0;have R:=Yz.1<|DW (w:=f) d;obtain⟨n,F⟩:=ZhW R.1;have H:ZR f=((n:Int),(ZR f).2.1,(ZR f).2.2):=by rw[<-F]
 refine⟨n,_,_,H,Z0,.inr ?_⟩;by_cases q:I (Zu h j)<k+(n+1);exact .inl ⟨d,q,by simp[fwd,Re,p,a,o,t,u,l,-List.getD_eq_getElem?_getD,z,g,d,F,q]⟩;by_cases A:Wa (Zv h)< ((n+1:Nat):Int);exact .inr<|.inl ⟨d,Z0,A,by simp[fwd,Re,p,a,o,t,u,l,-List.getD_eq_getElem?_getD,z,g,d,F,q];omega⟩;refine .inr<|.inr ⟨d,Z0,A,?_⟩;have B:¬Wa (Zv h)< (n:Int)+1:=Z0;simp only[fwd,p,a,o,t,ZiF,ZiC,Zla,Zm1,Zls];simp[-List.getD_eq_getElem?_getD,u,l,z,g,F,d,Re,q,B];exact⟨rfl,rfl⟩;have O:ZR f=(((0:Nat):Int),(ZR f).2.1,(ZR f).2.2):=by
  unfold ZR at d⊢;split;rename_i c;rw[ZhS c]at d;exact absurd rfl d;rfl
 exact⟨0,_,_,O,Z0,.inl ⟨d,by simp[fwd,p,a,o,t,u,l,-List.getD_eq_getElem?_getD,z,g,d]⟩⟩
abbrev FwQ{w W:World}{L:T4}{B b c d:Nat}{h:Hp}{x:Nat->Value}{r s:Array Value}{T S:TypeId}(_:Hid<|Kp w W L)(_:Hid<|Now B W b h x)(_:(c,r,T)∈L)(_:(d,s,S)∈L)(W:World):Prop:=
 (∀j,W.cell? ⟨c,j,U⟩=r[j]?)/\(∀j,W.cell? ⟨d,j,U⟩=s[j]?)/\Kp w W L/\Now B W b h x
theorem FwQ.of{w W V:World}{L:T4}{B b c d:Nat}{h:Hp}{x:Nat->Value}{r s:Array Value}{T S:TypeId}{k:Hid (Kp w W L)}{n:Hid (Now B W b h x)}{m:(c,r,T)∈L}{m':(d,s,S)∈L}(e:Kp w V L)(o:Now B V b h x):FwQ k n m m' V:=
 ⟨λj=>ZhQ _ _ _ _ _ _<|e.row _ m,λj=>ZhQ _ _ _ _ _ _<|e.row _ m',e,o⟩
def Kp.drew{w W:World}{L:T4}(k:Kp w W L):Kp w W.drew L:=⟨k.bp.drew,k.row⟩
def Now.drew{B b:Nat}{W:World}{h:Hp}{x:Nat->Value}(s:Now B W b h x):Now B W.drew b h x:=⟨s.blk,⟨λj a=>Xm (s.own.own j a) λc d=>rfl,s.own.apart⟩,s.ak,s.new⟩
def Kp.sub{w W W':World}{L:T4}(k:Kp w W L){B c:Nat}{r:Array Value}{T:TypeId}(a:Below B W W')(d:xz (xj w)<=B)(m:(c,r,T)∈L)(hc:c<B):Kp w W' [(c,r,T)]:=
 ⟨k.bp.trans<|a.mono d,λx f=>by
  cases ZiN.1 f;exact(a.block _ hc).trans (k.row _ m)⟩
def Now.ms{B b:Nat}{W:World}{h:Hp}{x:Nat->Value}(s:Now B W b h x):∃a q,Now B W b h<|UV h a q:=by
 obtain⟨a,q,e,o⟩:=s.own.ms;simp only[ZA,Value.agg.injEq]at e;have d:=s.blk;rw[e]at d;refine⟨a,q,d,o,λj f c g=> ?_,s.new⟩;simp at e;have:=s.ak j f c
 match j,f with
 |0,_|1,_|2,_|3,_|4,_=>simp_all
def qB{w:World}{B g cap:Nat}{l:List Int}{a:Option Addr}(h:w.ownsRow B 24 1 (.slice a (I l) cap) (I l)<|Yd .u64 l)(d:a=J ⟨g,0,U⟩){i:Nat}{v:Int}(f:l[i]?=J v):w.cell? ⟨g,i,U⟩=J (.int .u64 v):=by
 subst d;exact Lq h f
def Ew(w:World)(G:Nat->Prop)(hG:∀b,G b->b<xz (xj w))(h:Hp)(hh:h.ok)(f:Nat->Value)(hs:∀j,j<5->Rd w G (.sl<|(Zu h j).map vu) (f j))(v:Int)(hv:ZB v):
  Calls xP 39 #[ZA h f,.int .u64 v] w (FwdPost w<|fwd h v):=by
 have HS:=ZhK hs;have K:=ZhK hh;have HW:=Z4e hh hv;clear hs hh;have KZ:=ZhK<|((Kp.mk (ZhY (xz<|xj w) w) (L:=[]) nofun).alloc #[.int .u64 h.base,.int .i64 h.cap,.int .i64 h.to,.bool h.M,.int .i64 h.Z,f 0,f 1,f 2,f 3,f 4] 30).alloc ZL 30 (n:=xz (xj w)+1) Z1;unfold ZA;go_enter F4,Tryz.ntmps39;obtain⟨hr,d⟩|⟨hr,a1,h1,d⟩|⟨hr,a1,h1,h2,d⟩|⟨hr,rfl,d⟩|⟨part,at_,hr,a1,h1,hf,rfl|rfl,d⟩|⟨j,at_,wd,hr,a1,h1,hf,O,u,b0,H⟩:=HW
 rotate_right
 have h5:j<5:=Z0;have hp:(j:Int)+1=3\/(j:Int)+1=4:=by clear H;omega
 have b4:=(ZhH.1 u).1;have e5:=Su K.out j;obtain⟨m,hm⟩:∃m,I (Zu h j)-at_=m:=⟨_,rfl⟩;have e3:0<m:=Z0;have e4:(0:Int)< (m:Int):=Z0;have hz:at_+0=at_:=rfl;have e6:m<=1000000:=Z0;have e2:at_+m=I (Zu h j):=Z0;generalize b5:(j:Int)+1=part at hp hf;obtain⟨H,d⟩|⟨H,sz,pt,er,c0,g3,⟨Z,d⟩|⟨Z,t,d⟩|⟨Z,t,a8,d⟩|⟨Z,t,a8,d⟩⟩:=H;iterate 5 (obtain rfl|rfl:=hp;rotate_left 2)
 all_goals
  go_wp2_with (first
   |(go_at_call 57;obtain⟨g,hg⟩:=JA (N6.out.own.own j h5) rfl (by omega);have a0:=Z4a _ _ _ h _ N6.out K.out j at_ O g (q j) (by simp[UV,hg]) b4;rw[b5,hm]at a0;refine a0.mono ?_;clear a0;rintro e w7 ⟨rfl,B⟩;have e1:=MV (N6.out.own.own j h5) (by omega);obtain⟨qm,b6⟩:∃qm,q j-at_=qm:=⟨_,rfl⟩;rw[b6];have k7:=K6.out.below B;have n:=N6.out.below B;have b9:=B.size;simp at b9;have k:=k7.F;simp only[Kf,ZL]at k;obtain⟨⟨n7,m7⟩,⟨p7,_⟩,⟨c7,f7⟩,⟨y7,z7⟩,_⟩:=k;have d7:=qB (n.own.own j h5) hg u;have Q:=ZhK n.own;have N7:=ZhK n;have K7:=ZhK k7;have l:=K7;clear k7 B n n6 m6 p6 c6 f6 y6 z6)
   |(go_at_call 46;have k7:=K7.out;refine(TE b0 _).mono ?_;rintro e w8 ⟨rfl,C⟩;have k8:=k7.below C;have n:=N7.out.below C;have f0:=C.size;have k:=k8.F;simp only[Kf,ZL]at k;obtain⟨⟨n8,m8⟩,⟨p8,_⟩,⟨c8,f8⟩,⟨y8,z8⟩,_⟩:=k;have d8:=qB (n.own.own j h5) hg u;have Q:=ZhK n.own;have N8:=ZhK n;have K8:=ZhK k8;have l:=K8;clear k7 k8 C n n7 m7 p7 c7 f7 y7 z7 d7)
   |(go_at_call 58;refine(QJ b0 _).mono ?_;rintro e w9 ⟨rfl,D⟩;rw[c0];dsimp only;have f1:=D.size;have k9:=(K8.out.below D).alloc #[.int .i64 (sz:Nat),.int .i64 pt] 34;have n:=(N8.out.below D).below<|(ZhY _ _).alloc (ZhL _)<|.cells #[.int .i64 (sz:Nat),.int .i64 pt] 34;have k:=k9.F;simp only[Kf,ZL]at k;obtain⟨⟨s9,_⟩,⟨n9,m9⟩,⟨p9,_⟩,⟨c9,f9⟩,⟨y9,z9⟩,_⟩:=k;have d9:=qB (n.own.own j h5) hg u;have Q:=ZhK n.own;have N9:=ZhK n;have K9:=ZhK k9;have l:=K9;clear k9 D n n8 m8 p8 c8 f8 y8 z8 d8)
   |(go_at_call 20;refine(Ke (h:=h) (x:=f) (G:=G) (λc hc=>by have:=hG c hc;simp;omega) (λj O=>(HS.out j O).keep (λb z=>by have:=hG b z;rw[ZhU _ _ _ (by simp;omega),ZhU _ _ _ (by omega)])<|λ_ h=>h)).mono ?_;rintro e w1 ⟨rfl,W⟩;unfold Ti;have K1:=ZhK<|KZ.out.below W;have a9:=W.size;simp at a9;clear W)
   |(go_at_call 41;refine(Z9w K.out.bc _).mono ?_;rintro e w2 ⟨rfl,X⟩;rw[hr];have k2:=(K1.out.alloc _ _).below X;have b7:=X.size;simp at b7;have k:=k2.F;simp only[Kf,ZL]at k;obtain⟨⟨c2,f2⟩,⟨y2,z2⟩,⟨x2,_⟩,_⟩:=k;have K2:=ZhK k2;have l:=K2;clear k2 X)
   |(go_at_call 46;refine(TE hv _).mono ?_;rintro e w3 ⟨rfl,o⟩;have k3:=K2.out.below o;have e8:=o.size;have k:=k3.F;simp only[Kf,ZL]at k;obtain⟨⟨c3,f3⟩,⟨y3,z3⟩,⟨x3,_⟩,_⟩:=k;have K3:=ZhK k3;have l:=K3;clear k3 o c2 f2 y2 z2 x2)
   |(go_at_call 56;refine(GO K.out.bc (A6 hv) _).mono ?_;rintro e w4 ⟨rfl,Y⟩;(try (rw[hf];dsimp only));have e9:=Y.size;have k4:=K3.out.below Y;have k:=λcs T=>(k4.alloc cs T).F;simp only[Kf,ZL,forall_and]at k;obtain⟨_,⟨c4,f4⟩,⟨y4,z4⟩,⟨x4,_⟩,_⟩:=k;have K4:=ZhK k4;have l:=ZhK<|k4.alloc #[.int .i64 (Yg (Zv h) (adr v).1).1,.int .i64 (Yg (Zv h) (adr v).1).2.1] 65;clear k4 Y c3 f3 y3 z3 x3)
   |(go_at_call 15;have kg:=K4;refine(EC _ G (λb z=>by have:=hG b z;simp;omega) h K.out f (λj O=>(HS.out j O).keep (λb z=>(K4.out.bp.alloc (by have:=K4.out.bp.size;omega) _).block b<|hG b z)<|λ_ h=>h)).mono ?_;rintro e w5 ⟨a,q,rfl,A,a7⟩;have k5:=(K4.out.alloc _ _).below A;have b8:=A.size;simp at b8;have hN:=Z7c a7 A.size;have k6:Kp w (w5.alloc<|Ef h<|UV h a q) _:=k5.alloc _ _;unfold ZA;unfold Ef at k6 hN;dsimp only[UV]at k6 hN⊢;have k:=k6.F;simp only[Kf,ZL]at k;obtain⟨⟨n6,m6⟩,⟨p6,_⟩,⟨c6,f6⟩,⟨y6,z6⟩,_⟩:=k;have Q:=ZhK hN.own;have N6:=ZhK hN;have K6:=ZhK k6;have l:=K6;clear kg k5 k6 hN A a7 c4 f4 y4 z4 x4)
   |(go_at_call 15;refine(EC _ G (λb z=>by have:=hG b z;omega) h K.out f<|λj O=>(HS.out j O).keep (λb z=>K2.out.bp.block b<|hG b z) (λ_ h=>h)).mono ?_;rintro e w3 ⟨a,q,rfl,o,a6⟩;unfold ZA;dsimp only[UV];have k3:=K2.out.below o;have k:=k3.F;simp only[Kf,ZL]at k;obtain⟨⟨c3,f3⟩,⟨y3,z3⟩,⟨x3,_⟩,_⟩:=k;have l:=ZhK k3;have Q:=ZhK a6;clear k3 o a6))
  try
   generalize f5:sz+1=sm at a8 t d;have g4:IntKind.i64.wrap ((sz:Int)+1)=(sm:Int):=by rw[Zx ((sz:Int)+1) Z0 Z0];omega
   have a9:(sm:Int)<=(qm:Int):=Z0;have e7:(0:Int)<=(sm:Int):=Z0;have HL:=ZhK t;have S:=FwQ.of (k:=K9) (n:=N9) (m:=.tail _<|.tail _<|.tail _<|.head _) (m':=.head _) K9.out.drew N9.out.drew;clear s9 n9 m9 p9 c9 f9 y9 z9 d9 t
   go_region_held3 (FwQ K9 N9 (.tail _<|.tail _<|.tail _<|.head _)<|.head _) (first|exact S|assumption)
    (first|(go_at_call 59;refine(Z9y K.out.bc _).mono ?_;rintro e d5 ⟨rfl,M⟩;have S:=FwQ.of (k:=K9) (n:=N9) (m:=.tail _<|.tail _<|.tail _<|.head _) (m':=.head _) (S.2.2.1.below M)<|S.2.2.2.below M))
   obtain⟨-,-,a2,a4⟩:=S;rename_i R;clear R;have k:=a2.F;simp only[Kf,ZL]at k;obtain⟨⟨d0,_⟩,⟨b1,c1⟩,⟨qD,_⟩,⟨Ah,b3⟩,⟨d6,e0⟩,_⟩:=k;have b2:=qB (a4.own.own j h5) hg u;have a5:=ZhK a2;have l:=a5;have P:=ZhK a4;clear a2 a4;go_wp2_with (first|(go_at_call 60;refine(Z3g d5 _ _ h _ P.out (by have:=Y1 P.out.blk;have:=P.out.new;omega) K.out j at_ sm O Z0 Z0 Z0 g (q j) (by simp[UV,hg]) (by have:=HL.out;omega) qm).mono ?_;rintro e g5 ⟨x',rfl,N,y⟩;obtain⟨a',q',y⟩:=y.ms;generalize SP h ((j:Int)+1) at_ sm=to at*;generalize Xp (Xu h ((j:Int)+1) at_ sm) ((j:Int)+1) ((zr (Zu h j) at_ sm).set at_ to)=h' at*;have a3:=a5.out.sub N (by have:=K1.out.bp.size;simp;omega) (c:=xz (xj w)+1) (r:=ZL) (T:=30) Z1 ZgJ;have k:=a3.F;have n:=λj=>ZhQ _ _ j _ _ _ y.blk;simp only[Kf,ZL]at k;dsimp only[UV]at n;have Q:=ZhK y.own;have l:=ZhK a3;clear a3 N y d0 b1 c1 qD Ah b3 d6 e0 b2))
  have r:=U4<|l.out.row (xz (xj w)+1,ZL,30) Z1;dsimp only at r;first
  |go_region
   all_goals
    go_wp2;try simp only[Exit.inBlock,Exit.then]
    refine Zie ?_ rfl (Hu l.out Z0 ZgJ Q.out _ d).drew
  |have p:=Zc8 l.out (rb:=xz (xj w)+1) (by omega) d
   refine Zie ?_ rfl p
  |have p:=Hu l.out (rb:=xz (xj w)+1) (by omega) (by omega) Q.out _ d
   refine Zie ?_ rfl p
  all_goals simp[results,Tryz.results39,go_sem,r,ZA,UV,ZL,d]
end Vm
namespace Vm
open Go Go.Proofs Go.RowKit
def TY{w G k n v}(r:Rd w G (.int k n) v):v=.int k n:=by cases r;rfl
def D8{w G b v}(r:Rd w G (.bool b) v):v=.bool b:=by cases r;rfl
def KU{w G h v}(r:Rd w G (ZE h) v):∃f,v=ZA h f/\∀j,j<5->Rd w G (.sl<|(Zu h j).map vu) (f j):=by
 cases r with
 |agg _ vs t _ a=>
  refine⟨λj=>vs.getD (5+j) xy,?_,?_⟩;have g:=TY<|a 0 _ rfl;have k:=TY<|a 1 _ rfl;have l:=TY<|a 2 _ rfl;have n:=D8<|a 3 _ rfl;have o:=TY<|a 4 _ rfl;have d:=t;unfold ZA;rw[<-g,<-k,<-l,<-n,<-o];congr 1;apply Zka;simp[d];intro i u x;have p:i<10:=Z0
  match i,p with
  |0,_|1,_|2,_|3,_|4,_|5,_|6,_|7,_|8,_|9,_=>simp[Array.getD,d]
  intro j q
  match j,q with
  |0,_=>exact a 5 _ rfl
  |1,_=>exact a 6 _ rfl
  |2,_=>exact a 7 _ rfl
  |3,_=>exact a 8 _ rfl
  |4,_=>exact a 9 _ rfl
def Sj{w G h x}(d:∀j,j<5->Rd w G (.sl<|(Zu h j).map vu) (x j)):Rd w G (ZE h)<|ZA h x:=by
 refine .agg _ _ rfl Z1 ?_;intro i y a
 match i,a with
 |0,a=>cases a;exact .int _ _
 |1,a=>cases a;exact .int _ _
 |2,a=>cases a;exact .int _ _
 |3,a=>cases a;exact .bool _
 |4,a=>cases a;exact .int _ _
 |5,a=>cases a;exact d 0 Z0
 |6,a=>cases a;exact d 1 Z0
 |7,a=>cases a;exact d 2 Z0
 |8,a=>cases a;exact d 3 Z0
 |9,a=>cases a;exact d 4 Z0
end Vm
end
section
namespace Vm
open Go Go.Proofs Go.RowKit
def Rd.bu{w:Z3}{G:Z4}{l:Zr}{v:Zb}(h:Rd w G (.sl l) v):∃a c,v=.slice a (I l) c:=by
 cases h with
 |nil a cap _=>exact⟨a,cap,rfl⟩
 |sl l b o cap k vs=>exact⟨_,cap,rfl⟩
def append_empty{P:Z6}{w:Z3}{t ty e:Zd}(u:P.underlying t=J (.slice e))(o:UD P e=xk)(p a:Addr)(n c:Nat)(d:Zm)(r:I d=n*P.cellsOf e)(f:∀j v,d[j]?=J v->w.cell? (a.add j)=J v)(y:0<n)(h:n<=Y4):
  (Builtin.append_ #[t,t] ty #[.slice (J p) 0 0,.slice (J a) n c]).run P w=(Builtin.append_ #[t,t] ty #[.slice U 0 0,.slice (J a) n c]).run P w:=by
 obtain⟨i,z,q,x,C,D,l,k⟩:=RY o;simp only[Y4]at h;have g:n*i.bytes<=140737488355328:=by
  have:n*i.bytes<=4294967296*32768:=Zln h l;omega
 rw[run_append_nil (P:=P) w t ty e i z u q x a n c d (by rw[r,k]) f y Z0 Z0];have A:=run_append_grow (P:=P) w t ty e i z u q x p 0 0 [] Z1 (λj v B=>by simp at B) a n c d (by rw[r,k]) f Z0 Z0<|ZlS Z0 ZhC;simpa using A
def Z2r{w:Z3}(f:Option Addr){ty:Zd}{G:Z4}{l:Z9}{y:Zb}(hl:I l<=1000000)(Q:Rd w G (.sl<|l.map vu) y):
  ∃C h,(Builtin.append_ #[28,28] ty #[.slice f 0 0,y]).run xP w=.ok C h/\Below (xz<|xj w) w h/\Rd h (λc=>xz (xj w)<=c/\c<xz (xj h)) (.sl<|l.map vu) C:=by
 have F:=SZ;have g:∀(w:Z3),Rd w (λc=>xz (xj w)<=c/\c<xz (xj w)) (.sl ([]:List V))<|.slice f 0 0:=λw=>.nil _ _ ZgX;by_cases t:l=[];subst t;obtain⟨i,z,hi,hz,a1,d,Z,a0⟩:=RY (P:=xP) J3;have hv:∃a c,y=.slice a 0 c:=by
  obtain⟨a,c,e⟩:=Rd.bu Q;exact⟨a,c,by simpa using e⟩
 obtain⟨a,c,rfl⟩:=hv;refine⟨.slice f 0 0,w,?_,ZhY _ _,g w⟩;cases a<;>cases f<;>simp[Builtin.append_,Zip F,Go.sizeOf,typeInfo,hi,Builtin.lenOf,Builtin.firstCells,loadCells,loadCellsFrom,storeCells]
 have W:0<I l:=Zku.2 t;have key:(Builtin.append_ #[28,28] ty #[.slice f 0 0,y]).run xP w=(Builtin.append_ #[28,28] ty #[.slice U 0 0,y]).run xP w:=by
  obtain _|f:=f;rfl;have p:=Q;generalize A:l.map vu=L at p;cases p with
  |nil=>simp at A;exact absurd A t
  |sl _ b o cap kk vs d k X Y D R=>
   have T:I L=I l:=by rw[<-A,Zia]
   have H:kk=1:=by
    obtain⟨x,hx⟩:=Zlj l t;have:=(Y (vu x) (by rw[<-A];exact Zjr hx)).1;simpa using this.symm
   subst H;refine append_empty (P:=xP) F J3 f ⟨b,o,U⟩ _ cap ((List.range<|I L).map vs) (by rw[T8];simp) (λj u S=> ?_) Z0 (by simp only[Y4];omega);have M:j<I L:=by simpa using(ZhH.1 S).1
   have O:vs j=u:=by simpa[M]using S
   rw[Zjk,<-O];exact D j Z0
 obtain⟨C,h,q,N,d,k,X,_,D⟩:=LW (P:=xP) (ty:=ty) (B:=xz<|xj w) (n:=0) (xs:=[]) F J3 (Zj6 w _ _ _) (ZhL _) Q (by rw[T8];exact zd _) (by simp only[Y4,Zia];omega);rw[T8]at d;have K:I q=I l:=by have:=d.1;simpa using this
 have R:=qi D K;rw[R]at d;simp only[Zia,Zit,ZiB]at d;refine⟨C,h,key.trans N,?_,Tn d λc d k=>⟨d,k⟩⟩;have hn:(Value.slice U 0 0).ownBlock=U:=rfl;rw[hn]at k;exact Below.grown (ZhY _ _) k (ZhL _) (λr N=>by cases N)
def ZbZ{w:Z3}{o:Oper}{a:Act}{K:Zq}{Q:Zh}(s x:Operand)
  (p:o.op=.call {callee:=.builtin .append,args:=#[s,x],argTypes:=#[28,28]}) {g:Option Addr} {y:Zb} (r:a.eval s=.slice g 0 0) (hx:a.eval x=y)
  {G:Z4} {l:Z9} (n:I l<=1000000) (t:Rd w G (.sl<|l.map vu) y)
  (h:∀f d,Below (xz<|xj w) w d->Rd d (λc=>xz (xj w)<=c/\c<xz (xj d)) (.sl<|l.map vu) f->K (a.put o.dst f) d):o.wp xP a w K Q:=by
 obtain⟨f,d,q,j,k⟩:=Z2r g (ty:=o.type) n t;unfold Oper.wp execOp;simp only[p,resolve,invoke,builtin,Ziu,Zkk,Zis,List.map_toArray,Zii,Zj9,r,hx,q];exact h f d j k
def Z0y{w:Z3}{ops:Zl}{rest:List Oper}{o:Oper}{a:Act}{Q:Zh}(g:o.guard=U)(s x:Operand)
  (r:o.op=.call {callee:=.builtin .append,args:=#[s,x],argTypes:=#[28,28]}) {j:Option Addr} {y:Zb} (t:a.eval s=.slice j 0 0) (hx:a.eval x=y)
  {G:Z4} {l:Z9} (q:I l<=1000000) (u:Rd w G (.sl<|l.map vu) y)
  (h:∀f d,Below (xz<|xj w) w d->Rd d (λc=>xz (xj w)<=c/\c<xz (xj d)) (.sl<|l.map vu) f->wpList xP ops Q rest (a.put o.dst f) d):wpList xP ops Q (o::rest) a w:=
 wpList_plain g λ_ p=>ZbZ s x r t hx q u λf d k n=>p _ _<|h f d k n
def AX(w:Z3){G:Z4}{l:Z9}{y:Zb}(j:I l<=1000000)(f:Rd w G (.sl<|l.map vu) y):
  Calls xP 38 #[y] w λe d=>∃v,e=.returned v/\Below (xz<|xj w) w d/\Rd d (λc=>xz (xj w)<=c/\c<xz (xj d)) (.sl<|l.map vu) v:=by
 obtain⟨a,c,rfl⟩:=Rd.bu f;go_enter F3,Tryz.ntmps38;go_wp2_with (at_builtin;refine Z0y rfl _ _ rfl rfl rfl j f ?_;intro g d h k)
 exact Zie (v:=g) (by simp[results,Tryz.results38,go_sem]) rfl ⟨g,rfl,h,k⟩
def Z3K(w:Z3)(n c:Nat):Sem.run xP (binOp .eql 28 (.slice U n c)<|.slice U 0 0) w=.ok (.bool xk) w:=Zhw
def Z3L(w:Z3)(a:Addr)(n c:Nat):Sem.run xP (binOp .eql 28 (.slice (J a) n c)<|.slice U 0 0) w=.ok (.bool xw) w:=Zhw
def Z0V(w:Z3){G:Z4}(x:∀b,G b->b<xz (xj w)){l:Z9}{y:Zb}(A:I l<=1000000)(g:Rd w G (.sl<|l.map vu) y):
  Calls xP 80 #[y] w λe k=>∃v,e=.returned v/\Below (xz<|xj w) w k/\Rd k (λc=>xz (xj w)<=c/\c<xz (xj k)) (.sl<|l.map vu) v:=by
 obtain⟨a,c,rfl⟩:=Rd.bu g;cases a with
 |none=>
  have u:l=[]:=by
   generalize z:l.map vu=L at g;cases g with
   |nil=>simpa using z
  subst u;have q:=Z3K w 0 c;go_enter Fi,Tryz.ntmps80;simp only[Zj9,ZiQ];go_wp2;exact Zie (v:=.slice U 0 0) (by simp[results,Tryz.results80,go_sem]) rfl ⟨_,rfl,ZhY _ _,.nil _ _ ZgX⟩
 |some p=>
  have q:=Z3L w p (I l) c;go_enter Fi,Tryz.ntmps80;have h:Rd (w.alloc<|.cells #[] 24) G (.sl<|l.map vu)<|.slice (J p) (I<|l.map vu) c:=g.keep (λb d=>ZhU _ _ _<|x b d) λ_ q=>q;have f:Below (xz<|xj w) w<|w.alloc<|.cells #[] 24:=(ZhY _ _).alloc (ZhL _) _;have j:xz (xj<|w.alloc<|.cells #[] 24)=xz (xj w)+1:=Z1;have n:=ZhK<|And.intro f j;clear f j g;go_wp2_with (at_builtin;refine Z0y rfl _ _ rfl rfl rfl A h ?_;intro t k d r;have o:=ZhK<|And.intro d r;clear d r h)
  refine Zie (v:=t) (by simp[results,Tryz.results80,go_sem]) rfl ⟨t,rfl,n.out.1.trans<|o.out.1.mono (by rw[n.out.2];omega),o.out.2.mono λb d=>⟨by have:=n.out.2;omega,d.2⟩⟩
section
def QN(K:Zq)(Q:Zh):Exit->Act->World->Prop
 |.normal,a,w=>K a w
 |.ret,a,w=>Q .ret a w
 |.outgrown,a,w=>Q .outgrown a w
 |e,a,w=>Q e a w
section
variable {P:Z6}{ops:Zl}{Q:Zh}
def ZbW{i:Nat}{o:Oper}{K:Zq}{a:Act}{w:Z3}(k:ops[i]?=J o)(h:wpList P ops (QN K Q) [o] a w):wpOp P ops Q i K a w:=by
 unfold wpOp;rw[k];simp only;unfold wpList at h;split at h;rename_i f;rw[ZhS f];obtain h|⟨g,j⟩:=h;left;unfold Oper.wp at*;generalize (execOp a.eval o).run P w=r at*;cases r with
 |ok n l=>
  cases n<;>simp only[Oper.upon]at h⊢ <;>
   first
    |exact h
    |exact ZjL h (λe p d=>by cases e<;>exact d)
    |exact Rows.mono h (λ_ _ d=>d)
 |halt x l=>cases x<;>simp only[Oper.upon]at h⊢ <;>exact h
 exact .inr ⟨g,j⟩;rename_i f;rw[ZhP f];exact h
def Z9l{id:Nat}{C:Act}{w0:Z3}(hm:P.follows .mixedOrders=xk)(y:∀(i:Nat) (o:Oper),ops[i]?=J o->∀e∈Ui o,e<i)(I:(Nat->Bool)->Act->World->Prop)
  (S:I (λ_=>xw) C {w0 with drawn:=w0.drawn+1})
  (H:∀(L:ZgG) (i:Nat) (o:Oper) (a:Act) (w:Z3),ops[i]?=J o->L i=xw->(∀j∈Ui o,L j=xk)->I L a w->wpList P ops (QN (I<|add L i) Q) [o] a w)
  (M:∀(L:ZgG) (a:Act) (w:Z3),(∀i,i<ops.size->L i=xk)->I L a w->Q .normal a w):(Code.region id ops xk).wp P Q C w0:=by
 have t:∀(listed:Array Bool) (i:Nat),listed.size=ops.size->i<ops.size->listed.getD i xk=listed.getD i xw:=by
  intro listed i l D;simp[ZhM,l,D]
 have h:∀(listed:Array Bool),listed.size=ops.size->Region.ready .any ops listed=[]->∀i,i<ops.size->listed.getD i xw=xk:=by
  intro listed f z i;induction i using Nat.strongRecOn with
  |_ i K=>
   intro q;cases Z:listed.getD i xw with
   |true=>rfl
   |false=>
    have:i∈Region.ready .any ops listed:=ZlE.2 ⟨by rw[t listed i f q];exact Z,ops[i],Ziv q,λe X W=>by
     have k:=y i ops[i] (Ziv q) e.on<|M8 X W;exact K e.on k Z0⟩
    rw[z]at this;simp at this
 refine wp_region_any hm ?_;have A:∀(d:Nat) (listed:Array Bool) (a:Act) (w:Z3),listed.size=ops.size->zm ops.size (λi=>listed.getD i xw)<=d->I (λi=>listed.getD i xw) a w->wpAny P .any ops Q d listed a w:=by
  intro d;induction d with
  |zero=>
   intro listed a w f N B;have g:=Z05<|Nat.le_zero.1 N;refine⟨?_,M _ a w g B⟩;cases z:Region.ready .any ops listed with
   |nil=>rfl
   |cons i r=>
    have:i∈Region.ready .any ops listed:=by rw[z];simp
    obtain⟨l,o,x,_⟩:=ZlE.1 this;have q:i<ops.size:=(ZhN.1 x).1;rw[t listed i f q,g i q]at l;cases l
  |succ d K=>
   intro listed a w f N B;refine⟨λz=>M _ a w (h listed f z) B,λi q=> ?_⟩;obtain⟨l,o,x,g⟩:=ZlE.1 q;have k:i<ops.size:=(ZhN.1 x).1;rw[t listed i f k]at l;have p:(λj=>(listed.setIfInBounds i xk).getD j xw)=add (λi=>listed.getD i xw) i:=by
    funext j;simp only[add];by_cases u:j=i;subst u;have:j<listed.size:=Z0;simp[ZhM,this];have:(listed.setIfInBounds i xk).getD j xw=listed.getD j xw:=getD_set_ne xw<|Zju u;rw[this];simp[u]
   have hs:=ZbW x (H _ i o a w x l (λj Y=>by
    obtain⟨R,D,T,rfl⟩:=Gs Y;exact g R D T) B)
   refine wpOp_mono (λO w' F=>K _ O w' ZgZ ?_ (by rw[p];exact F)) hs;rw[p];have:=Z04 (n:=ops.size) (L:=λi=>listed.getD i xw) k l;omega
 have G:(λi=>(Array.replicate ops.size xw).getD i xw)=λ_=>xw:=by
  funext i;simp only[ZhM,Array.getElem?_replicate];split<;>rfl
 refine A _ _ C _ Z1 ?_ (by rw[G];exact S);exact Zif (ZkR _ _) Z1
end
def Qv(a:Act)(l:List<|Nat×Value):Act:= {a with tmps:=l.foldl (λt p=>t.setIfInBounds p.1 p.2) a.tmps}
def Cb(ops:Zl):Bool:=(List.range ops.size).all λi=>match ops[i]? with|some o=>(Ui o).all λe=>decide (e<i)|none=>xk
def Z7K{ops:Zl}(h:Cb ops=xk):∀(i:Nat) (o:Oper),ops[i]?=J o->∀e∈Ui o,e<i:=by
 intro i o a e d;unfold Cb at h;rw[ZhV]at h;have:=h i (by simpa using(ZhN.1 a).1);rw[a]at this;simp only[ZhV,Zid]at this;exact this e d
def Tq(a:Act)(d:Zc)(v:Z5):Act:=Qv a (d.map λs=>(s,v s))
def Xf(v:Z5)(s:Nat)(x:Zb):Nat->Value:=λt=>if t=s then x else v t
def Rz(v:Z5)(s:Nat)(x:Zb):Xf v s x s=x:=ZhS rfl
def S3(v:Z5){s t:Nat}(x:Zb)(h:t≠s):Xf v s x t=v t:=ZhP h
def OJ{P:Z6}{ops:Zl}{Q:Zh}{id:Nat}{d:Act}{w0:Z3}(g:Zc)(C:(Nat->Bool)->(Nat->Value)->World->Prop)
  (t:P.follows .mixedOrders=xk) (f:Cb ops=xk) (l:∃v,d=Tq d g v/\C (λ_=>xw) v {w0 with drawn:=w0.drawn+1})
  (k:∀(L:ZgG) (i:Nat) (o:Oper) (v:Z5) (w:Z3),ops[i]?=J o->L i=xw->(∀j∈Ui o,L j=xk)->C L v w->
   wpList P ops (QN (λa w=>∃v,a=Tq d g v/\C (add L i) v w) Q) [o] (Tq d g v) w)
  (p:∀(L:ZgG) (v:Z5) (w:Z3),(∀i,i<ops.size->L i=xk)->C L v w->Q .normal (Tq d g v) w):(Code.region id ops xk).wp P Q d w0:=by
 refine Z9l t (Z7K f) (λL a w=>∃v,a=Tq d g v/\C L v w) l ?_ ?_;rintro L i o _ w u q r ⟨v,rfl,h⟩;exact k L i o v w u q r h;rintro L _ w n ⟨v,rfl,h⟩;exact p L v w n h
def zK(L:ZgG)(i:Nat):add L i i=xk:=by simp[add]
def WL{L:ZgG}{i j:Nat}(h:j≠i):add L i j=L j:=by simp[add,h]
end
section
def JP{v:Z5}{s:Nat}{x:Zb}(h:v s=x):Xf v s x=v:=by
 funext t;unfold Xf;by_cases e:t=s;rw[ZhS e,e,h];rw[ZhP e]
def UI(h:Hp)(i:Nat):List Int:=if i=9 then h.H else if i=12 then h.aa else h.E
def Uk(h:Hp)(y:Z5):Array Value:=#[.int .u64 h.base,.int .i64 h.cap,.int .i64<|1-h.to,.bool xw,.int .i64 0,.slice U 0 0,.slice U 0 0,y 9,y 12,y 15]
def Tc(bh:Nat)(h:Hp)(src:Z5):Nat->Value
 |0=>.pointer<|J ⟨bh,0,U⟩
 |1=>.int .u64 h.base
 |2=>.pointer<|J ⟨bh,1,U⟩
 |3=>.int .i64 h.cap
 |4=>.pointer<|J ⟨bh,2,U⟩
 |5=>.int .i64 h.to
 |6=>.int .i64<|1-h.to
 |7=>.pointer<|J ⟨bh,5,U⟩
 |8=>src 0
 |10=>.pointer<|J ⟨bh,6,U⟩
 |11=>src 1
 |13=>.pointer<|J ⟨bh,9,U⟩
 |14=>src 4
 |_=>xy
def Wb(i:Nat):Prop:=i<15/\i≠9/\i≠12
def Xz(i:Nat):Prop:=i=9\/i=12\/i=15
def V9(W0 W:Z3)(L:ZgG)(v:Z5)(b:Nat):Prop:=xz (xj W0)<=b/\b<xz (xj W)/\(L 17=xk->v 4≠.pointer (J ⟨b,0,U⟩))
structure FlC (W0:World) (bh:Nat) (h:Hp) (src:Nat->Value) (L:Nat->Bool) (v:Nat->Value) (W:World):Prop where
 b:Below (xz<|xj W0) W0 W
 eq:∀i,Wb i->L i=xk->v (16+i)=Tc bh h src i
 rd:∀i,Xz i->L i=xk->Rd W (V9 W0 W L v) (.sl<|(UI h i).map vu) (v<|16+i)
 agg:L 16=xk->∃y,v 32=.agg (Uk h y)/\∀i,Xz i->Rd W (V9 W0 W L v) (.sl<|(UI h i).map vu) (y i)
 new:L 17=xk->∃c,v 4=.pointer (J ⟨c,0,U⟩)/\xz (xj W0)<=c/\c<xz (xj W)/\(L 18=xw->W.heap[c]?=J (.cells ZL 30 (0,0)))
 put:L 18=xk->∃c y,v 4=.pointer (J ⟨c,0,U⟩)/\xz (xj W0)<=c/\W.heap[c]?=J (.cells (Uk h y) 30 (0,0))/\∀i,Xz i->Rd W (V9 W0 W L v) (.sl<|(UI h i).map vu) (y i)
 c18:L 18=xk->L 17=xk
section
variable {W0 W W':Z3}{bh:Nat}{h:Hp}{src:Z5}{L:ZgG}{v:Z5}
def FlC.step(C:FlC W0 bh h src L v W){i s:Nat}(O:i<17)(M:s=16+i){x:Zb}(q:Below (xz<|xj W) W W')(H:Wb i->x=Tc bh h src i)
  (K:Xz i->Rd W' (λb=>xz (xj W)<=b/\b<xz (xj W')) (.sl<|(UI h i).map vu) x) (G:i=16->∃y,x=.agg (Uk h y)/\∀j,Xz j->Rd W (V9 W0 W L v) (.sl<|(UI h j).map vu) (y j)):FlC W0 bh h src (add L i) (Xf v s x) W':=by
 subst M;have o:add L i 18=L 18:=WL Z0;have k:add L i 17=L 17:=WL Z0;have v4:Xf v (16+i) x 4=v 4:=S3 v x Z0;have B:∀b,V9 W0 W L v b->b<xz (xj W)/\V9 W0 W' (add L i) (Xf v (16+i) x) b:=λb d=>by
  obtain⟨D,A,F⟩:=d;refine⟨A,D,ZhO A q.size,?_⟩;rw[k,v4];exact F
 have t:∀ {u:V} {z:Zb},Rd W (V9 W0 W L v) u z->Rd W' (V9 W0 W' (add L i)<|Xf v (16+i) x) u z:=λN=>N.keep (λb d=>q.block b (B b d).1) λb d=>(B b d).2;refine⟨C.b.trans<|q.mono C.b.size,λj f a=> ?_,λj f a=> ?_,λa=> ?_,λa=> ?_,λa=> ?_,λa=> ?_⟩;by_cases e:j=i;subst e;rw[Rz];exact H f;rw[WL e]at a;rw[S3 v x Z0];exact C.eq j f a;by_cases e:j=i;subst e;rw[Rz];refine(K f).mono λb d=> ?_;refine⟨Zif C.b.size d.1,d.2,λl=> ?_⟩;rw[k]at l;rw[v4];obtain⟨c,g,_,p,_⟩:=C.new l;rw[g];intro r;cases r;omega;rw[WL e]at a;rw[S3 v x Z0];exact t<|C.rd j f a;by_cases e:i=16;subst e;obtain⟨y,g,n⟩:=G rfl;exact⟨y,by rw[<-g];exact Rz _ _ _,λj f=>t<|n j f⟩;rw[WL<|Zju e]at a;obtain⟨y,g,n⟩:=C.agg a;exact⟨y,by rw[S3 v x Z0];exact g,λj f=>t<|n j f⟩;rw[k]at a;obtain⟨c,g,n,p,r⟩:=C.new a;refine⟨c,by rw[v4];exact g,n,ZhO p q.size,λw=> ?_⟩;rw[o]at w;exact(q.block c p).trans (r w);rw[o]at a;obtain⟨c,y,g,n,p,r⟩:=C.put a;exact⟨c,y,by rw[v4];exact g,n,(q.block c<|Y1 p).trans p,λj f=>t<|r j f⟩;rw[o]at a;rw[k];exact C.c18 a
def FlC.pure(C:FlC W0 bh h src L v W){i s:Nat}(a:Wb i)(g:s=16+i){x:Zb}(f:x=Tc bh h src i):FlC W0 bh h src (add L i) (Xf v s x) W:=
 C.step (by unfold Wb at a;omega) g (ZhY _ _) (λ_=>f) (λd=>by unfold Wb at a;unfold Xz at d;omega) (λe=>by unfold Wb at a;omega)
def FlC.call(C:FlC W0 bh h src L v W){i s:Nat}(a:Xz i)(j:s=16+i){x:Zb}(f:Below (xz<|xj W) W W')(g:Rd W' (λb=>xz (xj W)<=b/\b<xz (xj W')) (.sl<|(UI h i).map vu) x):FlC W0 bh h src (add L i) (Xf v s x) W':=
 C.step (by unfold Xz at a;omega) j f (λd=>by unfold Wb at d;unfold Xz at a;omega) (λ_=>g) (λe=>by unfold Xz at a;omega)
def FlC.built(C:FlC W0 bh h src L v W)(k:L 9=xk)(f:L 12=xk)(g:L 15=xk):FlC W0 bh h src (add L 16) (Xf v 32<|.agg (Uk h λi=>v<|16+i)) W:=
 C.step Z0 rfl (ZhY _ _) (λa=>by unfold Wb at a;omega) (λa=>by unfold Xz at a;omega) λ_=>⟨_,rfl,λj d=>C.rd j d (by unfold Xz at d;obtain rfl|rfl|rfl:=d<;>assumption)⟩
def FlC.alloc(C:FlC W0 bh h src L v W)(g:L 17=xw):FlC W0 bh h src (add L 17) (Xf v 4<|.pointer<|J ⟨xz<|xj W,0,U⟩)<|W.alloc<|.cells ZL 30:=by
 have k:L 18=xw:=by
  cases e:L 18 with
  |false=>rfl
  |true=>have:=C.c18 e;rw[g]at this;cases this
 have o:Below (xz<|xj W) W<|W.alloc<|.cells ZL 30:=(ZhY _ _).alloc (ZhL _) _;have p:xz (xj<|W.alloc<|.cells ZL 30)=xz (xj W)+1:=Z1;have n:∀b,V9 W0 W L v b->b<xz (xj W)/\V9 W0 (W.alloc<|.cells ZL 30) (add L 17) (Xf v 4<|.pointer<|J ⟨xz<|xj W,0,U⟩) b:=λb d=>by
  obtain⟨w,x,A⟩:=d;refine⟨x,w,Z0,λ_=> ?_⟩;rw[Rz];intro e;cases e;omega
 have q:∀ {u:V} {z:Zb},Rd W (V9 W0 W L v) u z->Rd (W.alloc<|.cells ZL 30) (V9 W0 (W.alloc<|.cells ZL 30) (add L 17)<|Xf v 4<|.pointer<|J ⟨xz<|xj W,0,U⟩) u z:=λp=>p.keep (λb d=>o.block b (n b d).1) λb d=>(n b d).2;refine⟨C.b.trans<|o.mono C.b.size,λj f a=> ?_,λj f a=> ?_,λa=> ?_,λa=> ?_,λa=> ?_,λa=> ?_⟩;have l:j<15:=f.1;rw[WL Z0]at a;rw[S3 _ _ Z0];exact C.eq j f a;have l:j<17:=by unfold Xz at f;omega
 rw[WL Z0]at a;rw[S3 _ _ Z0];exact q<|C.rd j f a;rw[WL Z0]at a;obtain⟨y,r,t⟩:=C.agg a;exact⟨y,by rw[S3 _ _ Z0];exact r,λj f=>q<|t j f⟩;exact⟨xz<|xj W,Rz _ _ _,C.b.size,Z0,λ_=>Zi7 W _⟩;rw[WL Z0,k]at a;cases a;exact zK _ _
def FlC.store(C:FlC W0 bh h src L v W){c:Nat}(hc:v 4=.pointer (J ⟨c,0,U⟩)){y:Z5}(N:v 32=.agg (Uk h y))(g:L 17=xk)(Xk:L 16=xk)(R:L 18=xw)(B:W.heap[c]?=J (.cells ZL 30 (0,0)))
  (H:∀b,b≠c->W'.heap[b]?=W.heap[b]?) (S:xz (xj W')=xz (xj W)) (M:W'.heap[c]?=J (.cells (Uk h y) 30 (0,0))) (K:Below (xz<|xj W0) W W'):FlC W0 bh h src (add L 18) v W':=by
 have k:add L 18 17=L 17:=WL Z0;have x:∀b,V9 W0 W L v b->b≠c/\V9 W0 W' (add L 18) v b:=λb a=>by
  obtain⟨G,Q,w⟩:=a;refine⟨λe=> ?_,G,Z0,by rw[k];exact w⟩;subst e;exact w g hc
 have q:∀ {u:V} {z:Zb},Rd W (V9 W0 W L v) u z->Rd W' (V9 W0 W' (add L 18) v) u z:=λB=>B.keep (λb a=>H b (x b a).1) λb a=>(x b a).2;obtain⟨O,l,n,P,_⟩:=C.new g;rw[hc]at l;cases l;refine⟨C.b.trans K,λj d f=> ?_,λj d f=> ?_,λf=> ?_,λf=> ?_,λf=> ?_,λf=>by rw[k];exact g⟩;have o:j<15:=d.1;rw[WL Z0]at f;exact C.eq j d f;have o:j<17:=by unfold Xz at d;omega
 rw[WL Z0]at f;exact q<|C.rd j d f;obtain⟨y,l,n⟩:=C.agg Xk;exact⟨y,l,λj d=>q<|n j d⟩;refine⟨c,hc,n,Z0,λt=> ?_⟩;rw[zK]at t;cases t;obtain⟨D,r,F⟩:=C.agg Xk;rw[N]at r;have p:∀i,Xz i->D i=y i:=λi A=>by
  have e:Uk h y=Uk h D:=by injection r
  unfold Uk at e;unfold Xz at A;simp at e;obtain rfl|rfl|rfl:=A;exact e.1.symm;exact e.2.1.symm;exact e.2.2.symm
 exact⟨c,y,hc,n,M,λj d=>by rw[<-p j d];exact q<|F j d⟩
end
end
end Vm
end
