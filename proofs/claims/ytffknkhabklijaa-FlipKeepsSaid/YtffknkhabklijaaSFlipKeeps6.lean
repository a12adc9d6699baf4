import Derived.Lib.AppendZerosOnto
import Derived.Laws.CopyOwn
import Derived.LoopNIn
import Derived.LoopIn
import Derived.Shelf.RegionOpen
import Derived.RecoverIn
import Derived.Maps.OwnIn
import Derived.Test.YtffknkhabklijaaSFlipKeeps5
set_option linter.unusedSimpArgs false
set_option linter.unusedVariables false
set_option linter.defProp false
open Option renaming some→xk,none→xw
open Bool renaming true→xy,false→xh
open List renaming length→P
open Array renaming size→U
open Go.World renaming heap→R
open List renaming length→xq
open Array renaming size→xz
open Go.World renaming heap→xj
set_option maxHeartbeats 4000000
set_option maxRecDepth 100000
theorem ZcW{p:Prop}(h:p:=by rw[cell_of_row _ _ _ _ _ _ F];rfl):p:=h
theorem Zd4{p:Prop}(h:p:=by rw[cell_of_row _ _ _ _ _ _ y];rfl):p:=h
theorem Zd2{p:Prop}(h:p:=by rw[cell_of_row _ _ _ _ _ _ O];rfl):p:=h
theorem Zdv{p:Prop}(h:p:=by rw[cell_of_row _ _ _ _ _ _ d.out.2.1];rfl):p:=h
theorem Zdp{p:Prop}(h:p:=by have:=d.out.size;simp at this;omega):p:=h
theorem ZcT{p:Prop}(h:p:=by have:=heap_alloc_new (w.alloc (.cells #[.int .i64 0,.int .i64 0,.int .i64 0,.bool xh,.int .u64 0] 59)) (.cells #[.int .i64 a,.int .i64 0,.int .i64 0,.bool xh,.int .u64 0] 59);simp_all):p:=h
theorem Zdh{p:Prop}(h:p:=by rw[cell_of_row _ _ _ _ _ _ n];rfl):p:=h
theorem Zdg{p:Prop}(h:p:=by rw[cell_of_row _ _ _ _ _ _ h];rfl):p:=h
theorem Zdi{p:Prop}(h:p:=by rw[cell_of_row _ _ _ _ _ _ u];rfl):p:=h
theorem Zde{p:Prop}(h:p:=by have:=f.c2;rw[A.out.1,A.out.2.1,A.out.2.2.1,A.out.2.2.2]at this;grind [cell_of_row]):p:=h
theorem ZcQ{p:Prop}(h:p:=by decide+kernel):p:=h
theorem ZdC{p:Prop}(h:p:=by obtain⟨y,_,rfl⟩:=List.mem_map.1 d;rfl):p:=h
def Zen:=@Go.RowKit.Below.heap_setCell
def ZdX:=@Go.Lib.hid
def Zfw:=@Go.RowKit.Below.setCell
def ZeP:=@Go.bodyPost_ret
def Zid:=@Nat.mul_one
def Zgv:=@List.take_left
def ZgB:=@Array.ext
def Zhp:=@eq_false
def Zfq:=@List.length_nil
def Zfl:=@Go.World.cell?_alloc_lt
def Zgr:=@Array.replicate_succ
def Zgs:=@Array.replicate_zero
def ZgP:=@List.push_toArray
def Zgz:=@List.append_toArray
def Zhk:=@Go.callsIn_wide
def Zh0:=@Go.grownBy_setCell'
def Zgn:=@List.all_eq_false
def ZfM:=@List.flatMap_append
def ZfZ:=@List.mem_append_right
def ZfO:=@List.mem_map_of_mem
def ZhO:=@List.filter_eq_nil_iff
def Zig:=@List.sum_cons
def ZeQ:=@List.getElem?_take_of_lt
def ZhG:=@List.drop_append
def ZgJ:=@Nat.add_sub_cancel_left
def Zhn:=@List.mem_replicate
def Zhy:=@List.flatMap_cons
section
namespace Vm
open Go Go.Proofs Go.RowKit
def Zu(h:Hp)(j:Nat):List Int:=if j=0 then h.low else if j=1 then h.high else if j=2 then h.old else if j=3 then h.far else h.roots
structure OwSt (w:World) (b:Nat) (el:Nat->Option Obj) (T:TypeId) (hd src:Nat->Value) (L:Nat->List Int) (k:Nat) (xs:Nat->Value) (wr:World):Prop where
 below:Below (U (R w)) w wr
 new:U (R w)<=b
 blk:wr.heap[b]?=xk (.cells #[hd 0,hd 1,hd 2,hd 3,hd 4,xs 0,xs 1,xs 2,xs 3,src 4] T (0,0))
 elder:∀c,U (R w)<=c->c<b->wr.heap[c]?=el c
 rest:∀j,k<=j->xs j=src j
 own:∀j,j<k->wr.ownsRow (U (R w)) 24 1 (xs j) (P (L j)) (YQ .u64 (L j))
 newer:∀j,j<k->∀c,(xs j).ownBlock=xk c->b<c
 apart:∀i j,i<j->j<k->∀c,(xs i).ownBlock=xk c->(xs j).ownBlock≠xk c
abbrev Z8:=Nat->Value
def OwSt.next{w wr w1 o:Z3}{b:Nat}{z:Nat->Option Obj}{T:Z9}{g l:Z8}{L:Nat->List Int}{k:Nat}{xs:Z8}(h:OwSt w b z T g l L k xs wr)(H:k<4)
  (p:Below (U (R wr)) wr w1) (q:w1.grownBy o xw) {v:Z7} (I:o.ownsRow (U (R w)) 24 1 v (P (L k)) (YQ .u64 (L k))) (D:∀c,v.ownBlock=xk c->U (R w1)<=c):
  OwSt w b z T g l L (k+1) (λj=>if j=k then v else xs j) (o.setCell ⟨b,5+k,xw⟩ v):=by
 have r:b<U (R wr):=YC h.blk;have F:=p.size;have y:=h.below.size;have G:=q.size;have f:∀c,c<U (R wr)->c≠b->(o.setCell ⟨b,5+k,xw⟩ v).heap[c]?=wr.heap[c]? :=λc d x=>by
  rw[Zen _ _ _ _ x,q.block c Z0 Z1,p.block c d]
 have C:o.heap[b]?=xk (.cells #[g 0,g 1,g 2,g 3,g 4,xs 0,xs 1,xs 2,xs 3,l 4] T (0,0)):=by
  rw[q.block b Z0 Z1,p.block b r,h.blk]
 refine⟨((h.below.trans (p.mono y)).grown q Z0 Z1).setCell h.new _,h.new,?_,?_,?_,?_,?_,?_⟩;have:k=0\/k=1\/k=2\/k=3:=Z0;obtain rfl|rfl|rfl|rfl:=this<;>simp[World.setCell,ZeF,C];intro c A B;rw[f c Z0 Z0];exact h.elder c A B;intro j u;rw[if_neg Z0];exact h.rest j Z0;intro j u;by_cases a:j=k;subst a;rw[if_pos rfl];grind [WJ,Below.heap_setCell];rw[if_neg a];have n:=h.own j Z0;exact WJ n λc d=>f c (n.lt c d).2 (by have:=h.newer j Z0 c d;omega);intro j u c d;by_cases a:j=k;grind;rw[if_neg a]at d;exact h.newer j Z0 c d;intro i j t u c d;rw[if_neg Z0]at d;by_cases a:j=k;rw[if_pos a];intro e;have:=D c e;have:=((h.own i Z0).lt c d).2;omega;rw[if_neg a];exact h.apart i j t Z0 c d
structure HOwn (B:Nat) (w:World) (h:Hp) (x:Nat->Value):Prop where
 own:∀j,j<5->w.ownsRow B 24 1 (x j) (P (Zu h j)) (YQ .u64 (Zu h j))
 apart:∀i j,i<j->j<5->∀c,(x i).ownBlock=xk c->(x j).ownBlock≠xk c
def ZN(h:Hp)(x:Z8):Value:=.agg #[.int .u64 h.base,.int .i64 h.cap,.int .i64 h.to,.bool h.cycle,.int .i64 h.scan,x 0,x 1,x 2,x 3,x 4]
def Pe(w:Z3)(h:Hp)(e:Ending)(w':Z3):Prop:=∃x,e=.returned (ZN h x)/\Below (U (R w)) w w'/\HOwn (U (R w)) w' h x
def QW{h:Hp}(a:h.ok)(k:Nat):P (Zu h k)<=1000000:=by
 unfold Zu;split;exact a.low;split;exact a.high;split;exact a.old;split;exact a.far;exact a.roots
def Z4S(w:Z3)(b k:Nat)(d:k<4):
  Calls Sol.prog 92 #[.pointer (xk ⟨b,0,xw⟩),.int .i64 ((k+1:Nat):Int)] w λe a=>e=.returned (.pointer (xk ⟨b,5+k,xw⟩))/\Below (U (R w)) w a:=by
 have:=Z4R w b (k+1) Z0;grind
def Lu(w:Z3)(G:Z5)(hG:∀b,G b->b<xz (xj w))(h:Hp)(hh:h.ok)(g:Z8)(hs:∀j,j<5->Rd w G (.sl ((Zu h j).map vu)) (g j)):
  Calls Sol.prog 66 #[ZN h g] w (Pe w h):=by
 have HS:=ZdX hs;have HH:=ZdX hh;clear hs hh;unfold ZN;go_enter Sol.func66,Try.ntmps66;go_wp2;go_loopw [4] (λi wr=>∃(k:Nat) (xs:Z8),i=.int .i64 ((k+1:Nat):Int)/\k<=4/\Hid (OwSt w (xz (xj w)+2) (λc=>if c=(xz (xj w)) then xk (.cells #[.int .u64 h.base,.int .i64 h.cap,.int .i64 h.to,.bool h.cycle,.int .i64 h.scan,g 0,g 1,g 2,g 3,g 4] 37 (0,0))else xk (.cells #[.int .u64 0,.int .i64 0,.int .i64 0,.bool xh,.int .i64 0,.slice xw 0 0,.slice xw 0 0,.slice xw 0 0,.slice xw 0 0,.slice xw 0 0] 37 (0,0))) 151 (λj=>if j=0 then .int .u64 h.base else if j=1 then .int .i64 h.cap else if j=2 then .int .i64 h.to else if j=3 then .bool h.cycle else .int .i64 h.scan) g (Zu h) k xs wr))
  (λi _=>5- (intOf i).toNat)
 case atStart=>
  refine⟨0,g,rfl,Z0,ZdX ⟨(((Zeh _ _).alloc (ZdU _) _).alloc Z1 _).alloc ZcP _,Z0,?_,?_,λ_ _=>rfl,λj hj=>Z0,λj hj=>Z0,λi j _ hj=>Z0⟩⟩;have:=Zej ((w.alloc (.cells #[.int .u64 h.base,.int .i64 h.cap,.int .i64 h.to,.bool h.cycle,.int .i64 h.scan,g 0,g 1,g 2,g 3,g 4] 37)).alloc (.cells #[.int .u64 0,.int .i64 0,.int .i64 0,.bool xh,.int .i64 0,.slice xw 0 0,.slice xw 0 0,.slice xw 0 0,.slice xw 0 0,.slice xw 0 0] 37)) (.cells #[.int .u64 h.base,.int .i64 h.cap,.int .i64 h.to,.bool h.cycle,.int .i64 h.scan,g 0,g 1,g 2,g 3,g 4] 151);simp_all;intro c Y W;have:c=(xz (xj w))\/c=xz (xj w)+1:=Z0;obtain rfl|rfl:=this;rw[if_pos rfl,ZdY _ _ _ ZcP,ZdY _ _ _ Z1];exact Zej _ _;rw[if_neg Z0,ZdY _ _ _ Z1];have:=Zej (w.alloc (.cells #[.int .u64 h.base,.int .i64 h.cap,.int .i64 h.to,.bool h.cycle,.int .i64 h.scan,g 0,g 1,g 2,g 3,g 4] 37)) (.cells #[.int .u64 0,.int .i64 0,.int .i64 0,.bool xh,.int .i64 0,.slice xw 0 0,.slice xw 0 0,.slice xw 0 0,.slice xw 0 0,.slice xw 0 0] 37);simp_all
 case round=>
  obtain⟨k,xs,rfl,hk,I⟩:=hrel;have a2:=YC I.out.blk;by_cases a0:k<4
  .have a9:((k+1:Nat):Int)<=4:=Z0;have c0:wr.cell? ⟨xz (xj w)+2,5+k,xw⟩=xk (g k):=by
    rw[Ze6 _ _ _ _ _ _ I.out.blk];have h3:k=0\/k=1\/k=2\/k=3:=Z0;have hr:=I.out.rest k (ZdU _);obtain rfl|rfl|rfl|rfl:=h3<;>simp[<-hr]
   have f0:wr.frozen? ⟨xz (xj w)+2,5+k,xw⟩=xh:=Yi I.out.blk;have a8:xq (Zu h k)<=1000000:=QW HH.out k;go_wp2_with (first
    |(go_at_call 92;refine(Z4S _ _ _ a0).mono ?_;rintro e w1 ⟨rfl,M⟩;have c1:=(M.cell (p:=⟨xz (xj w)+2,5+k,xw⟩) (by exact a2)).trans c0;have f1:=(M.frozen (p:=⟨xz (xj w)+2,5+k,xw⟩) (by exact a2)).trans f0;have R:=ZdX ((HS.out k (by omega)).keep (w':=w1) (λb hb=>by rw[M.block b (by have:=hG b hb;omega)];exact I.out.below.block b (hG b hb)) (λ_ h=>h));have a3:=ZdX M;have b2:=M.size;have a1:=I.out.below.size;clear M)
    |(at_builtin;refine Oy (B:=xz (xj w)) (n:=0) (xs:=[]) rfl _ _ _ rfl Sol.underlying35 JN rfl rfl (Zff _ _ _ _) (by omega) (l:=(Zu h k).map vu) (Gy:=G) R.out (by grind [Rx,qD]) (by grind [Y5]) ?_))
   intro v6 o K f q L Q;simp only[Rx]at f;have T:xq K=xq (Zu h k):=by have:=f.1;simp_all
   rw[B8 Q T]at f;try simp only[Zem,ZeC,ZeR]at f
   obtain⟨a,d,U⟩:=Yn f;subst U;have J:(Value.slice xw 0 0).ownBlock=xw:=rfl;rw[J]at q;have c6:=(q.cell_far ⟨xz (xj w)+2,5+k,xw⟩ ZcN Z1).trans c1;have f6:=(q.frozen_far ⟨xz (xj w)+2,5+k,xw⟩ ZcN Z1).trans f1;have H:∀c,(Value.slice a (xq (Zu h k)) d).ownBlock=xk c->xz (xj w1)<=c:=by
    intro c N;obtain e|⟨_,e⟩:=L;simp_all;exact(e.lt c N).1
   have HN:=ZdX (I.out.next a0 a3.out q f H);clear f q L Q H;go_wp2;go_roundw
   case rel=>grind
   case measure=>grind [intOf]
  .have a7:k=4:=Z0;subst a7;have b0:=I.out.elder (xz (xj w)) Z0 Z0;rw[if_pos rfl]at b0;have b1:=I.out.elder (xz (xj w)+1) Z0 Z0;rw[if_neg Z0]at b1;have c9:wr.cell? ⟨xz (xj w),9,xw⟩=xk (g 4):=by rw[Ze6 _ _ _ _ _ _ b0];rfl
   have a8:xq (Zu h 4)<=1000000:=QW HH.out 4;have R:=ZdX ((HS.out 4 Z0).keep (w':=wr) (λb hb=>I.out.below.block b (hG b hb)) (λ_ h=>h));have a1:=I.out.below.size;go_wp2_with (at_builtin;refine Oy (B:=xz (xj w)) (n:=0) (xs:=[]) rfl _ _ _ rfl Sol.underlying35 JN rfl rfl (Zff _ _ _ _) Z0 (l:=(Zu h 4).map vu) (Gy:=G) R.out (by grind [Rx,qD]) (by grind [Y5]) ?_)
   intro v6 o K f q L Q;simp only[Rx]at f;have T:xq K=xq (Zu h 4):=by have:=f.1;simp_all
   rw[B8 Q T]at f;try simp only[Zem,ZeC,ZeR]at f
   obtain⟨a,d,U⟩:=Yn f;subst U;have J:(Value.slice xw 0 0).ownBlock=xw:=rfl;rw[J]at q;obtain⟨r,z,e0⟩:=Yn (I.out.own 0 Z0);obtain⟨t,A,e1⟩:=Yn (I.out.own 1 Z0);obtain⟨u,C,e2⟩:=Yn (I.out.own 2 Z0);obtain⟨x,D,e3⟩:=Yn (I.out.own 3 Z0);have blk:wr.heap[xz (xj w)+2]?=xk (.cells #[.int .u64 h.base,.int .i64 h.cap,.int .i64 h.to,.bool h.cycle,.int .i64 h.scan,.slice r (xq (Zu h 0)) z,.slice t (xq (Zu h 1)) A,.slice u (xq (Zu h 2)) C,.slice x (xq (Zu h 3)) D,g 4] 151 (0,0)):=by rw[<-e0,<-e1,<-e2,<-e3];exact I.out.blk
   have P:=(q.block (xz (xj w)+2) Z0 Z1).trans blk;have X:=(q.block (xz (xj w)+1) Z0 Z1).trans b1;have x9:o.cell? ⟨xz (xj w)+2,9,xw⟩=xk (g 4):=by rw[Ze6 _ _ _ _ _ _ P];rfl
   have y9:o.frozen? ⟨xz (xj w)+2,9,xw⟩=xh:=Yi P;have F:(o.setCell ⟨xz (xj w)+2,9,xw⟩ (Value.slice a (xq (Zu h 4)) d)).heap[xz (xj w)+2]?=xk (.cells #[.int .u64 h.base,.int .i64 h.cap,.int .i64 h.to,.bool h.cycle,.int .i64 h.scan,.slice r (xq (Zu h 0)) z,.slice t (xq (Zu h 1)) A,.slice u (xq (Zu h 2)) C,.slice x (xq (Zu h 3)) D,.slice a (xq (Zu h 4)) d] 151 (0,0)):=by
    simp[World.setCell,ZeF,P]
   have y:(o.setCell ⟨xz (xj w)+2,9,xw⟩ (Value.slice a (xq (Zu h 4)) d)).heap[xz (xj w)+1]?=xk (.cells #[.int .u64 0,.int .i64 0,.int .i64 0,.bool xh,.int .i64 0,.slice xw 0 0,.slice xw 0 0,.slice xw 0 0,.slice xw 0 0,.slice xw 0 0] 37 (0,0)):=by
    rw[Zen _ _ _ _ Z1];exact X
   have l0:(o.setCell ⟨xz (xj w)+2,9,xw⟩ (Value.slice a (xq (Zu h 4)) d)).cell? ⟨xz (xj w)+2,0,xw⟩=xk (Value.int IntKind.u64 h.base):=ZcW;have l1:(o.setCell ⟨xz (xj w)+2,9,xw⟩ (Value.slice a (xq (Zu h 4)) d)).cell? ⟨xz (xj w)+2,1,xw⟩=xk (Value.int IntKind.i64 h.cap):=ZcW;have l2:(o.setCell ⟨xz (xj w)+2,9,xw⟩ (Value.slice a (xq (Zu h 4)) d)).cell? ⟨xz (xj w)+2,2,xw⟩=xk (Value.int IntKind.i64 h.to):=ZcW;have l3:(o.setCell ⟨xz (xj w)+2,9,xw⟩ (Value.slice a (xq (Zu h 4)) d)).cell? ⟨xz (xj w)+2,3,xw⟩=xk (Value.bool h.cycle):=ZcW;have l4:(o.setCell ⟨xz (xj w)+2,9,xw⟩ (Value.slice a (xq (Zu h 4)) d)).cell? ⟨xz (xj w)+2,4,xw⟩=xk (Value.int IntKind.i64 h.scan):=ZcW;have l5:(o.setCell ⟨xz (xj w)+2,9,xw⟩ (Value.slice a (xq (Zu h 4)) d)).cell? ⟨xz (xj w)+2,5,xw⟩=xk (Value.slice r (xq (Zu h 0)) z):=ZcW;have l6:(o.setCell ⟨xz (xj w)+2,9,xw⟩ (Value.slice a (xq (Zu h 4)) d)).cell? ⟨xz (xj w)+2,6,xw⟩=xk (Value.slice t (xq (Zu h 1)) A):=ZcW;have l7:(o.setCell ⟨xz (xj w)+2,9,xw⟩ (Value.slice a (xq (Zu h 4)) d)).cell? ⟨xz (xj w)+2,7,xw⟩=xk (Value.slice u (xq (Zu h 2)) C):=ZcW;have l8:(o.setCell ⟨xz (xj w)+2,9,xw⟩ (Value.slice a (xq (Zu h 4)) d)).cell? ⟨xz (xj w)+2,8,xw⟩=xk (Value.slice x (xq (Zu h 3)) D):=ZcW;have l9:(o.setCell ⟨xz (xj w)+2,9,xw⟩ (Value.slice a (xq (Zu h 4)) d)).cell? ⟨xz (xj w)+2,9,xw⟩=xk (Value.slice a (xq (Zu h 4)) d):=ZcW;have m0:(o.setCell ⟨xz (xj w)+2,9,xw⟩ (Value.slice a (xq (Zu h 4)) d)).cell? ⟨xz (xj w)+1,0,xw⟩=xk (Value.int IntKind.u64 0):=Zd4;have r0:(o.setCell ⟨xz (xj w)+2,9,xw⟩ (Value.slice a (xq (Zu h 4)) d)).frozen? ⟨xz (xj w)+1,0,xw⟩=xh:=Yi y;have m1:(o.setCell ⟨xz (xj w)+2,9,xw⟩ (Value.slice a (xq (Zu h 4)) d)).cell? ⟨xz (xj w)+1,1,xw⟩=xk (Value.int IntKind.i64 0):=Zd4;have r1:(o.setCell ⟨xz (xj w)+2,9,xw⟩ (Value.slice a (xq (Zu h 4)) d)).frozen? ⟨xz (xj w)+1,1,xw⟩=xh:=Yi y;have m2:(o.setCell ⟨xz (xj w)+2,9,xw⟩ (Value.slice a (xq (Zu h 4)) d)).cell? ⟨xz (xj w)+1,2,xw⟩=xk (Value.int IntKind.i64 0):=Zd4;have r2:(o.setCell ⟨xz (xj w)+2,9,xw⟩ (Value.slice a (xq (Zu h 4)) d)).frozen? ⟨xz (xj w)+1,2,xw⟩=xh:=Yi y;have m3:(o.setCell ⟨xz (xj w)+2,9,xw⟩ (Value.slice a (xq (Zu h 4)) d)).cell? ⟨xz (xj w)+1,3,xw⟩=xk (Value.bool xh):=Zd4;have r3:(o.setCell ⟨xz (xj w)+2,9,xw⟩ (Value.slice a (xq (Zu h 4)) d)).frozen? ⟨xz (xj w)+1,3,xw⟩=xh:=Yi y;have m4:(o.setCell ⟨xz (xj w)+2,9,xw⟩ (Value.slice a (xq (Zu h 4)) d)).cell? ⟨xz (xj w)+1,4,xw⟩=xk (Value.int IntKind.i64 0):=Zd4;have r4:(o.setCell ⟨xz (xj w)+2,9,xw⟩ (Value.slice a (xq (Zu h 4)) d)).frozen? ⟨xz (xj w)+1,4,xw⟩=xh:=Yi y;have m5:(o.setCell ⟨xz (xj w)+2,9,xw⟩ (Value.slice a (xq (Zu h 4)) d)).cell? ⟨xz (xj w)+1,5,xw⟩=xk (Value.slice xw 0 0):=Zd4;have r5:(o.setCell ⟨xz (xj w)+2,9,xw⟩ (Value.slice a (xq (Zu h 4)) d)).frozen? ⟨xz (xj w)+1,5,xw⟩=xh:=Yi y;have m6:(o.setCell ⟨xz (xj w)+2,9,xw⟩ (Value.slice a (xq (Zu h 4)) d)).cell? ⟨xz (xj w)+1,6,xw⟩=xk (Value.slice xw 0 0):=Zd4;have r6:(o.setCell ⟨xz (xj w)+2,9,xw⟩ (Value.slice a (xq (Zu h 4)) d)).frozen? ⟨xz (xj w)+1,6,xw⟩=xh:=Yi y;have m7:(o.setCell ⟨xz (xj w)+2,9,xw⟩ (Value.slice a (xq (Zu h 4)) d)).cell? ⟨xz (xj w)+1,7,xw⟩=xk (Value.slice xw 0 0):=Zd4;have r7:(o.setCell ⟨xz (xj w)+2,9,xw⟩ (Value.slice a (xq (Zu h 4)) d)).frozen? ⟨xz (xj w)+1,7,xw⟩=xh:=Yi y;have m8:(o.setCell ⟨xz (xj w)+2,9,xw⟩ (Value.slice a (xq (Zu h 4)) d)).cell? ⟨xz (xj w)+1,8,xw⟩=xk (Value.slice xw 0 0):=Zd4;have r8:(o.setCell ⟨xz (xj w)+2,9,xw⟩ (Value.slice a (xq (Zu h 4)) d)).frozen? ⟨xz (xj w)+1,8,xw⟩=xh:=Yi y;have m9:(o.setCell ⟨xz (xj w)+2,9,xw⟩ (Value.slice a (xq (Zu h 4)) d)).cell? ⟨xz (xj w)+1,9,xw⟩=xk (Value.slice xw 0 0):=Zd4;have r9:(o.setCell ⟨xz (xj w)+2,9,xw⟩ (Value.slice a (xq (Zu h 4)) d)).frozen? ⟨xz (xj w)+1,9,xw⟩=xh:=Yi y;have O:(((((((((((o.setCell ⟨xz (xj w)+2,9,xw⟩ (Value.slice a (xq (Zu h 4)) d)).setCell ⟨xz (xj w)+1,0,xw⟩ (Value.int IntKind.u64 h.base)).setCell ⟨xz (xj w)+1,1,xw⟩ (Value.int IntKind.i64 h.cap)).setCell ⟨xz (xj w)+1,2,xw⟩ (Value.int IntKind.i64 h.to)).setCell ⟨xz (xj w)+1,3,xw⟩ (Value.bool h.cycle)).setCell ⟨xz (xj w)+1,4,xw⟩ (Value.int IntKind.i64 h.scan)).setCell ⟨xz (xj w)+1,5,xw⟩ (Value.slice r (xq (Zu h 0)) z)).setCell ⟨xz (xj w)+1,6,xw⟩ (Value.slice t (xq (Zu h 1)) A)).setCell ⟨xz (xj w)+1,7,xw⟩ (Value.slice u (xq (Zu h 2)) C)).setCell ⟨xz (xj w)+1,8,xw⟩ (Value.slice x (xq (Zu h 3)) D)).setCell ⟨xz (xj w)+1,9,xw⟩ (Value.slice a (xq (Zu h 4)) d)).heap[xz (xj w)+1]?=xk (.cells #[.int .u64 h.base,.int .i64 h.cap,.int .i64 h.to,.bool h.cycle,.int .i64 h.scan,.slice r (xq (Zu h 0)) z,.slice t (xq (Zu h 1)) A,.slice u (xq (Zu h 2)) C,.slice x (xq (Zu h 3)) D,.slice a (xq (Zu h 4)) d] 37 (0,0)):=by
    simp[World.setCell,ZeF,X]
   have z0:(((((((((((o.setCell ⟨xz (xj w)+2,9,xw⟩ (Value.slice a (xq (Zu h 4)) d)).setCell ⟨xz (xj w)+1,0,xw⟩ (Value.int IntKind.u64 h.base)).setCell ⟨xz (xj w)+1,1,xw⟩ (Value.int IntKind.i64 h.cap)).setCell ⟨xz (xj w)+1,2,xw⟩ (Value.int IntKind.i64 h.to)).setCell ⟨xz (xj w)+1,3,xw⟩ (Value.bool h.cycle)).setCell ⟨xz (xj w)+1,4,xw⟩ (Value.int IntKind.i64 h.scan)).setCell ⟨xz (xj w)+1,5,xw⟩ (Value.slice r (xq (Zu h 0)) z)).setCell ⟨xz (xj w)+1,6,xw⟩ (Value.slice t (xq (Zu h 1)) A)).setCell ⟨xz (xj w)+1,7,xw⟩ (Value.slice u (xq (Zu h 2)) C)).setCell ⟨xz (xj w)+1,8,xw⟩ (Value.slice x (xq (Zu h 3)) D)).setCell ⟨xz (xj w)+1,9,xw⟩ (Value.slice a (xq (Zu h 4)) d)).cell? ⟨xz (xj w)+1,0,xw⟩=xk (Value.int IntKind.u64 h.base):=Zd2;have z1:(((((((((((o.setCell ⟨xz (xj w)+2,9,xw⟩ (Value.slice a (xq (Zu h 4)) d)).setCell ⟨xz (xj w)+1,0,xw⟩ (Value.int IntKind.u64 h.base)).setCell ⟨xz (xj w)+1,1,xw⟩ (Value.int IntKind.i64 h.cap)).setCell ⟨xz (xj w)+1,2,xw⟩ (Value.int IntKind.i64 h.to)).setCell ⟨xz (xj w)+1,3,xw⟩ (Value.bool h.cycle)).setCell ⟨xz (xj w)+1,4,xw⟩ (Value.int IntKind.i64 h.scan)).setCell ⟨xz (xj w)+1,5,xw⟩ (Value.slice r (xq (Zu h 0)) z)).setCell ⟨xz (xj w)+1,6,xw⟩ (Value.slice t (xq (Zu h 1)) A)).setCell ⟨xz (xj w)+1,7,xw⟩ (Value.slice u (xq (Zu h 2)) C)).setCell ⟨xz (xj w)+1,8,xw⟩ (Value.slice x (xq (Zu h 3)) D)).setCell ⟨xz (xj w)+1,9,xw⟩ (Value.slice a (xq (Zu h 4)) d)).cell? ⟨xz (xj w)+1,1,xw⟩=xk (Value.int IntKind.i64 h.cap):=Zd2;have z2:(((((((((((o.setCell ⟨xz (xj w)+2,9,xw⟩ (Value.slice a (xq (Zu h 4)) d)).setCell ⟨xz (xj w)+1,0,xw⟩ (Value.int IntKind.u64 h.base)).setCell ⟨xz (xj w)+1,1,xw⟩ (Value.int IntKind.i64 h.cap)).setCell ⟨xz (xj w)+1,2,xw⟩ (Value.int IntKind.i64 h.to)).setCell ⟨xz (xj w)+1,3,xw⟩ (Value.bool h.cycle)).setCell ⟨xz (xj w)+1,4,xw⟩ (Value.int IntKind.i64 h.scan)).setCell ⟨xz (xj w)+1,5,xw⟩ (Value.slice r (xq (Zu h 0)) z)).setCell ⟨xz (xj w)+1,6,xw⟩ (Value.slice t (xq (Zu h 1)) A)).setCell ⟨xz (xj w)+1,7,xw⟩ (Value.slice u (xq (Zu h 2)) C)).setCell ⟨xz (xj w)+1,8,xw⟩ (Value.slice x (xq (Zu h 3)) D)).setCell ⟨xz (xj w)+1,9,xw⟩ (Value.slice a (xq (Zu h 4)) d)).cell? ⟨xz (xj w)+1,2,xw⟩=xk (Value.int IntKind.i64 h.to):=Zd2;have z3:(((((((((((o.setCell ⟨xz (xj w)+2,9,xw⟩ (Value.slice a (xq (Zu h 4)) d)).setCell ⟨xz (xj w)+1,0,xw⟩ (Value.int IntKind.u64 h.base)).setCell ⟨xz (xj w)+1,1,xw⟩ (Value.int IntKind.i64 h.cap)).setCell ⟨xz (xj w)+1,2,xw⟩ (Value.int IntKind.i64 h.to)).setCell ⟨xz (xj w)+1,3,xw⟩ (Value.bool h.cycle)).setCell ⟨xz (xj w)+1,4,xw⟩ (Value.int IntKind.i64 h.scan)).setCell ⟨xz (xj w)+1,5,xw⟩ (Value.slice r (xq (Zu h 0)) z)).setCell ⟨xz (xj w)+1,6,xw⟩ (Value.slice t (xq (Zu h 1)) A)).setCell ⟨xz (xj w)+1,7,xw⟩ (Value.slice u (xq (Zu h 2)) C)).setCell ⟨xz (xj w)+1,8,xw⟩ (Value.slice x (xq (Zu h 3)) D)).setCell ⟨xz (xj w)+1,9,xw⟩ (Value.slice a (xq (Zu h 4)) d)).cell? ⟨xz (xj w)+1,3,xw⟩=xk (Value.bool h.cycle):=Zd2;have z4:(((((((((((o.setCell ⟨xz (xj w)+2,9,xw⟩ (Value.slice a (xq (Zu h 4)) d)).setCell ⟨xz (xj w)+1,0,xw⟩ (Value.int IntKind.u64 h.base)).setCell ⟨xz (xj w)+1,1,xw⟩ (Value.int IntKind.i64 h.cap)).setCell ⟨xz (xj w)+1,2,xw⟩ (Value.int IntKind.i64 h.to)).setCell ⟨xz (xj w)+1,3,xw⟩ (Value.bool h.cycle)).setCell ⟨xz (xj w)+1,4,xw⟩ (Value.int IntKind.i64 h.scan)).setCell ⟨xz (xj w)+1,5,xw⟩ (Value.slice r (xq (Zu h 0)) z)).setCell ⟨xz (xj w)+1,6,xw⟩ (Value.slice t (xq (Zu h 1)) A)).setCell ⟨xz (xj w)+1,7,xw⟩ (Value.slice u (xq (Zu h 2)) C)).setCell ⟨xz (xj w)+1,8,xw⟩ (Value.slice x (xq (Zu h 3)) D)).setCell ⟨xz (xj w)+1,9,xw⟩ (Value.slice a (xq (Zu h 4)) d)).cell? ⟨xz (xj w)+1,4,xw⟩=xk (Value.int IntKind.i64 h.scan):=Zd2;have z5:(((((((((((o.setCell ⟨xz (xj w)+2,9,xw⟩ (Value.slice a (xq (Zu h 4)) d)).setCell ⟨xz (xj w)+1,0,xw⟩ (Value.int IntKind.u64 h.base)).setCell ⟨xz (xj w)+1,1,xw⟩ (Value.int IntKind.i64 h.cap)).setCell ⟨xz (xj w)+1,2,xw⟩ (Value.int IntKind.i64 h.to)).setCell ⟨xz (xj w)+1,3,xw⟩ (Value.bool h.cycle)).setCell ⟨xz (xj w)+1,4,xw⟩ (Value.int IntKind.i64 h.scan)).setCell ⟨xz (xj w)+1,5,xw⟩ (Value.slice r (xq (Zu h 0)) z)).setCell ⟨xz (xj w)+1,6,xw⟩ (Value.slice t (xq (Zu h 1)) A)).setCell ⟨xz (xj w)+1,7,xw⟩ (Value.slice u (xq (Zu h 2)) C)).setCell ⟨xz (xj w)+1,8,xw⟩ (Value.slice x (xq (Zu h 3)) D)).setCell ⟨xz (xj w)+1,9,xw⟩ (Value.slice a (xq (Zu h 4)) d)).cell? ⟨xz (xj w)+1,5,xw⟩=xk (Value.slice r (xq (Zu h 0)) z):=Zd2;have z6:(((((((((((o.setCell ⟨xz (xj w)+2,9,xw⟩ (Value.slice a (xq (Zu h 4)) d)).setCell ⟨xz (xj w)+1,0,xw⟩ (Value.int IntKind.u64 h.base)).setCell ⟨xz (xj w)+1,1,xw⟩ (Value.int IntKind.i64 h.cap)).setCell ⟨xz (xj w)+1,2,xw⟩ (Value.int IntKind.i64 h.to)).setCell ⟨xz (xj w)+1,3,xw⟩ (Value.bool h.cycle)).setCell ⟨xz (xj w)+1,4,xw⟩ (Value.int IntKind.i64 h.scan)).setCell ⟨xz (xj w)+1,5,xw⟩ (Value.slice r (xq (Zu h 0)) z)).setCell ⟨xz (xj w)+1,6,xw⟩ (Value.slice t (xq (Zu h 1)) A)).setCell ⟨xz (xj w)+1,7,xw⟩ (Value.slice u (xq (Zu h 2)) C)).setCell ⟨xz (xj w)+1,8,xw⟩ (Value.slice x (xq (Zu h 3)) D)).setCell ⟨xz (xj w)+1,9,xw⟩ (Value.slice a (xq (Zu h 4)) d)).cell? ⟨xz (xj w)+1,6,xw⟩=xk (Value.slice t (xq (Zu h 1)) A):=Zd2;have z7:(((((((((((o.setCell ⟨xz (xj w)+2,9,xw⟩ (Value.slice a (xq (Zu h 4)) d)).setCell ⟨xz (xj w)+1,0,xw⟩ (Value.int IntKind.u64 h.base)).setCell ⟨xz (xj w)+1,1,xw⟩ (Value.int IntKind.i64 h.cap)).setCell ⟨xz (xj w)+1,2,xw⟩ (Value.int IntKind.i64 h.to)).setCell ⟨xz (xj w)+1,3,xw⟩ (Value.bool h.cycle)).setCell ⟨xz (xj w)+1,4,xw⟩ (Value.int IntKind.i64 h.scan)).setCell ⟨xz (xj w)+1,5,xw⟩ (Value.slice r (xq (Zu h 0)) z)).setCell ⟨xz (xj w)+1,6,xw⟩ (Value.slice t (xq (Zu h 1)) A)).setCell ⟨xz (xj w)+1,7,xw⟩ (Value.slice u (xq (Zu h 2)) C)).setCell ⟨xz (xj w)+1,8,xw⟩ (Value.slice x (xq (Zu h 3)) D)).setCell ⟨xz (xj w)+1,9,xw⟩ (Value.slice a (xq (Zu h 4)) d)).cell? ⟨xz (xj w)+1,7,xw⟩=xk (Value.slice u (xq (Zu h 2)) C):=Zd2;have z8:(((((((((((o.setCell ⟨xz (xj w)+2,9,xw⟩ (Value.slice a (xq (Zu h 4)) d)).setCell ⟨xz (xj w)+1,0,xw⟩ (Value.int IntKind.u64 h.base)).setCell ⟨xz (xj w)+1,1,xw⟩ (Value.int IntKind.i64 h.cap)).setCell ⟨xz (xj w)+1,2,xw⟩ (Value.int IntKind.i64 h.to)).setCell ⟨xz (xj w)+1,3,xw⟩ (Value.bool h.cycle)).setCell ⟨xz (xj w)+1,4,xw⟩ (Value.int IntKind.i64 h.scan)).setCell ⟨xz (xj w)+1,5,xw⟩ (Value.slice r (xq (Zu h 0)) z)).setCell ⟨xz (xj w)+1,6,xw⟩ (Value.slice t (xq (Zu h 1)) A)).setCell ⟨xz (xj w)+1,7,xw⟩ (Value.slice u (xq (Zu h 2)) C)).setCell ⟨xz (xj w)+1,8,xw⟩ (Value.slice x (xq (Zu h 3)) D)).setCell ⟨xz (xj w)+1,9,xw⟩ (Value.slice a (xq (Zu h 4)) d)).cell? ⟨xz (xj w)+1,8,xw⟩=xk (Value.slice x (xq (Zu h 3)) D):=Zd2;have z9:(((((((((((o.setCell ⟨xz (xj w)+2,9,xw⟩ (Value.slice a (xq (Zu h 4)) d)).setCell ⟨xz (xj w)+1,0,xw⟩ (Value.int IntKind.u64 h.base)).setCell ⟨xz (xj w)+1,1,xw⟩ (Value.int IntKind.i64 h.cap)).setCell ⟨xz (xj w)+1,2,xw⟩ (Value.int IntKind.i64 h.to)).setCell ⟨xz (xj w)+1,3,xw⟩ (Value.bool h.cycle)).setCell ⟨xz (xj w)+1,4,xw⟩ (Value.int IntKind.i64 h.scan)).setCell ⟨xz (xj w)+1,5,xw⟩ (Value.slice r (xq (Zu h 0)) z)).setCell ⟨xz (xj w)+1,6,xw⟩ (Value.slice t (xq (Zu h 1)) A)).setCell ⟨xz (xj w)+1,7,xw⟩ (Value.slice u (xq (Zu h 2)) C)).setCell ⟨xz (xj w)+1,8,xw⟩ (Value.slice x (xq (Zu h 3)) D)).setCell ⟨xz (xj w)+1,9,xw⟩ (Value.slice a (xq (Zu h 4)) d)).cell? ⟨xz (xj w)+1,9,xw⟩=xk (Value.slice a (xq (Zu h 4)) d):=Zd2;have S:∀c,c≠xz (xj w)+1->c≠xz (xj w)+2->(((((((((((o.setCell ⟨xz (xj w)+2,9,xw⟩ (Value.slice a (xq (Zu h 4)) d)).setCell ⟨xz (xj w)+1,0,xw⟩ (Value.int IntKind.u64 h.base)).setCell ⟨xz (xj w)+1,1,xw⟩ (Value.int IntKind.i64 h.cap)).setCell ⟨xz (xj w)+1,2,xw⟩ (Value.int IntKind.i64 h.to)).setCell ⟨xz (xj w)+1,3,xw⟩ (Value.bool h.cycle)).setCell ⟨xz (xj w)+1,4,xw⟩ (Value.int IntKind.i64 h.scan)).setCell ⟨xz (xj w)+1,5,xw⟩ (Value.slice r (xq (Zu h 0)) z)).setCell ⟨xz (xj w)+1,6,xw⟩ (Value.slice t (xq (Zu h 1)) A)).setCell ⟨xz (xj w)+1,7,xw⟩ (Value.slice u (xq (Zu h 2)) C)).setCell ⟨xz (xj w)+1,8,xw⟩ (Value.slice x (xq (Zu h 3)) D)).setCell ⟨xz (xj w)+1,9,xw⟩ (Value.slice a (xq (Zu h 4)) d)).heap[c]?=o.heap[c]? :=λc Y W=>by
    simp[World.setCell,ZeF,Y,W,ZfF Y,ZfF W]
   have a4:Below (xz (xj w)) w (((((((((((o.setCell ⟨xz (xj w)+2,9,xw⟩ (Value.slice a (xq (Zu h 4)) d)).setCell ⟨xz (xj w)+1,0,xw⟩ (Value.int IntKind.u64 h.base)).setCell ⟨xz (xj w)+1,1,xw⟩ (Value.int IntKind.i64 h.cap)).setCell ⟨xz (xj w)+1,2,xw⟩ (Value.int IntKind.i64 h.to)).setCell ⟨xz (xj w)+1,3,xw⟩ (Value.bool h.cycle)).setCell ⟨xz (xj w)+1,4,xw⟩ (Value.int IntKind.i64 h.scan)).setCell ⟨xz (xj w)+1,5,xw⟩ (Value.slice r (xq (Zu h 0)) z)).setCell ⟨xz (xj w)+1,6,xw⟩ (Value.slice t (xq (Zu h 1)) A)).setCell ⟨xz (xj w)+1,7,xw⟩ (Value.slice u (xq (Zu h 2)) C)).setCell ⟨xz (xj w)+1,8,xw⟩ (Value.slice x (xq (Zu h 3)) D)).setCell ⟨xz (xj w)+1,9,xw⟩ (Value.slice a (xq (Zu h 4)) d)):=by
    refine Zfw (Zfw (Zfw (Zfw (Zfw (Zfw (Zfw (Zfw (Zfw (Zfw (Zfw (I.out.below.grown q a1 Z1) Z1 _) Z1 _) Z1 _) Z1 _) Z1 _) Z1 _) Z1 _) Z1 _) Z1 _) Z1 _) Z1 _
   have H:∀c,(Value.slice a (xq (Zu h 4)) d).ownBlock=xk c->xz (xj wr)<=c:=by
    intro c N;obtain e|⟨_,e⟩:=L;simp_all;exact(e.lt c N).1
   have hF:HOwn (xz (xj w)) (((((((((((o.setCell ⟨xz (xj w)+2,9,xw⟩ (Value.slice a (xq (Zu h 4)) d)).setCell ⟨xz (xj w)+1,0,xw⟩ (Value.int IntKind.u64 h.base)).setCell ⟨xz (xj w)+1,1,xw⟩ (Value.int IntKind.i64 h.cap)).setCell ⟨xz (xj w)+1,2,xw⟩ (Value.int IntKind.i64 h.to)).setCell ⟨xz (xj w)+1,3,xw⟩ (Value.bool h.cycle)).setCell ⟨xz (xj w)+1,4,xw⟩ (Value.int IntKind.i64 h.scan)).setCell ⟨xz (xj w)+1,5,xw⟩ (Value.slice r (xq (Zu h 0)) z)).setCell ⟨xz (xj w)+1,6,xw⟩ (Value.slice t (xq (Zu h 1)) A)).setCell ⟨xz (xj w)+1,7,xw⟩ (Value.slice u (xq (Zu h 2)) C)).setCell ⟨xz (xj w)+1,8,xw⟩ (Value.slice x (xq (Zu h 3)) D)).setCell ⟨xz (xj w)+1,9,xw⟩ (Value.slice a (xq (Zu h 4)) d)) h (λj=>if j=4 then Value.slice a (xq (Zu h 4)) d else xs j):=by
    refine⟨λj hj=> ?_,λi j a5 hj c N=> ?_⟩;by_cases Z:j=4;subst Z;rw[if_pos rfl];exact WJ f λc N=>S c (by have:=H c N;omega) (by have:=H c N;omega);rw[if_neg Z];have ho:=I.out.own j Z0;exact WJ ho λc N=>by
     have Y:=I.out.newer j Z0 c N;have W:=(ho.lt c N).2;rw[S c Z0 Z0,q.block c W Z1]
    rw[if_neg Z0]at N;by_cases Z:j=4;subst Z;rw[if_pos rfl];intro e;have Y:=H c e;have W:=((I.out.own i Z0).lt c N).2;omega;rw[if_neg Z];exact I.out.apart i j a5 Z0 c N
   clear S H O;go_wp2;refine ZeP (v:=.agg #[.int .u64 h.base,.int .i64 h.cap,.int .i64 h.to,.bool h.cycle,.int .i64 h.scan,.slice r (xq (Zu h 0)) z,.slice t (xq (Zu h 1)) A,.slice u (xq (Zu h 2)) C,.slice x (xq (Zu h 3)) D,.slice a (xq (Zu h 4)) d]) (by simp[results,Try.results66,go_sem,z0,z1,z2,z3,z4,z5,z6,z7,z8,z9]) rfl ⟨_,?_,a4,hF⟩;simp_all[ZN]
def Z8A(z:Z7)(n:Nat):(Builtin.zeroCells #[z] n).toList=List.replicate n z:=by
 simp[Builtin.zeroCells];apply List.ext_getElem;simp;intro i a d;simp[Nat.mod_one]
def Z6A{P:Z4}{w:Z3}{T tI ty e:Z9}{i:TypeInfo}{z:Z7}{Y:Zm}(W:P.underlying T=xk (.slice e))(O:P.underlying tI=xk (.int Y))(U:P.info? e=xk i)(X:i.zero=xk z)
  (H:z.cells=#[z]) (h1:z.oneCell'=xy) (hs:i.size=1) (K:i.bytes=8) {B n m:Nat} {v:Z7} {xs:Zl} (l:w.ownsRow B e 1 v n xs) (Z:B<=xz (xj w)) (hm:0<m) (a1:n+m<=4294967296) (L:Zm):
  ∃M I,(Builtin.append_ #[T,tI] ty #[v,.int L m]).run P w=.ok M I/\I.ownsRow B e 1 M (n+m) (xs++List.replicate m z)/\w.grownBy I v.ownBlock/\
   (M.ownBlock=v.ownBlock\/(w.grownBy I xw/\I.ownsRow (xz (xj w)) e 1 M (n+m) (xs++List.replicate m z))):=by
 have q:xq xs=n:=by have:=l.1;simpa using this
 have f:xq (xs++List.replicate m z)=n+m:=by simp[q]
 have N:n+m<=maxLen:=by simp only[maxLen];omega
 have d:∀(a:Nat),a<n+m->∀(row:Option Nat) (J:Za),J=xs.toArray++(List.replicate m z).toArray->
   (w.drew.alloc (.cells (J++Builtin.zeroCells z.cells (grownCap w (n+m) a e- (n+m))) e)).ownsRow (xz (xj w)) e 1
    (.slice (xk ⟨xz (xj w),0,xw⟩) (n+m) (grownCap w (n+m) a e)) (n+m) (xs++List.replicate m z)/\
   w.grownBy (w.drew.alloc (.cells (J++Builtin.zeroCells z.cells (grownCap w (n+m) a e- (n+m))) e)) row:=by
  rintro a ho row J rfl;have S:=grownCap_ge w (n+m) a e;have x:grownCap w (n+m) a e<=maxLen:=grownCap_le_maxLen w (n+m) a e N;refine⟨⟨Zd9,.inr ⟨xz (xj w),_,_,rfl,ZdU _,Zej w.drew _,S,x,?_,?_⟩⟩,⟨rfl,rfl,rfl,Z1,λk F _=>ZdY w.drew _ k F⟩⟩;simp only[Array.size_append,Zfg,size_zeroCells,H];simp[q];omega;simp only[Array.toList_append,ZeH];rw[<-ZeH,Zid,<-f];exact Zgv
 have A:Builtin.zeroCells z.cells m=(List.replicate m z).toArray:=by
  rw[H];apply Array.ext';rw[Z8A]
 obtain⟨rfl,rfl⟩|⟨g,cap,h,rfl,Q,hg,a2,x,a0,p⟩:=l.2;have hx:xs=[]:=ZeI q;subst hx;have t:=Lib.run_append_nil_zeros (P:=P) w T tI ty e i z L Y W O U X m hm Z0 Z0 (by rw[K];omega);have D:=d 0 Z0;simp only[ZeC,ZeR,Array.empty_append]at D t⊢;rw[A]at t;obtain⟨g1,g2⟩:=D xw _ rfl;exact⟨_,_,t,yD g1 Z,g2,.inr ⟨g2,g1⟩⟩;by_cases o:n+m<=cap;have r:n+xq (List.replicate m z)<=h.size:=ZcP;have y:=run_storeCells_at P g n e (List.replicate m z) 0 h w hg (by simpa using r) (by intro v hv;rw[Zhx hv];exact h1);simp only[Zg2]at y;have hw:IntKind.i64.wrap (m:Int)=m:=by rw[IntKind.wrap_i64];omega
 have G:¬((m:Int)<0):=Z0;have C:¬(281474976710656< (m:Int)*8):=Z0;have F:m≠0:=Z0;have t:(Builtin.append_ #[T,tI] ty #[.slice (xk ⟨g,0,xw⟩) n cap,.int L m]).run P w=
   .ok (.slice (xk ⟨g,0,xw⟩) (n+m) cap) (w.setRow g (h.toList.take n++List.replicate m z++h.toList.drop (n+xq (List.replicate m z))).toArray):=by
  simp[Builtin.append_,ZeB W,ZeB O,Go.sizeOf,typeInfo,zeroValue,U,X,asInt,asIntOf,hw,G,hs,K,C,F,o,A,Zfz];simp at y;rw[y];simp
 refine⟨_,_,t,⟨Zd9,.inr ⟨g,cap,_,rfl,Q,Zib w g h _ e _ hg,o,x,?_,?_⟩⟩,⟨rfl,rfl,rfl,Z1,λk _ F=>ZfI w g k _ (λe=>F (by simp[Value.ownBlock,e]))⟩,.inl rfl⟩;simp only[Zfg,ZeK,ZeZ,ZfG,Zgb];simp at r⊢;omega;rw[Zid]at p⊢;rw[p,<-f];exact Zgv;have holds:∀j u,xs[j]?=xk u->w.cell? ((⟨g,0,xw⟩:Addr).add j)=xk u:=l.cells (g:=g) rfl;have R:=run_firstCells_some (P:=P) w.drew i.size n ⟨g,0,xw⟩ n cap xs (by rw[hs,Zid];exact q) (by simpa using holds);have t:=Lib.run_append_grow_zeros (P:=P) w T tI ty e i z L Y W O U X (xk ⟨g,0,xw⟩) n cap xs R m hm Z0 Z0 Z0 (by rw[K];omega) (Zi8 Z0 (by rw[K];omega));rw[A]at t;obtain⟨g1,g2⟩:=d cap Z0 xw _ rfl;obtain⟨_,g3⟩:=d cap Z0 (Value.ownBlock (.slice (xk ⟨g,0,xw⟩) n cap)) _ rfl;exact⟨_,_,t,yD g1 Z,g3,.inr ⟨g2,g1⟩⟩
section
def Qz:V->Value
 |.int k n=>.int k n
 |.bool b=>.bool b
 |_=>undef
def Tf:V->Bool
 |.int _ _=>xy
 |.bool _=>xy
 |_=>xh
def SI:V->Value
 |.agg a=>.agg (a.map Qz).toArray
 |x=>Qz x
def Tg:V->Bool
 |.agg a=>a.all Tf
 |x=>Tf x
def jz:V->Value
 |.tup l=>.tuple (l.map SI).toArray
 |x=>SI x
def zi:V->Bool
 |.tup l=>l.all Tg
 |x=>Tg x
variable {w:Z3}{G:Z5}
def Z5I{x:V}(h:Tf x=xy):Rd w G x (Qz x):=by
 cases x<;>simp[Tf]at h;exact .int _ _;exact .bool _
def Z5J{x:V}(h:Tg x=xy):Rd w G x (SI x):=by
 cases x with
 |agg d=>
  simp only[Tg,ZdZ]at h;refine .agg _ _ Z1 (λc a=> ?_) λi c a=> ?_;have:=h c a;cases c<;>simp[Tf]at this<;>rfl;have f:=Z5I (w:=w) (G:=G) (h c (ZdW a));have:((d.map Qz).toArray).getD i undef=Qz c:=by
   obtain⟨g,rfl⟩:=ZdQ.1 a;simp[Array.getD,g]
  rw[this];exact f
 |int k n=>exact .int _ _
 |bool b=>exact .bool _
 |_=>simp[Tg,Tf]at h
def Z0G{x:V}{v:Z7}(h:Tf x=xy)(r:Rd w G x v):v=Qz x:=by
 cases x<;>simp[Tf]at h;cases r;rfl;cases r;rfl
def EN{x:V}{v:Z7}(h:Tg x=xy)(r:Rd w G x v):v=SI x:=by
 cases x with
 |agg a=>
  simp only[Tg,ZdZ]at h;cases r with
  |agg _ vs j _ l=>
   simp only[SI,Value.agg.injEq];apply ZgB;simpa using j;intro i f o;have d:i<P a:=Z0;have g:a[i]?=xk a[i]:=ZdO d;have:=Z0G (h _ (Ze5 d)) (l i _ g);simp[Array.getD,f]at this;simpa using this
 |int k n=>cases r;rfl
 |bool b=>cases r;rfl
 |_=>simp[Tg,Tf]at h
def EO{x:V}{v:Z7}(h:zi x=xy)(r:Rd w G x v):v=jz x:=by
 cases x with
 |tup a=>
  simp only[zi,ZdZ]at h;cases r with
  |tup _ vs j l=>
   simp only[jz,Value.tuple.injEq];apply ZgB;simpa using j;intro i f o;have d:i<P a:=Z0;have g:a[i]?=xk a[i]:=ZdO d;have:=EN (h _ (Ze5 d)) (l i _ g);simp[Array.getD,f]at this;simpa using this
 |agg a=>exact EN (x:=.agg a) h r
 |int k n=>cases r;rfl
 |bool b=>cases r;rfl
 |_=>simp[zi,Tg,Tf]at h
def TP{P:Z4}{f:Zp}{fr:Bool}{args:Zr}{r:V}(h:VC P f fr args r)(a:args.all Tg=xy)(k:zi r=xy)(w:Z3):
  Calls P f (args.map SI).toArray w λe g=>e=.returned (jz r)/\Below (U (R w)) w g:=by
 simp only[ZdZ]at a;refine ZgN (h.2 w (λ_=>False) _ Z1 Z1 ?_) ?_;intro i x n;obtain⟨d,rfl⟩:=ZdQ.1 n;have:((args.map SI).toArray).getD i undef=SI args[i]:=by simp[Array.getD,d]
 rw[this];exact Z5J (a _ (Ze5 d));rintro e g ⟨v,rfl,j,l⟩;exact⟨by rw[EO k l],j⟩
def Vu(l:Ly):Value:=.agg #[.int .u64 l.base,.int .i64 l.cap,.int .i64 l.to,.int .i64 l.low,.int .i64 l.high,.int .i64 l.old,.int .i64 l.far]
def Qe{l:Ly}(a:l.fits)(w:Z3):Calls Sol.prog 65 #[Vu l] w λe d=>e=.returned (.bool (ZI l))/\Below (U (R w)) w d:=
 TP (L4 a) rfl rfl w
def N1{l:Ly}(a:l.fits)(w:Z3):Calls Sol.prog 70 #[Vu l] w λe d=>e=.returned (.int .i64 (Xx l))/\Below (U (R w)) w d:=
 TP (Z6l a) rfl rfl w
def DM{l:Ly}(a:l.fits)(part at_:Int)(w:Z3):Calls Sol.prog 75 #[Vu l,.agg #[.int .i64 part,.int .i64 at_]] w λe d=>e=.returned (.tuple #[.int .u64 (Y4 l part at_).1,.int .i64 (Y4 l part at_).2])/\Below (U (R w)) w d:=
 TP (DN a) rfl rfl w
def ze{l:Ly}(f:l.fits){a:Int}(d:ZC a)(w:Z3):Calls Sol.prog 67 #[Vu l,.int .u64 a] w λe g=>e=.returned (.tuple #[.agg #[.int .i64 (Ye l a).1,.int .i64 (Ye l a).2.1],.int .i64 (Ye l a).2.2])/\Below (U (R w)) w g:=
 TP (Z13 f d) rfl rfl w
def VY{x:Int}(hx:ZC x)(w:Z3):Calls Sol.prog 44 #[.int .u64 x] w λe a=>e=.returned (.tuple #[.int .u64 (adr x).1,.int .i64 (adr x).2])/\Below (U (R w)) w a:=
 TP (Jz hx) rfl rfl w
def Z5q{x:Int}(hx:ZC x)(w:Z3):Calls Sol.prog 95 #[.int .u64 x] w λe a=>e=.returned (.tuple #[.int .u64 (XN x).1,.int .i64 (XN x).2])/\Below (U (R w)) w a:=
 TP (Z5s hx) rfl rfl w
def Ll{x:Int}(hx:ZC x)(w:Z3):Calls Sol.prog 69 #[.int .u64 x] w λe a=>e=.returned (.tuple #[.agg #[.int .i64 (ZS x).1,.int .i64 (ZS x).2.1],.int .i64 (ZS x).2.2])/\Below (U (R w)) w a:=
 TP (O2 hx) rfl rfl w
def TL{h:Hp}{x:Z8}(g:∀b,G b->b<U (R w))(d:∀j,j<5->Rd w G (.sl ((Zu h j).map vu)) (x j)):
  Calls Sol.prog 64 #[ZN h x] w λe f=>e=.returned (Vu (Zv h))/\Below (U (R w)) w f:=by
 refine ZgN ((Dx (h:=h)).2 w G _ g rfl ?_) ?_;intro i y a
 match i,a with
 |0,a=>
  cases a;refine .agg _ _ rfl (by simp[V.one]) ?_;intro i y a
  match i,a with
  |0,a=>cases a;exact .int _ _
  |1,a=>cases a;exact .int _ _
  |2,a=>cases a;exact .int _ _
  |3,a=>cases a;exact .bool _
  |4,a=>cases a;exact .int _ _
  |5,a=>cases a;exact d 0 Z0
  |6,a=>cases a;exact d 1 Z0
  |7,a=>cases a;exact d 2 Z0
  |8,a=>cases a;exact d 3 Z0
  |9,a=>cases a;exact d 4 Z0
 rintro e f ⟨v,rfl,k,l⟩;exact⟨by rw[EO ZdJ l];rfl,k⟩
end
end Vm
end
section
namespace Vm
open Go Go.Proofs Go.RowKit
def Z5m{x:Int}(hx:ZC x):VC Sol.prog 135 xh [vu x] (.bool (Uq x)):=by
 refine Y2 Sol.func135 follows Z2 Z0e rfl ?_;simp[ID];refine Zz (Jz hx) Z1 ?_;simp_all[Uq]
def Mo{x:Int}(hx:ZC x)(w:World):Calls Sol.prog 135 #[.int .u64 x] w λe a=>e=.returned (.bool (Uq x))/\Below (U (R w)) w a:=
 TP (Z5m hx) rfl rfl w
structure Words (w:World) (ws:List Int) (g o cap:Nat):Prop where
 at_:∀(i:Nat) (x:Int),ws[i]?=xk x->w.cell? ⟨g,o+i,xw⟩=xk (.int .u64 x)
 le:P ws<=cap
 cap:cap<=maxLen
 len:P ws<=1000000
 u64:∀x∈ws,ZC x
def Vi(e:Int):List PanicEntry:=[{v:=.iface 189 (.agg #[.int .i64 e]),recovered:=xh}]
def WH(o:Ob):Value:=.agg #[.int .i64 o.at_,.int .i64 o.size,.int .i64 o.ptrs,.bool o.gone,.int .u64 o.target]
def zy(ws:List Int)(o:Ob):Ending:=
 if(P ws:Int)<o.at_+1+o.size then .panicked (Vi 2)else if XQ ((ws.drop (o.at_.toNat+1)).take o.size.toNat) o.gone o.ptrs 0=xh then .panicked (Vi 3)else .returned (.tuple #[])
def Z1F(w:World)(ws:List Int)(g o cap:Nat)(C:Words w ws g o cap)(Y:g<xz (xj w))(t:Ob)(a:Nat)(L:t.at_=a)(A:a<xq ws)(B:Yz t.size t.ptrs=xy):
  Calls Sol.prog 134 #[.slice (xk ⟨g,o,xw⟩) (xq ws) cap,WH t] w λe w'=>e=zy ws t/\Below (xz (xj w)) w w':=by
 have hl:=C.len;have hc:=C.le;have hm:=C.cap;obtain⟨at_,size,ptrs,gone,target⟩:=t;simp only at L B;subst L;obtain⟨s1,s2,s3,s4⟩:=YM.1 B;obtain⟨m,rfl⟩:=Zea s1;have J:=ZdX C;have r:zy ws ⟨a,m,ptrs,gone,target⟩=if(xq ws:Int)<a+1+m then .panicked (Vi 2)else if XQ ((ws.drop (a+1)).take m) gone ptrs 0=xh then .panicked (Vi 3)else .returned (.tuple #[]):=rfl
 generalize zy ws ⟨a,m,ptrs,gone,target⟩=E at*;unfold WH;dsimp only;by_cases l:(xq ws:Int)<a+1+m
 .rw[if_pos l]at r;have u:=ZdX r;clear r;have Q:((xq ws- (a+1):Nat):Int)<m:=Z0;go_enter Sol.func134,Try.ntmps134;go_wp2;all_goals exact⟨rfl,u.out.symm,(Zeh _ _).alloc (ZdU _) _⟩
 .rw[if_neg l]at r;have u:=ZdX r;clear r;have N:(m:Int)<=((xq ws- (a+1):Nat):Int):=Z0;have O:m<=xq ws- (a+1):=Z0;have R:(xq ws- (a+1)<m)=False:=Zhp Z0;have X:m<=cap- (a+1):=Z0;have Z:m<=255:=Z0;clear C l;by_cases z:cap=a+1
  .have I:m=0:=Z0;subst I;subst z;go_enter Sol.func134,Try.ntmps134;go_wp2;go_loopw [26] (λi wr=>i=.int .i64 0/\Hid (Below (xz (xj w)) w wr)) (λi _=>0)
   case atStart=>exact⟨rfl,ZdX ((Zeh _ _).alloc (ZdU _) _)⟩
   case round=>
    obtain⟨rfl,T⟩:=hrel;go_wp2;go_end0
    exact⟨u.out.symm,T.out⟩
  .go_enter Sol.func134,Try.ntmps134;go_wp2;go_loopw [26] (λi wr=>∃k:Nat,i=.int .i64 k/\k<=m/\Hid (Below (xz (xj w)) w wr/\wr.heap[xz (xj w)]?=xk (.cells #[.int .i64 a,.int .i64 m,.int .i64 ptrs,.bool gone,.int .u64 target] 59 (0,0))/\
     XQ ((ws.drop (a+1)).take m) gone ptrs 0=XQ (((ws.drop (a+1)).take m).drop k) gone ptrs k)) (λi _=>m- (intOf i).toNat)
   case atStart=>exact⟨0,rfl,Z0,ZdX ⟨(Zeh _ _).alloc (ZdU _) _,Zej w _,rfl⟩⟩
   case round=>
    obtain⟨k,rfl,hk,d⟩:=hrel;by_cases A:k<m
    .obtain⟨x,D⟩:∃x,ws[a+1+k]?=xk x:=⟨_,ZdO Z0⟩;have S:ZC x:=J.out.u64 x (ZdW D);have K:((ws.drop (a+1)).take m)[k]?=xk x:=by
      rw[Zev,if_pos A,Zep];exact D
     have c0:wr.cell? ⟨g,o+(a+1)+k,xw⟩=xk (.int .u64 x):=by
      rw[Zf5];exact(d.out.1.cell (p:=⟨g,o+(a+1+k),xw⟩) Y).trans (J.out.at_ _ _ D)
     have c1:wr.cell? ⟨xz (xj w),1,xw⟩=xk (.int .i64 m):=Zdv;have c2:wr.cell? ⟨xz (xj w),2,xw⟩=xk (.int .i64 ptrs):=Zdv;have c3:wr.cell? ⟨xz (xj w),3,xw⟩=xk (.bool gone):=Zdv;have q:=Z7n (gone:=gone) (ptrs:=ptrs) K;have P:(k:Int)<m:=Z0;have G:=YC d.out.2.1;clear D K;have stop:XQ (((ws.drop (a+1)).take m).drop k) gone ptrs k=xh->E=.panicked (Vi 3):=λh=>by
      rw[u.out,d.out.2.2,h,if_pos rfl]
     cases gone
     .by_cases hp:(k:Int)<ptrs
      .cases H:Uq x
       .have f:=ZdX (stop ZcO);clear stop q;go_wp2_with (go_at_call 135;refine(Mo S _).mono ?_;rintro e w1 ⟨rfl,j⟩;have n:=ZdX j;clear j)
        exact⟨rfl,f.out.symm,d.out.1.trans (n.out.mono d.out.1.size)⟩
       .have y:=ZdX (q.trans (by simp[H]:_=XQ (((ws.drop (a+1)).take m).drop (k+1)) xh ptrs (k+1)));clear stop q;go_wp2_with (go_at_call 135;refine(Mo S _).mono ?_;rintro e w1 ⟨rfl,j⟩;have n:=ZdX j;clear j)
        go_wp2;go_roundw
        case rel=>
         exact⟨k+1,by go_num,Z0,ZdX ⟨d.out.1.trans (n.out.mono d.out.1.size),(n.out.block _ G).trans d.out.2.1,d.out.2.2.trans y.out⟩⟩
        case measure=>grind [intOf]
      .have y:=ZdX (q.trans (by simp[hp]:_=XQ (((ws.drop (a+1)).take m).drop (k+1)) xh ptrs (k+1)));clear stop q;go_wp2;go_roundw
       case rel=>exact⟨k+1,by go_num,Z0,ZdX ⟨d.out.1,d.out.2.1,d.out.2.2.trans y.out⟩⟩
       case measure=>grind [intOf]
     .by_cases U:x=0
      .subst U;have y:=ZdX (q.trans (by simp[Uq]:_=XQ (((ws.drop (a+1)).take m).drop (k+1)) xy ptrs (k+1)));clear stop q;go_wp2;go_roundw
       case rel=>exact⟨k+1,by go_num,Z0,ZdX ⟨d.out.1,d.out.2.1,d.out.2.2.trans y.out⟩⟩
       case measure=>grind [intOf]
      .have f:=ZdX (stop ZcO);clear stop q;go_wp2;exact⟨rfl,f.out.symm,d.out.1⟩
    .have:k=m:=Z0;subst this;have F:=d.out.2.2;have M:((ws.drop (a+1)).take k).drop k=[]:=ZfC ZcO;rw[M]at F;have f:=ZdX (u.out.trans (by rw[F];rfl:_=Ending.returned (.tuple #[])));clear F M;go_wp2;go_end0
     exact⟨f.out.symm,d.out.1⟩
end Vm
namespace Vm
open Go Go.Proofs Go.RowKit
def Z3V(w:World):Sem.run Sol.prog (binOp .neq 190 .nilFunc .nilFunc) w=.ok (.bool xh) w:=ZdJ
def B6(w:World)(f:FuncId)(vs:Array Value):Sem.run Sol.prog (binOp .neq 190 (.func (.func f) #[] vs) .nilFunc) w=.ok (.bool xy) w:=ZdJ
def qf{w:World}{b:Nat}{T:TypeId}{v0 v1 d f v4:Value}(h:w.heap[b]?=xk (.cells #[v0,v1,d,f,v4] T (0,0)))(O:Obj):
  ((w.alloc O).cell? ⟨b,0,xw⟩=xk v0/\(w.alloc O).cell? ⟨b,1,xw⟩=xk v1/\(w.alloc O).cell? ⟨b,2,xw⟩=xk d/\(w.alloc O).cell? ⟨b,3,xw⟩=xk f/\(w.alloc O).cell? ⟨b,4,xw⟩=xk v4)/\
  (w.alloc O).frozen? ⟨b,0,xw⟩=xh/\(w.alloc O).frozen? ⟨b,1,xw⟩=xh/\(w.alloc O).frozen? ⟨b,2,xw⟩=xh/\(w.alloc O).frozen? ⟨b,3,xw⟩=xh/\(w.alloc O).frozen? ⟨b,4,xw⟩=xh:=by
 have a:(w.alloc O).heap[b]?=xk (.cells #[v0,v1,d,f,v4] T (0,0)):=(ZdY _ _ _ (YC h)).trans h;refine⟨⟨?_,?_,?_,?_,?_⟩,Yi a,Yi a,Yi a,Yi a,Yi a⟩<;>(rw[Ze6 _ _ _ _ _ _ a];rfl)
def SD(a:Nat)(x:Int):Ending:=if(ZS x).2.2=0 then .returned (WH ⟨a,(ZS x).1,(ZS x).2.1,xh,0⟩)else .panicked (Vi 3)
def PW(w:World)(ws:List Int)(g o cap:Nat)(n:Words w ws g o cap)(J:g<xz (xj w))(a:Nat)(x:Int)(hx:ws[a]?=xk x):
  Calls Sol.prog 133 #[.slice (xk ⟨g,o,xw⟩) (xq ws) cap,.int .i64 a,.nilFunc] w λe L=>e=SD a x/\Below (xz (xj w)) w L:=by
 have T:=n.len;have S:=n.le;have U:=n.cap;have K:a<xq ws:=(ZdQ.1 hx).1;have A:(a:Int)<xq ws:=Z0;have q:ZC x:=n.u64 x (ZdW hx);have C:=n.at_ a x hx;have z:∀W,Below (xz (xj w)) w W->W.cell? ⟨g,o+a,xw⟩=xk (.int .u64 x):=λW I=>(I.cell (p:=⟨g,o+a,xw⟩) J).trans C;have l:SD a x=if(ZS x).2.2=0 then .returned (WH ⟨a,(ZS x).1,(ZS x).2.1,xh,0⟩)else .panicked (Vi 3):=rfl
 generalize SD a x=E at*;have y:=ZdX z;have B:=Z3V;clear n hx z;by_cases t:(ZS x).2.2=0
 .rw[if_pos t]at l;have r:=ZdX l;clear l;go_enter Sol.func133,Try.ntmps133;go_wp2_with (first
   |(go_at_call 44;refine(VY q _).mono ?_;rintro e w1 ⟨rfl,f⟩;have d:=ZdX f;have D:=y.out w1 (((((Zeh _ w).alloc (ZdU _) _).alloc (by simp) _).trans (f.mono (by simp;omega))));clear f)
   | (go_at_call 69;refine(Ll q _).mono ?_;rintro e w2 ⟨rfl,h⟩;have j:=ZdX h
      have H:=d.out.block;have r0:w2.heap[xz (xj w)]?=xk (.cells #[.int .i64 0,.int .i64 0,.int .i64 0,.bool xh,.int .u64 0] 59 (0,0)):=(h.block _ Zdp).trans ((d.out.block _ ZcP).trans ((ZdY _ _ _ Z1).trans (Zej w _)));have u:w2.heap[xz (xj w)+1]?=xk (.cells #[.int .i64 a,.int .i64 0,.int .i64 0,.bool xh,.int .u64 0] 59 (0,0)):=(h.block _ Zdp).trans ((d.out.block _ Z1).trans ZcT);obtain⟨⟨M,N,O,P,Q⟩,y0,y1,y2,y3,y4⟩:=qf r0 (.cells #[.int .i64 (ZS x).1,.int .i64 (ZS x).2.1] 52);obtain⟨⟨X,Y,p2,p3,p4⟩,Z,q1,q2,q3,q4⟩:=qf u (.cells #[.int .i64 (ZS x).1,.int .i64 (ZS x).2.1] 52);have R:=ZdX (And.intro r0 u);clear h H r0 u))
  refine ZeP (v:=WH ⟨a,(ZS x).1,(ZS x).2.1,xh,0⟩) ?_ rfl ⟨r.out.symm,?_⟩
  .simp[results,Try.results133,go_sem,WH,M,N,O,P,Q]
  have k:=(((Zeh _ w).alloc (ZdU _) (.cells #[.int .i64 0,.int .i64 0,.int .i64 0,.bool xh,.int .u64 0] 59)).alloc Z1 (.cells #[.int .i64 a,.int .i64 0,.int .i64 0,.bool xh,.int .u64 0] 59)).trans (d.out.mono ZcP);have G:=(k.trans (j.out.mono (by have:=k.size;omega))).alloc (by have:=k.size;have:=j.out.size;omega) (.cells #[.int .i64 (ZS x).1,.int .i64 (ZS x).2.1] 52);exact((((((G.setCell (p:=⟨xz (xj w)+1,1,xw⟩) Z1 _).setCell (p:=⟨xz (xj w)+1,2,xw⟩) Z1 _).setCell (p:=⟨xz (xj w),0,xw⟩) (ZdU _) _).setCell (p:=⟨xz (xj w),1,xw⟩) (ZdU _) _).setCell (p:=⟨xz (xj w),2,xw⟩) (ZdU _) _).setCell (p:=⟨xz (xj w),3,xw⟩) (ZdU _) _).setCell (p:=⟨xz (xj w),4,xw⟩) (ZdU _) _
 .rw[if_neg t]at l;have r:=ZdX l;clear l;have F:((ZS x).2.2=0)=False:=Zhp t;go_enter Sol.func133,Try.ntmps133;go_wp2_with (first
   |(go_at_call 44;refine(VY q _).mono ?_;rintro e w1 ⟨rfl,f⟩;have d:=ZdX f;have D:=y.out w1 (((((Zeh _ w).alloc (ZdU _) _).alloc (by simp) _).trans (f.mono (by simp;omega))));clear f)
   |(go_at_call 69;refine(Ll q _).mono ?_;rintro e w2 ⟨rfl,h⟩;have j:=ZdX h;clear h))
  refine⟨rfl,r.out.symm,?_⟩;have k:=(((Zeh _ w).alloc (ZdU _) (.cells #[.int .i64 0,.int .i64 0,.int .i64 0,.bool xh,.int .u64 0] 59)).alloc Z1 (.cells #[.int .i64 a,.int .i64 0,.int .i64 0,.bool xh,.int .u64 0] 59)).trans (d.out.mono ZcP);exact(k.trans (j.out.mono (by have:=k.size;omega))).alloc (by have:=k.size;have:=j.out.size;omega) _
end Vm
namespace Vm
open Go Go.Proofs Go.RowKit
def Nt(s p:Int)(w:World):Calls Sol.prog 94 #[.agg #[.int .i64 s,.int .i64 p]] w λe a=>e=.returned (.bool (Yz s p))/\Below (U (R w)) w a:=
 TP MZ rfl rfl w
structure Shps (w:World) (shs:List (Int×Int)) (bs:Nat) (v:Value):Prop where
 box:w.heap[bs]?=xk (.cells #[v] 180 (0,0))
 val:(∃g o cap,v=.slice (xk ⟨g,o,xw⟩) (P shs) cap/\P shs<=cap/\cap<=maxLen/\g<U (R w)/\∀(i:Nat) (x:Int×Int),shs[i]?=xk x->w.cell? ⟨g,o+i*2,xw⟩=xk (.int .i64 x.1)/\w.cell? ⟨g,o+i*2+1,xw⟩=xk (.int .i64 x.2))\/
  (∃a cap,v=.slice a 0 cap/\shs=[])
def Z1y(w:World)(shs:List (Int×Int))(bt h:Nat)(v:Value)(x:P shs<=1000000)(d:Shps w shs h v)(f:w.heap[bt]?=xk (.cells #[.int .i64 (P shs)] 3 (0,0))):
  Calls Sol.prog 129 #[.pointer (xk ⟨bt,0,xw⟩),.pointer (xk ⟨h,0,xw⟩)] w λe p=>e=.panicked (Vi 3)/\Below (U (R w)) w p:=by
 have k:w.cell? ⟨bt,0,xw⟩=xk (.int .i64 (P shs)):=by rw[Ze6 _ _ _ _ _ _ f];rfl
 have n:=YC f;have j:=YC d.box;have q:w.cell? ⟨h,0,xw⟩=xk v:=by rw[Ze6 _ _ _ _ _ _ d.box];rfl
 obtain⟨g,o,cap,rfl,r,t,u,l⟩|⟨a,cap,rfl,rfl⟩:=d.val
 .clear l d f;go_enter Sol.func129,Try.ntmps129;go_wp2;exact⟨rfl,rfl,(Zeh _ _).alloc (ZdU _) _⟩
 .clear d f;simp only[Zfq]at k;go_enter Sol.func129,Try.ntmps129;go_wp2;exact⟨rfl,rfl,(Zeh _ _).alloc (ZdU _) _⟩
def Z1x(w:World)(shs:List (Int×Int))(bt j t:Nat)(v:Value)(x:Int×Int)(I:P shs<=1000000)(f:Shps w shs j v)(k:w.heap[bt]?=xk (.cells #[.int .i64 t] 3 (0,0)))(hx:shs[t]?=xk x)(r:Yz x.1 x.2=xh):
  Calls Sol.prog 129 #[.pointer (xk ⟨bt,0,xw⟩),.pointer (xk ⟨j,0,xw⟩)] w λe A=>e=.panicked (Vi 3)/\Below (U (R w)) w A:=by
 have B:w.cell? ⟨bt,0,xw⟩=xk (.int .i64 t):=by rw[Ze6 _ _ _ _ _ _ k];rfl
 have u:=YC k;have p:=YC f.box;have y:t<P shs:=(ZdQ.1 hx).1;have z:¬t=P shs:=Z0;have q:(t:Int)<P shs:=Z0;have C:w.cell? ⟨j,0,xw⟩=xk v:=by rw[Ze6 _ _ _ _ _ _ f.box];rfl
 obtain⟨g,o,cap,rfl,F,G,H,n⟩|⟨a,cap,rfl,rfl⟩:=f.val
 .obtain⟨D,d1⟩:=n t x hx;have l:=Nt x.1 x.2;rw[r]at l;clear n f k hx r;go_enter Sol.func129,Try.ntmps129;go_wp2_with (go_at_call 94;refine(l _).mono ?_;rintro e w1 ⟨rfl,d⟩;have h:=ZdX d;clear d)
  exact⟨rfl,rfl,((Zeh _ w).alloc (ZdU _) _).trans (h.out.mono Z1)⟩
 grind
def Z1z(w:World)(shs:List (Int×Int))(bt f t:Nat)(v:Value)(x:Int×Int)(hl:xq shs<=1000000)(y:Shps w shs f v)(l:w.heap[bt]?=xk (.cells #[.int .i64 t] 3 (0,0)))(hx:shs[t]?=xk x)(J:Yz x.1 x.2=xy)(q:f≠bt)
  (r:∀g o cap,v=.slice (xk ⟨g,o,xw⟩) (xq shs) cap->g≠bt):
  Calls Sol.prog 129 #[.pointer (xk ⟨bt,0,xw⟩),.pointer (xk ⟨f,0,xw⟩)] w λe K=>e=.returned (.agg #[.int .i64 x.1,.int .i64 x.2])/\w.grownBy K (xk bt)/\K.heap[bt]?=xk (.cells #[.int .i64 ((t+1:Nat):Int)] 3 (0,0)):=by
 have L:w.cell? ⟨bt,0,xw⟩=xk (.int .i64 t):=by rw[Ze6 _ _ _ _ _ _ l];rfl
 have h:=YC l;have n:=YC y.box;have P:t<xq shs:=(ZdQ.1 hx).1;have u:¬t=xq shs:=Z0;have I:(t:Int)<xq shs:=Z0;have M:w.cell? ⟨f,0,xw⟩=xk v:=by rw[Ze6 _ _ _ _ _ _ y.box];rfl
 have hf:=Yi (o:=0) l;have G:¬f=bt:=q;have H:¬bt=f:=λe=>q e.symm;obtain⟨g,o,cap,rfl,Y,Z,D,F⟩|⟨a,cap,rfl,rfl⟩:=y.val
 .obtain⟨N,d1⟩:=F t x hx;have hg:=r g o cap rfl;have C:=Nt x.1 x.2;rw[J]at C;have B:=ZdX l;clear F y l hx J r;go_enter Sol.func129,Try.ntmps129
  go_wp2_with (go_at_call 94;refine(C _).mono ?_;rintro e w1 ⟨rfl,d⟩
               have z:=ZdX d;have s1:=d.size;have k0:w1.cell? ⟨bt,0,xw⟩=xk (.int .i64 t):=(d.cell (p:=⟨bt,0,xw⟩) ZcP).trans ((Zfl _ _ _ h).trans L);have k1:w1.frozen? ⟨bt,0,xw⟩=xh:=Yi ((d.block bt ZcP).trans ((ZdY _ _ _ h).trans B.out));have k2:w1.cell? ⟨f,0,xw⟩=xk (.slice (xk ⟨g,o,xw⟩) (xq shs) cap):=(d.cell (p:=⟨f,0,xw⟩) ZcP).trans ((Zfl _ _ _ n).trans M);have k3:w1.cell? ⟨g,o+t*2,xw⟩=xk (.int .i64 x.1):=(d.cell (p:=⟨g,o+t*2,xw⟩) ZcP).trans ((Zfl _ _ _ D).trans N);have k4:w1.cell? ⟨g,o+t*2+1,xw⟩=xk (.int .i64 x.2):=(d.cell (p:=⟨g,o+t*2+1,xw⟩) ZcP).trans ((Zfl _ _ _ D).trans d1);have r0:w1.heap[xz (xj w)]?=xk (.cells #[.int .i64 0,.int .i64 0] 52 (0,0)):=(d.block _ Z1).trans (Zej w _);have T:w1.cell? ⟨xz (xj w),0,xw⟩=xk (.int .i64 0):=by rw[Ze6 _ _ _ _ _ _ r0];rfl
               have U:w1.cell? ⟨xz (xj w),1,xw⟩=xk (.int .i64 0):=by rw[Ze6 _ _ _ _ _ _ r0];rfl
               have y0:=Yi (o:=0) r0;have y1:=Yi (o:=1) r0;have R:¬xz (xj w)=bt:=Z0;have S:¬bt=xz (xj w):=Z0;have X:=ZdX r0;clear d r0)
  have j:Below (xz (xj w)) w w1:=((Zeh _ w).alloc (ZdU _) (.cells #[.int .i64 0,.int .i64 0] 52)).trans (z.out.mono Z1);have Q:w1.heap[bt]?=xk (.cells #[.int .i64 t] 3 (0,0)):=(j.block bt h).trans B.out;refine ZeP (v:=.agg #[.int .i64 x.1,.int .i64 x.2]) ?_ rfl ⟨rfl,⟨j.os,j.tape,j.output,?_,λk O u=> ?_⟩,?_⟩
  .simp[results,Try.results129,go_sem,T,U,R,S]
  simp[World.setCell];exact j.size;have A:k≠bt:=λe=>u (by rw[e]);rw[Zen _ _ _ _ ZcN,Zen _ _ _ _ ZcN,Zen _ _ _ _ A];exact j.block k O;simp_all[Zen,World.setCell,ZeF]
 grind
end Vm
namespace Vm
open Go Go.Proofs Go.RowKit
def PX(w:World)(f:FuncId)(vs:Array Value)(ws:List Int)(g o cap:Nat)(q:Words w ws g o cap)(M:g<xz (xj w))(a:Nat)(x:Int)(hx:ws[a]?=xk x)(y:¬(adr x).2=0):
  Calls Sol.prog 133 #[.slice (xk ⟨g,o,xw⟩) (xq ws) cap,.int .i64 a,.func (.func f) #[] vs] w λe O=>e=SD a x/\Below (xz (xj w)) w O:=by
 have Y:=q.len;have X:=q.le;have Z:=q.cap;have N:a<xq ws:=(ZdQ.1 hx).1;have C:(a:Int)<xq ws:=Z0;have r:ZC x:=q.u64 x (ZdW hx);have F:=q.at_ a x hx;have B:∀W,Below (xz (xj w)) w W->W.cell? ⟨g,o+a,xw⟩=xk (.int .u64 x):=λW K=>(K.cell (p:=⟨g,o+a,xw⟩) M).trans F;have n:SD a x=if(ZS x).2.2=0 then .returned (WH ⟨a,(ZS x).1,(ZS x).2.1,xh,0⟩)else .panicked (Vi 3):=rfl
 generalize SD a x=E at*;have A:=ZdX B;have L:=λW=>B6 W f vs;have D:((adr x).2=0)=False:=Zhp y;clear q hx B;by_cases u:(ZS x).2.2=0
 .rw[if_pos u]at n;have t:=ZdX n;clear n;go_enter Sol.func133,Try.ntmps133;go_wp2_with (first
   |(go_at_call 44;refine(VY r _).mono ?_;rintro e w1 ⟨rfl,h⟩;have d:=ZdX h;have G:=A.out w1 (((((Zeh _ w).alloc (ZdU _) _).alloc (by simp) _).trans (h.mono (by simp;omega))));clear h)
   | (go_at_call 69;refine(Ll r _).mono ?_;rintro e w2 ⟨rfl,j⟩;have k:=ZdX j
      have J:=d.out.block;have r0:w2.heap[xz (xj w)]?=xk (.cells #[.int .i64 0,.int .i64 0,.int .i64 0,.bool xh,.int .u64 0] 59 (0,0)):=(j.block _ Zdp).trans ((d.out.block _ ZcP).trans ((ZdY _ _ _ Z1).trans (Zej w _)));have z:w2.heap[xz (xj w)+1]?=xk (.cells #[.int .i64 a,.int .i64 0,.int .i64 0,.bool xh,.int .u64 0] 59 (0,0)):=(j.block _ Zdp).trans ((d.out.block _ Z1).trans ZcT);obtain⟨⟨P,Q,R,S,T⟩,y0,y1,y2,y3,y4⟩:=qf r0 (.cells #[.int .i64 (ZS x).1,.int .i64 (ZS x).2.1] 52);obtain⟨⟨p0,p1,p2,p3,p4⟩,q0,q1,q2,q3,q4⟩:=qf z (.cells #[.int .i64 (ZS x).1,.int .i64 (ZS x).2.1] 52);have U:=ZdX (And.intro r0 z);clear j J r0 z))
  refine ZeP (v:=WH ⟨a,(ZS x).1,(ZS x).2.1,xh,0⟩) ?_ rfl ⟨t.out.symm,?_⟩
  .simp[results,Try.results133,go_sem,WH,P,Q,R,S,T]
  have l:=(((Zeh _ w).alloc (ZdU _) (.cells #[.int .i64 0,.int .i64 0,.int .i64 0,.bool xh,.int .u64 0] 59)).alloc Z1 (.cells #[.int .i64 a,.int .i64 0,.int .i64 0,.bool xh,.int .u64 0] 59)).trans (d.out.mono ZcP);have I:=(l.trans (k.out.mono (by have:=l.size;omega))).alloc (by have:=l.size;have:=k.out.size;omega) (.cells #[.int .i64 (ZS x).1,.int .i64 (ZS x).2.1] 52);exact((((((I.setCell (p:=⟨xz (xj w)+1,1,xw⟩) Z1 _).setCell (p:=⟨xz (xj w)+1,2,xw⟩) Z1 _).setCell (p:=⟨xz (xj w),0,xw⟩) (ZdU _) _).setCell (p:=⟨xz (xj w),1,xw⟩) (ZdU _) _).setCell (p:=⟨xz (xj w),2,xw⟩) (ZdU _) _).setCell (p:=⟨xz (xj w),3,xw⟩) (ZdU _) _).setCell (p:=⟨xz (xj w),4,xw⟩) (ZdU _) _
 .rw[if_neg u]at n;have t:=ZdX n;clear n;have H:((ZS x).2.2=0)=False:=Zhp u;go_enter Sol.func133,Try.ntmps133;go_wp2_with (first
   |(go_at_call 44;refine(VY r _).mono ?_;rintro e w1 ⟨rfl,h⟩;have d:=ZdX h;have G:=A.out w1 (((((Zeh _ w).alloc (ZdU _) _).alloc (by simp) _).trans (h.mono (by simp;omega))));clear h)
   |(go_at_call 69;refine(Ll r _).mono ?_;rintro e w2 ⟨rfl,j⟩;have k:=ZdX j;clear j))
  refine⟨rfl,t.out.symm,?_⟩;have l:=(((Zeh _ w).alloc (ZdU _) (.cells #[.int .i64 0,.int .i64 0,.int .i64 0,.bool xh,.int .u64 0] 59)).alloc Z1 (.cells #[.int .i64 a,.int .i64 0,.int .i64 0,.bool xh,.int .u64 0] 59)).trans (d.out.mono ZcP);exact(l.trans (k.out.mono (by have:=l.size;omega))).alloc (by have:=l.size;have:=k.out.size;omega) _
def Er(w:World)(vs:Array Value)(ws:List Int)(g o cap:Nat)(h:Words w ws g o cap)(G:g<U (R w))(a:Nat)(x:Int)(hx:ws[a]?=xk x)(A:(adr x).2=0)
  (d:∀W,Below (U (R w)) w W->Calls Sol.prog 129 vs W λe W'=>e=.panicked (Vi 3)/\Below (U (R W)) W W'):
  Calls Sol.prog 133 #[.slice (xk ⟨g,o,xw⟩) (P ws) cap,.int .i64 a,.func (.func 129) #[] vs] w λe C=>e=.panicked (Vi 3)/\Below (U (R w)) w C:=by
 have H:=h.len;have F:=h.le;have I:=h.cap;have z:a<P ws:=(ZdQ.1 hx).1;have t:(a:Int)<P ws:=Z0;have B:ZC x:=h.u64 x (ZdW hx);have D:=h.at_ a x hx;have y:=λW=>B6 W 129 vs;have u:=ZdX d;clear h hx d;go_enter Sol.func133,Try.ntmps133;go_wp2_with (first
  | (go_at_call 44;refine(VY B _).mono ?_;rintro e w1 ⟨rfl,f⟩
     have r:Below (U (R w)) w w1:=((((Zeh _ w).alloc (ZdU _) _).alloc Z1 _).trans (f.mono ZcP));have k:w1.heap[U (R w)+1]?=xk (.cells #[.int .i64 a,.int .i64 0,.int .i64 0,.bool xh,.int .u64 0] 59 (0,0)):=(f.block _ Z1).trans ZcT;have p3:w1.cell? ⟨U (R w)+1,3,xw⟩=xk (.bool xh):=by rw[Ze6 _ _ _ _ _ _ k];rfl
     have p4:w1.cell? ⟨U (R w)+1,4,xw⟩=xk (.int .u64 0):=by rw[Ze6 _ _ _ _ _ _ k];rfl
     have J:=Yi (o:=3) k;have K:=Yi (o:=4) k;have n:=ZdX r;clear f r k)
  |(go_at_call 129;refine(u.out _ ?_).mono ?_;rotate_left;rintro e w2 ⟨rfl,j⟩;have l:=ZdX j;clear j))
 case refine_1=>exact(n.out.setCell (p:=⟨U (R w)+1,3,xw⟩) Z1 _).setCell (p:=⟨U (R w)+1,4,xw⟩) Z1 _
 case refine_2=>
  have q:=(n.out.setCell (p:=⟨U (R w)+1,3,xw⟩) Z1 (.bool xy)).setCell (p:=⟨U (R w)+1,4,xw⟩) Z1 (.int .u64 (adr x).1);exact⟨rfl,rfl,q.trans (l.out.mono q.size)⟩
theorem Z1B{w W:World}{r:Option Nat}(h:w.grownBy W r){p:Addr}(f:U (R w)<=p.block)(u:Value):w.grownBy (W.setCell p u) r:=
 ⟨h.os,h.tape,h.output,by simpa[World.setCell]using h.size,λk d a=>(Zen _ _ _ _ Z0).trans (h.block k d a)⟩
def PV(w:World)(vs:Array Value)(ws:List Int)(g o cap:Nat)(r:Words w ws g o cap)(Z:g<xz (xj w))(a:Nat)(x:Int)(hx:ws[a]?=xk x)(N:(adr x).2=0)
  (bt:Nat) (O:Obj) (s p:Int) (J:bt<xz (xj w))
  (f:∀W,Below (xz (xj w)) w W->Calls Sol.prog 129 vs W λe W'=>e=.returned (.agg #[.int .i64 s,.int .i64 p])/\W.grownBy W' (xk bt)/\W'.heap[bt]?=xk O):
  Calls Sol.prog 133 #[.slice (xk ⟨g,o,xw⟩) (xq ws) cap,.int .i64 a,.func (.func 129) #[] vs] w λe H=>e=.returned (WH ⟨a,s,p,xy,(adr x).1⟩)/\w.grownBy H (xk bt)/\H.heap[bt]?=xk O:=by
 have hl:=r.len;have Y:=r.le;have hm:=r.cap;have M:a<xq ws:=(ZdQ.1 hx).1;have G:(a:Int)<xq ws:=Z0;have P:ZC x:=r.u64 x (ZdW hx);have X:=r.at_ a x hx;have K:=λW=>B6 W 129 vs;have I:=ZdX f;clear r hx f;go_enter Sol.func133,Try.ntmps133;go_wp2_with (first
  | (go_at_call 44;refine(VY P _).mono ?_;rintro e w1 ⟨rfl,j⟩
     have D:Below (xz (xj w)) w w1:=((((Zeh _ w).alloc (ZdU _) _).alloc Z1 _).trans (j.mono ZcP));have t:w1.heap[xz (xj w)+1]?=xk (.cells #[.int .i64 a,.int .i64 0,.int .i64 0,.bool xh,.int .u64 0] 59 (0,0)):=(j.block _ Z1).trans ZcT;have p3:w1.cell? ⟨xz (xj w)+1,3,xw⟩=xk (.bool xh):=by rw[Ze6 _ _ _ _ _ _ t];rfl
     have p4:w1.cell? ⟨xz (xj w)+1,4,xw⟩=xk (.int .u64 0):=by rw[Ze6 _ _ _ _ _ _ t];rfl
     have q3:=Yi (o:=3) t;have q4:=Yi (o:=4) t;have r0:w1.heap[xz (xj w)]?=xk (.cells #[.int .i64 0,.int .i64 0,.int .i64 0,.bool xh,.int .u64 0] 59 (0,0)):=(j.block _ ZcP).trans ((ZdY _ _ _ Z1).trans (Zej w _));have z:=ZdX (And.intro r0 t);have C:=ZdX D;clear j D r0 t)
  | (go_at_call 129;refine(I.out _ ?_).mono ?_;rotate_left;rintro e w2 ⟨rfl,l,u⟩
     have d:=ZdX l;have A:=ZdX u;have n:w2.heap[xz (xj w)+1]?=xk (.cells #[.int .i64 a,.int .i64 0,.int .i64 0,.bool xy,.int .u64 (adr x).1] 59 (0,0)):=(l.block _ (by simp[World.setCell];exact YC z.out.2) ZcP).trans (by simp[World.setCell,ZeF,z.out.2]);have h:w2.heap[xz (xj w)]?=xk (.cells #[.int .i64 0,.int .i64 0,.int .i64 0,.bool xh,.int .u64 0] 59 (0,0)):=(l.block _ (by simp[World.setCell];exact YC z.out.1) ZcP).trans (by simp[World.setCell,ZeF,z.out.1]);have s0:w2.cell? ⟨xz (xj w)+1,0,xw⟩=xk (.int .i64 a):=Zdh;have s1:w2.cell? ⟨xz (xj w)+1,1,xw⟩=xk (.int .i64 0):=Zdh;have s2:w2.cell? ⟨xz (xj w)+1,2,xw⟩=xk (.int .i64 0):=Zdh;have s3:w2.cell? ⟨xz (xj w)+1,3,xw⟩=xk (.bool xy):=Zdh;have s4:w2.cell? ⟨xz (xj w)+1,4,xw⟩=xk (.int .u64 (adr x).1):=Zdh;have Q:w2.cell? ⟨xz (xj w),0,xw⟩=xk (.int .i64 0):=Zdg;have R:w2.cell? ⟨xz (xj w),1,xw⟩=xk (.int .i64 0):=Zdg;have S:w2.cell? ⟨xz (xj w),2,xw⟩=xk (.int .i64 0):=Zdg;have T:w2.cell? ⟨xz (xj w),3,xw⟩=xk (.bool xh):=Zdg;have U:w2.cell? ⟨xz (xj w),4,xw⟩=xk (.int .u64 0):=Zdg;have u1:=Yi (o:=1) n;have u2:=Yi (o:=2) n;have v0:=Yi (o:=0) h;have v1:=Yi (o:=1) h;have v2:=Yi (o:=2) h;have v3:=Yi (o:=3) h;have v4:=Yi (o:=4) h;clear l u h n))
 case refine_1=>exact(C.out.setCell (p:=⟨xz (xj w)+1,3,xw⟩) Z1 _).setCell (p:=⟨xz (xj w)+1,4,xw⟩) Z1 _
 next=>
  have q:=(C.out.setCell (p:=⟨xz (xj w)+1,3,xw⟩) Z1 (.bool xy)).setCell (p:=⟨xz (xj w)+1,4,xw⟩) Z1 (.int .u64 (adr x).1);have L:w.grownBy w2 (xk bt):=⟨d.out.os.trans q.os,d.out.tape.trans q.tape,d.out.output.trans q.output,Zes q.size d.out.size,λk F B=>(d.out.block k (Ze1 F q.size) B).trans (q.block k F)⟩;have k1:bt≠xz (xj w)+1:=Z0;have y:bt≠xz (xj w):=Z0;clear q;refine ZeP (v:=WH ⟨a,s,p,xy,(adr x).1⟩) ?_ rfl ⟨rfl,?_,?_⟩
  .simp[results,Try.results133,go_sem,WH,Q,R,S,T,U]
  grind [Z1B];rw[Zen _ _ _ _ y,Zen _ _ _ _ y,Zen _ _ _ _ y,Zen _ _ _ _ y,Zen _ _ _ _ y,Zen _ _ _ _ k1,Zen _ _ _ _ k1];exact A.out
end Vm
namespace Vm
open Go Go.Proofs Go.RowKit Go.Shelf
def Uz(W:World)(bl:Nat):Option Nat:=(W.cell? ⟨bl,0,xw⟩).bind Value.ownBlock
structure KpW (bl base:Nat) (A B:World):Prop where
 size:U (R A)<=U (R B)
 same:∀k o,A.heap[k]?=xk o->o.isCells=xy->k≠bl->(k<base\/Uz A bl≠xk k)->B.heap[k]?=xk o
 row:∀k,k<U (R A)->Uz B bl=xk k->Uz A bl=xk k
theorem KpW.trans{bl base:Nat}{A B C:World}(h:KpW bl base A B)(k:KpW bl base B C):KpW bl base A C:=
 ⟨Zes h.size k.size,λi o a j l d=>k.same i o (h.same i o a j l d) j l (d.imp id λf e=>f (h.row i (YC a) e)),λi a d=>h.row i a (k.row i (Ze1 a h.size) d)⟩
theorem KpW.put{bl base:Nat}{W:World}{l:Nat}{o:Obj}(d:Obj)(n:W.heap[l]?=xk o)(p:o.isCells=xh)(h:bl≠l):KpW bl base W (W.putObj l d):=by
 have a:(W.putObj l d).cell? ⟨bl,0,xw⟩=W.cell? ⟨bl,0,xw⟩:=ZeT (Zf1 Z0);refine⟨(Zhb W l d).size,λk r j f _ _=> ?_,λk _ q=> ?_⟩;grind [World.putObj_heap_other,trans];simp_all[Uz]
def Lq(ws:List Int)(g o cap:Nat)(gv:Value)(shs:List (Int×Int))(old:Bool)(bt:Option Nat)(K:Nat->World->Prop):Prop:=
 ∀(W:World) (a t:Nat) (x:Int),Words W ws g o cap->g<U (R W)->K t W->ws[a]?=xk x->
  Calls Sol.prog 133 #[.slice (xk ⟨g,o,xw⟩) (P ws) cap,.int .i64 a,gv] W λe W'=>W.grownBy W' bt/\match Wc shs old a t x with
   |some (d,f)=>e=.returned (WH d)/\K f W'
   |none=>e=.panicked (Vi 3)
def LU(ws:List Int)(shs:List (Int×Int))(old:Bool)(K:Nat->World->Prop)(xs:List Ob)(W:World):Prop:=
 ∃t,K t W/\ZP ws shs old=(if t<(P shs) then([],3)else(xs,0))
def Z0Q(ws:List Int)(shs:List (Int×Int))(old:Bool)(chain:List PanicEntry)(pre:List Ob)(W:World):Prop:=
 ∃e,(e=2\/e=3)/\chain=Vi e/\ZP ws shs old=([],e)
structure Stat6 (ws:List Int) (g o cap:Nat) (sv:Value) (bw bg base bl:Nat) (bt:Option Nat) (gv:Value) (W:World):Prop where
 words:Words W ws g o cap
 sv_:sv=.slice (xk ⟨g,o,xw⟩) (P ws) cap\/(ws=[]/\∃a c,sv=.slice a 0 c)
 hbw:W.heap[bw]?=xk (.cells #[sv] 35 (0,0))
 hbg:W.heap[bg]?=xk (.cells #[gv] 190 (0,0))
 gb:ws≠[]->∃ob,W.heap[g]?=xk ob/\ob.isCells=xy
 lt:g<base/\bw<base/\bg<base/\base<=U (R W)
 ne:g≠bl/\bw≠bl/\bg≠bl
 nt:xk g≠bt/\xk bw≠bt/\xk bg≠bt
section
variable {ws:List Int}{g o cap bw bg base bl:Nat}{bt:Option Nat}{sv gv:Value}{W W':World}
theorem Stat6.of(h:Stat6 ws g o cap sv bw bg base bl bt gv W)(n:U (R W)<=U (R W'))(d:∀k a,W.heap[k]?=xk a->a.isCells=xy->k<base->k≠bl->xk k≠bt->W'.heap[k]?=xk a):Stat6 ws g o cap sv bw bg base bl bt gv W':=by
 refine⟨⟨λi x p=> ?_,h.words.le,h.words.cap,h.words.len,h.words.u64⟩,h.sv_,d _ _ h.hbw rfl h.lt.2.1 h.ne.2.1 h.nt.2.1,d _ _ h.hbg rfl h.lt.2.2.1 h.ne.2.2 h.nt.2.2,λj=> ?_,⟨h.lt.1,h.lt.2.1,h.lt.2.2.1,Zes h.lt.2.2.2 n⟩,h.ne,h.nt⟩;have j:ws≠[]:=λe=>ZcO;obtain⟨a,l,f⟩:=h.gb j;have q:=d _ _ l f h.lt.1 h.ne.1 h.nt.1;rw[<-h.words.at_ i x p];grind [World.cell?_of_block];obtain⟨a,l,f⟩:=h.gb j;exact⟨a,d _ _ l f h.lt.1 h.ne.1 h.nt.1,f⟩
def Stat6.grown(h:Stat6 ws g o cap sv bw bg base bl bt gv W)(a:W.grownBy W' bt):Stat6 ws g o cap sv bw bg base bl bt gv W':=
 h.of a.size λk j d _ _ _ f=>(a.block k (YC d) f).trans d
def Stat6.kp(h:Stat6 ws g o cap sv bw bg base bl bt gv W)(j:KpW bl base W W'):Stat6 ws g o cap sv bw bg base bl bt gv W':=
 h.of j.size λk n a l d f _=>j.same k n a l f (.inl d)
end
def RQ{W W':World}(a:Below (U (R W)) W W')(r:Option Nat):W.grownBy W' r:=⟨a.os,a.tape,a.output,a.size,λk d _=>a.block k d⟩
def PT{ws:List Int}{g o cap:Nat}:Lq ws g o cap .nilFunc [] xh xw (λt _=>t=0):=by
 intro W a t x h f k j;refine(PW W ws g o cap h f a x j).mono ?_;rintro e W' ⟨rfl,d⟩;refine⟨RQ d xw,?_⟩;unfold Wc SD;grind
def Shps.grown{W W':World}{shs:List (Int×Int)}{d:Nat}{v:Value}{r:Option Nat}(h:Shps W shs d v)(j:W.grownBy W' r)(f:xk d≠r)(k:shs≠[]->∀g o cap,v=.slice (xk ⟨g,o,xw⟩) (P shs) cap->xk g≠r):Shps W' shs d v:=by
 refine⟨(j.block _ (YC h.box) f).trans h.box,?_⟩;obtain⟨g,o,cap,rfl,n,p,l,q⟩|⟨a,cap,rfl,rfl⟩:=h.val;refine .inl ⟨g,o,cap,rfl,n,p,Ze1 l j.size,λi x u=> ?_⟩;have t:=j.block g l (k (λe=>ZcO) _ _ _ rfl);grind [World.cell?_of_block,trans];simp
def KOld(shs:List (Int×Int))(bt a:Nat)(v:Value)(t:Nat)(W:World):Prop:=W.heap[bt]?=xk (.cells #[.int .i64 t] 3 (0,0))/\Shps W shs a v/\t<=P shs
def PU{ws:List Int}{g o cap:Nat}{shs:List (Int×Int)}{bt k:Nat}{v:Value}(B:P shs<=1000000)(n:k≠bt)(q:shs≠[]->∀g o cap,v=.slice (xk ⟨g,o,xw⟩) (P shs) cap->g≠bt):
  Lq ws g o cap (.func (.func 129) #[] #[.pointer (xk ⟨bt,0,xw⟩),.pointer (xk ⟨k,0,xw⟩)]) shs xy (xk bt) (KOld shs bt k v):=by
 intro W a t x y w F z;obtain⟨A,D,K⟩:=F;have p:xk k≠xk bt:=λe=>n ZcN;have r:shs≠[]->∀g o cap,v=.slice (xk ⟨g,o,xw⟩) (P shs) cap->xk g≠xk bt:=λJ g o cap e M=>q J g o cap e ZcN;have h:∀W',Below (U (R W)) W W'->Shps W' shs k v:=λW' d=>D.grown (RQ d xw) Z1 (λ_ _ _ _ _=>Z1);have f:∀W',Below (U (R W)) W W'->W'.heap[bt]?=xk (.cells #[.int .i64 t] 3 (0,0)):=λW' d=>(d.block _ (YC A)).trans A;by_cases l:(adr x).2=0;unfold Wc;rw[if_pos ⟨rfl,l⟩];cases j:shs[t]? with
 |none=>
  have:t=P shs:=by have:=Zgt.1 j;omega
  subst this;refine(Er W _ ws g o cap y w a x z l λW' d=>Z1y W' shs bt k v B (h W' d) (f W' d)).mono ?_;rintro e W' ⟨rfl,d⟩;exact⟨RQ d _,rfl⟩
 |some s=>
  simp only;cases u:Yz s.1 s.2;refine(Er W _ ws g o cap y w a x z l λW' d=>Z1x W' shs bt k t v s B (h W' d) (f W' d) j u).mono ?_;rintro e W' ⟨rfl,d⟩;exact⟨RQ d _,Z1⟩;refine(PV W _ ws g o cap y w a x z l bt _ s.1 s.2 (YC A) λW' d=>Z1z W' shs bt k t v s B (h W' d) (f W' d) j u n (q (λe=>ZcO))).mono ?_;rintro e W' ⟨rfl,C,G⟩;have I:=(ZdQ.1 j).1;refine⟨C,?_⟩;simp only[ZeA];exact⟨trivial,G,D.grown C p r,Z0⟩
 refine(PX W _ _ ws g o cap y w a x z l).mono ?_;rintro e W' ⟨rfl,d⟩;refine⟨RQ d _,?_⟩;unfold Wc SD;rw[if_neg (λH=>l H.2)];by_cases L:(ZS x).2.2=0;simp only[L,ZeA];exact⟨trivial,f W' d,h W' d,K⟩;simp_all
end Vm
end
section
namespace Vm
open Go Go.Proofs Go.RowKit Go.Shelf
def DF(a:Nat)(W:World):Prop:=∀k,Uz W a=xk k->k<U (R W)
def FQ{A B C:World}{r:Option Nat}(h:A.grownBy B r)(k:B.grownBy C r):A.grownBy C r:=
 ⟨k.os.trans h.os,k.tape.trans h.tape,k.output.trans h.output,Zes h.size k.size,λi a d=>(k.block i (Ze1 a h.size) d).trans (h.block i a d)⟩
def Z8b(ws:List Int)(shs:List (Int×Int))(old:Bool){a t g:Nat}{x:Int}{d:Ob}(hx:ws[a]?=xk x)(h:Wc shs old a t x=xk (d,g)){f:Nat}{pre:List Ob}:
  Xu ws shs old (f+1) a t pre=if(P ws:Int)<a+1+d.size then([],2)else if XQ ((ws.drop (a+1)).take d.size.toNat) d.gone d.ptrs 0=xh then([],3)else Xu ws shs old f (a+1+d.size.toNat) g (pre++[d]):=by
 simp_all[Xu]
def Z0N(n:Nat){w:World}{ws:List Int}{g o cap bw bg base z:Nat}{bt:Option Nat}{sv gv:Value}{shs:List (Int×Int)}{old:Bool}{K:Nat->World->Prop}(d5:Stat6 ws g o cap sv bw bg base z bt gv w)
  (e6:z<base) (b0:xk z≠bt) (a7:Lq ws g o cap gv shs old bt K) (c6:K 0 w) (a4:∀t W W',K t W->Below (xz (xj W)) W W'->K t W') (c7:∀t W W',K t W->KpW z base W W'->K t W'):
  DG Fence.wide n Sol.prog 132 #[.pointer (xk ⟨bw,0,xw⟩),.pointer (xk ⟨bg,0,xw⟩)] (λd:Ob=> #[WH d]) (KpW z base) (LU ws shs old K) (Z0Q ws shs old) (xq ws) bt (DF z) w:=by
 intro l J W hW c5 hJ hY h0;refine callsIn_of_wp Sol.func132 rfl trivial ?_ rfl;simp only[Try.ntmps132,Zfg,Zfd,Zfq,Nat.reduceAdd,Nat.reduceSub,Zgr,Zgs,ZgP,Zgz,ZeR,Zf7];have b9:=ZdX (d5.grown (RQ hW bt));have b7:=ZdX (a4 0 w W c6 hW);have b5:=ZdX h0;clear h0;gi_wp2
 gi_loopw [4] (λp wr=>∃(a t f:Nat) (pre:List Ob),p=.int .i64 a/\Hid (J pre wr/\K t wr/\Stat6 ws g o cap sv bw bg base z bt gv wr/\xq ws<f+a/\0<f/\a<=xq ws/\xq pre<=a/\ZP ws shs old=Xu ws shs old f a t pre))
  (λp _=>xq ws- (intOf p).toNat)
 case atStart=>exact⟨0,0,xq ws+1,[],rfl,ZdX ⟨b5.out,b7.out,b9.out,Z0,Z0,Z0,Z1,rfl⟩⟩
 case round=>
  obtain⟨a,t,f,pre,rfl,j⟩:=hrel;have k:=j.out.2.2.1;have Z:=k.sv_;have c1:wr.cell? ⟨bw,0,xw⟩=xk sv:=by rw[Ze6 _ _ _ _ _ _ k.hbw];rfl
  have c2:wr.cell? ⟨bg,0,xw⟩=xk gv:=by rw[Ze6 _ _ _ _ _ _ k.hbg];rfl
  have d7:=k.words.len;clear k;by_cases a9:a<xq ws
  .obtain⟨x,hx⟩:∃x,ws[a]?=xk x:=⟨_,ZdO a9⟩;obtain rfl:sv=.slice (xk ⟨g,o,xw⟩) (xq ws) cap:=Z.resolve_right (λh=>ZcO);clear Z;have d8:((a:Int)<xq ws)=True:=eq_true Z0;have hb:=a7 wr a t x j.out.2.2.1.words (by have:=j.out.2.2.1.lt;omega) j.out.2.1 hx;cases ho:Wc shs old a t x with
   |none=>
    rw[ho]at hb;have HX:=ZdX hb;clear hb;gi_wp2
    refine⟨trivial,λh=>ZcY,(Zhk.2 HX.out).mono ?_⟩;rintro e w1 ⟨y,rfl⟩;have H:=ZdX y;clear y;gi_wp2
    refine⟨rfl,.inr ⟨_,pre,rfl,⟨3,.inr rfl,rfl,?_⟩,hJ _ _ _ _ j.out.1 H.out (λr e=>e.symm)⟩⟩;obtain⟨_,_,_,hf,M,_,_,I⟩:=j.out;cases f with
    |zero=>omega
    |succ f=>
     simp_all[Xu]
   |some q=>
    obtain⟨d,t'⟩:=q;rw[ho]at hb;have HX:=ZdX hb;clear hb;obtain⟨Y,B⟩:=yn ho;gi_wp2
    refine⟨trivial,λh=>ZcY,(Zhk.2 HX.out).mono ?_⟩;rintro e w1 ⟨y,rfl,a8⟩;have H:=ZdX y;have b8:=ZdX a8;have L:=j.out.2.2.1.grown y;have e4:=ZdX L;have e1:∀O,(w1.alloc O).cell? ⟨bw,0,xw⟩=xk (.slice (xk ⟨g,o,xw⟩) (xq ws) cap):=λO=>by
     rw[Zfl _ _ _ (YC L.hbw),Ze6 _ _ _ _ _ _ L.hbw];rfl
    have X:wr.grownBy (w1.alloc (.cells #[.int .i64 a,.int .i64 d.size,.int .i64 d.ptrs,.bool d.gone,.int .u64 d.target] 59)) bt:=FQ y (Zfi _ _ _);have a6:=ZdX (j.out.2.2.1.grown X);have hh:=Z1F (w1.alloc (.cells #[.int .i64 a,.int .i64 d.size,.int .i64 d.ptrs,.bool d.gone,.int .u64 d.target] 59)) ws g o cap a6.out.words (by have:=a6.out.lt;omega) d a B a9 Y;unfold WH at hh;rw[B]at hh;have b3:=ZdX X;have Q:=ZdX hh;have G:∀f pre,Xu ws shs old (f+1) a t pre=_:=λf pre=>Z8b ws shs old hx ho (f:=f) (pre:=pre);have R:=ZdX G;clear y a8 L X hh G hx;unfold WH;gi_wp2
    refine⟨trivial,λh=>ZcY,(Zhk.2 Q.out).mono ?_⟩;rintro e w2 ⟨rfl,C⟩;have A:wr.grownBy w2 bt:=FQ b3.out (RQ C bt);have P:=ZdX A;have b1:=ZdX C;unfold zy;by_cases S:(xq ws:Int)<d.at_+1+d.size
    .rw[if_pos S];rw[B]at S;clear C A;gi_wp2
     refine⟨rfl,.inr ⟨_,pre,rfl,⟨2,.inl rfl,rfl,?_⟩,hJ _ _ _ _ j.out.1 P.out (λr e=>e.symm)⟩⟩;obtain⟨_,_,_,hf,M,_,_,I⟩:=j.out;obtain⟨f,rfl⟩:∃f',f=f'+1:=⟨f-1,Z0⟩;rw[I,R.out,if_pos S]
    .rw[if_neg S];by_cases T:XQ ((ws.drop (d.at_.toNat+1)).take d.size.toNat) d.gone d.ptrs 0=xh
     .rw[if_pos T];rw[B]at S T;clear C A;gi_wp2
      refine⟨rfl,.inr ⟨_,pre,rfl,⟨3,.inr rfl,rfl,?_⟩,hJ _ _ _ _ j.out.1 P.out (λr e=>e.symm)⟩⟩;obtain⟨_,_,_,hf,M,_,_,I⟩:=j.out;obtain⟨f,rfl⟩:∃f',f=f'+1:=⟨f-1,Z0⟩;rw[I,R.out,if_neg Z0];simp_all
     .rw[if_neg T];rw[B]at S T;simp only[Zee]at T;have b4:=ZdX (And.intro S T);have U:=hJ _ _ _ _ j.out.1 A (λr e=>e.symm);have e2:=ZdX U;have c0:=ZdX (j.out.2.2.1.grown A);have u:w2.heap[xz (xj w1)]?=xk (.cells #[.int .i64 a,.int .i64 d.size,.int .i64 d.ptrs,.bool d.gone,.int .u64 d.target] 59 (0,0)):=(C.block _ Z1).trans (Zej w1 _);have b2:=ZdX u;obtain⟨fn,e0,assign,d6,hy,I⟩:=hY pre d w2 U (by have:=j.out.2.2.2.2.2.2.1;omega);unfold WH at hy;rw[B]at hy;have d0:w2.cell? ⟨xz (xj w1),0,xw⟩=xk (.int .i64 a):=Zdi;have d1:w2.cell? ⟨xz (xj w1),1,xw⟩=xk (.int .i64 d.size):=Zdi;have d2:w2.cell? ⟨xz (xj w1),2,xw⟩=xk (.int .i64 d.ptrs):=Zdi;have d3:w2.cell? ⟨xz (xj w1),3,xw⟩=xk (.bool d.gone):=Zdi;have d4:w2.cell? ⟨xz (xj w1),4,xw⟩=xk (.int .u64 d.target):=Zdi;clear C A U u;gi_wp2
      refine⟨λh=>ZcY,I.mono ?_⟩;rintro e W3 ⟨rfl,a1,D⟩;have b6:=ZdX a1;have e3:=ZdX D;have F:Uz w2 z≠xk (xz (xj w1)):=by
       intro e;have c8:z<xz (xj wr):=by have:=j.out.2.2.1.lt.2.2.2;omega
       have:Uz w2 z=Uz wr z:=by
        unfold Uz;rw[ZeT (a:=⟨z,0,xw⟩) (P.out.block z c8 b0)]
       rw[this]at e;have:=c5 _ _ j.out.1 _ e;have:=H.out.size;omega
      have N:=D.same _ _ b2.out rfl (by have:=j.out.2.2.1.lt.2.2.2;have:=H.out.size;omega) (.inr F);have f1:W3.cell? ⟨xz (xj w1),1,xw⟩=xk (.int .i64 d.size):=by rw[Ze6 _ _ _ _ _ _ N];rfl
      have a5:=c0.out.kp D;have a2:K t' w2:=a4 _ _ _ b8.out (((Zeh _ _).alloc (ZdU _) _).trans (b1.out.mono Z1));have a3:=c7 _ _ _ a2 D;have a0:=ZdX (And.intro a5 a3);obtain⟨m,hm⟩:∃m:Nat,d.size=m:=⟨d.size.toNat,by have:=(YM.1 Y).1;omega⟩;rw[hm]at f1;have e8:(m:Int)<=255:=by have:=(YM.1 Y);omega
      have q1:IntKind.i64.wrap (1+(m:Int))=((1+m:Nat):Int):=by rw[Zy _ Z0 Z0];omega
      have q2:IntKind.i64.wrap ((a:Int)+((1+m:Nat):Int))=((a+(1+m):Nat):Int):=by rw[Zy _ Z0 Z0];omega
      clear a1 D N a5 a2 a3 F;clear T;gi_wp2
      obtain⟨_,_,_,hf,M,e5,e9,I⟩:=j.out;obtain⟨f,rfl⟩:∃f',f=f'+1:=⟨f-1,Z0⟩;rw[R.out,if_neg Z0,if_neg b4.out.2]at I;have e7:a+1+m<=xq ws:=Z0;refine⟨⟨a+(1+m),t',f,pre++[d],Z1,ZdX ⟨b6.out,a0.out.2,a0.out.1,Z0,Z0,Z0,ZcP,?_⟩⟩,by grind [intOf]⟩;grind
  .have d9:((a:Int)<xq ws)=False:=Zhp Z0;have HE:Hid (LU ws shs old K pre wr):=ZdX (by
    obtain⟨_,hK,_,hf,M,_,_,I⟩:=j.out;refine⟨t,hK,?_⟩;cases f with
    |zero=>omega
    |succ f=>
     simp_all[Xu,Zf2])
   obtain⟨sa,sc,rfl⟩:∃sa sc,sv=.slice sa (xq ws) sc:=by
    grind
   clear Z;gi_wp2
   go_end0
   exact .inl ⟨_,pre,rfl,HE.out,j.out.1⟩
end Vm
namespace Vm
open Go Go.Proofs Go.RowKit Go.Shelf
def Z0O(w:World)(g d:Value)(k:∃a n c,g=.slice a n c)(h:d=.nilFunc\/∃f vs,d=.func (.func f) #[] vs):
  Calls Sol.prog 131 #[g,d] w λe l=>e=.returned (.func (.func 132) #[] #[.pointer (xk ⟨U (R w),0,xw⟩),.pointer (xk ⟨U (R w)+1,0,xw⟩)])/\
   l=(w.alloc (.cells #[g] 35)).alloc (.cells #[d] 190):=by
 have j:∀(fn:Go.Fn) (first cap:Array Value) (w:World),(Instr.makeFunc fn first cap).run Sol.prog w=.ok (.func fn first cap) w:=λ_ _ _ _=>rfl;obtain⟨a,n,c,rfl⟩:=k;obtain rfl|⟨f,vs,rfl⟩:=h
 .go_enter Sol.func131,Try.ntmps131;go_wp2;exact ZeP (results_tmp rfl _ _ _) rfl ⟨rfl,rfl⟩
 .go_enter Sol.func131,Try.ntmps131;go_wp2;exact ZeP (results_tmp rfl _ _ _) rfl ⟨rfl,rfl⟩
def Z3T(w:World):Sem.run Sol.prog (binOp .neq 20 .nilIface .nilIface) w=.ok (.bool xh) w:=ZdJ
def Z3U(w:World)(T:TypeId)(v:Value):Sem.run Sol.prog (binOp .neq 20 (.iface T v) .nilIface) w=.ok (.bool xy) w:=ZdJ
def Z7O(w:World)(x:Int):Sem.run Sol.prog (Instr.typeAssert (.iface 189 (.agg #[.int .i64 x])) 20 189 xy) w=.ok (.tuple #[.agg #[.int .i64 x],.bool xy]) w:=ZdJ
def Z0u(n:Nat)(p q:Addr)(w:World):
  CallsDIn Fence.wide n Sol.prog 130 #[.pointer (xk p),.pointer (xk q)] .returning w λe f g=>e=.returned (.tuple #[])/\f=.returning/\g=w:=by
 have j:=Z3T;refine callsDIn_of_wpSIn Sol.func130 rfl trivial λa h d=> ?_;simp only[Try.ntmps130,Zfg,Zfd,Zfq,Nat.reduceAdd,Nat.reduceSub,Zgr,Zgs,ZgP,Zgz,ZeR,Zf7];apply wpSIn_seq;apply wpSIn_region;simp[wpOpsSIn,go_sem,recoverD,d,Exit.thenS];refine wpSIn_of_wpIn rfl ?_;gi_wp2
 cases a;simp_all [bodyPostS,results,Try.results130]
def Z0v(n:Nat)(a d:Nat)(x:Int)(w:World)(z l:Value)(f:Boxed w a 55 z)(g:Boxed w d 32 l)(h:a≠d):
  CallsDIn Fence.wide n Sol.prog 130 #[.pointer (xk ⟨a,0,xw⟩),.pointer (xk ⟨d,0,xw⟩)] (.panicking (Vi x)) w λe y j=>
   e=.returned (.tuple #[])/\y=.panicking [{v:=.iface 189 (.agg #[.int .i64 x]),recovered:=xy}]/\
   Boxed j a 55 (.slice xw 0 0)/\Boxed j d 32 (.int .i64 x)/\(xz (xj w)<=xz (xj j)/\∀k,k<xz (xj w)->k≠a->k≠d->j.heap[k]?=w.heap[k]?)/\j.os=w.os/\j.tape=w.tape/\j.output=w.output:=by
 have C:=Z3U;have D:=Z7O;have N:=(f.alloc (.cells #[.int .i64 x] 189)).cell;have p2:=(f.alloc (.cells #[.int .i64 x] 189)).frozen;have O:=(g.alloc (.cells #[.int .i64 x] 189)).cell;have P:=(g.alloc (.cells #[.int .i64 x] 189)).frozen;have p3:=f.cell;have p4:=f.frozen;have Q:=g.cell;have R:=g.frozen;have H:=f.lt;have I:=g.lt;have t:¬a=d:=h;have u:¬d=a:=λe=>h e.symm;have J:¬a=xz (xj w):=Z0;have K:¬xz (xj w)=a:=Z0;have L:¬d=xz (xj w):=Z0;have M:¬xz (xj w)=d:=Z0;have o:=ZdX (And.intro f g);clear f g h;refine callsDIn_of_wpSIn Sol.func130 rfl trivial λB A r=> ?_;simp only[Try.ntmps130,Zfg,Zfd,Zfq,Nat.reduceAdd,Nat.reduceSub,Zgr,Zgs,ZgP,Zgz,ZeR,Zf7];apply wpSIn_seq;apply wpSIn_region;simp[wpOpsSIn,go_sem,recoverD,r,Vi,Exit.thenS];refine wpSIn_of_wpIn rfl ?_;gi_wp2
 gi_region
 all_goals gi_wp2
 obtain⟨f,g⟩:=o.out;have p:Boxed ((w.setCell ⟨a,0,xw⟩ (.slice xw 0 0)).setCell ⟨d,0,xw⟩ (.int .i64 x)) a 55 (.slice xw 0 0):=(Zen _ ⟨d,0,xw⟩ _ a t).trans (f.set _);have q:Boxed ((w.setCell ⟨a,0,xw⟩ (.slice xw 0 0)).setCell ⟨d,0,xw⟩ (.int .i64 x)) d 32 (.int .i64 x):=Boxed.set _ (show Boxed (w.setCell ⟨a,0,xw⟩ (.slice xw 0 0)) d 32 l from(Zen _ ⟨a,0,xw⟩ _ d u).trans g);refine⟨rfl,_,rfl,_,by simp[results,Try.results130],rfl,rfl,p.alloc _,q.alloc _,⟨?_,λk F k1 G=> ?_⟩,rfl,rfl,rfl⟩;simp;show(World.alloc _ _).heap[k]?=_;grind [Below.heap_alloc,World.setCell,Below.heap_setCell]
end Vm
namespace Vm
open Go Go.Proofs Go.RowKit Go.Shelf
def Ts(a:Ob):List Value:=[.int .i64 a.at_,.int .i64 a.size,.int .i64 a.ptrs,.bool a.gone,.int .u64 a.target]
def WI(l:List Ob):List Value:=l.flatMap Ts
def Z4d(l:List Ob)(x:Ob):WI (l++[x])=WI l++Ts x:=by simp[WI]
structure WIv (w:World) (bt:Option Nat) (pre:List Ob) (W:World):Prop where
 row:∃v,Boxed W (U (R w)) 55 v/\W.ownsRow (U (R w)+4) 59 5 v (P pre) (WI pre)
 e:Boxed W (U (R w)+1) 32 (.int .i64 0)
 gr:w.grownBy W bt
 size:U (R w)+4<=U (R W)
def SQ{w X Y:World}{bt row:Option Nat}(h:w.grownBy X bt)(k:X.grownBy Y row)(f:∀r,row=xk r->xk r=bt\/U (R w)<=r):w.grownBy Y bt:=
 ⟨k.os.trans h.os,k.tape.trans h.tape,k.output.trans h.output,Zes h.size k.size,λi a d=>
  (k.block i (Ze1 a h.size) (λe=>ZcN)).trans (h.block i a d)⟩
theorem qg{W:World}{b:Nat}{t:TypeId}{v:Value}(h:Boxed W b t v):Uz W b=v.ownBlock:=by
 unfold Uz;rw[h.cell];rfl
def WIv.rowIn{w:World}{bt:Option Nat}{pre:List Ob}{W:World}(h:WIv w bt pre W):DF (U (R w)) W:=by
 obtain⟨v,f,d⟩:=h.row;intro k a;rw[qg f]at a;exact(d.lt k a).2
def WIv.own{w:World}{bt:Option Nat}(y:∀r,bt=xk r->r<U (R w)):OwnP bt (U (R w)+4) (WIv w bt):=by
 intro s X Y row h d l;have f:∀k,U (R w)<=k->k<U (R w)+4->xk k≠row:=by
  intro k u x e;obtain n|⟨n,_⟩:=l k e.symm;grind;omega
 obtain⟨v,A,a⟩:=h.row;refine⟨⟨v,A.kept d (f _ (ZdU _) Z0),a.kept d ?_⟩,h.e.kept d (f _ Z0 Z0),SQ h.gr d λr e=>(l r e).imp id λx=>Z0,Zes h.size d.size⟩;cases p:v.ownBlock with
 |none=>simp
 |some b=>
  refine .inr λe=> ?_;have u:=a.lt b p;obtain n|⟨_,o,q,z⟩:=l b e.symm;grind;obtain⟨rfl,_⟩|⟨g,cap,t,rfl,_,j,_⟩:=a.2;simp[Value.ownBlock]at p;obtain rfl:g=b:=by grind [Value.ownBlock]
  rw[j]at q;cases q;cases z
def WIv.appended{w W w1:World}{bt:Option Nat}{pre:List Ob}{x:Ob}{v v':Value}{tmp:Obj}(C:∀r,bt=xk r->r<U (R w))(h:WIv w bt pre W)(A:Boxed W (U (R w)) 55 v)
  (g:W.ownsRow (U (R w)+4) 59 5 v (P pre) (WI pre)) (d:w1.ownsRow (U (R w)+4) 59 5 v' (P pre+1) (WI pre++Ts x))
  (a:(W.alloc tmp).grownBy w1 v.ownBlock) (f:v'.ownBlock=v.ownBlock\/v'.ownBlock=xk (U (R (W.alloc tmp)))):
  Boxed w1 (U (R w)) 55 v/\KeepsFrom (U (R w)+4) W (w1.setCell ⟨U (R w),0,xw⟩ v')/\KpW (U (R w)) (U (R w)+4) W (w1.setCell ⟨U (R w),0,xw⟩ v')/\WIv w bt (pre++[x]) (w1.setCell ⟨U (R w),0,xw⟩ v'):=by
 have u:=h.size;obtain⟨y,l,F,j,B⟩:=A.appended Zd7 (yD g (B':=U (R w)) Z0) Z0 (ZdU _) (yD d (B':=U (R w)) Z0) a;have z:∀b,v.ownBlock=xk b->U (R w)+4<=b:=λb p=>(g.lt b p).1;have t:(w1.setCell ⟨U (R w),0,xw⟩ v').ownsRow (U (R w)+4) 59 5 v' (P pre+1) (WI pre++Ts x):=d.kept (Zh0 w1 (U (R w)) v') (by
  cases p:v'.ownBlock with
  |none=>simp
  |some b=>exact .inr λe=>by have G:=(d.lt b p).1;grind)
 refine⟨y,j.from _,⟨j.size,λk o n H D I=> ?_,λk n e=> ?_⟩,⟨v',l,?_⟩,?_,?_,Zes u j.size⟩;rw[Zen _ _ _ _ D,a.block k (by have:=YC n;simp;omega) (λe=> ?_),ZdY _ _ _ (YC n),n];grind [qg,trans];rw[qg l]at e;rw[qg A];obtain f|f:=f;simp_all;rw[f]at e;simp at e;omega;simp_all[ZeK,Z4d];have q:Boxed w1 (U (R w)+1) 32 (.int .i64 0):=(h.e.alloc tmp).kept a (λe=>ZcN);exact(Zen _ _ _ _ Z1).trans q;refine SQ (SQ (SQ h.gr (Zfi W tmp xw) Z1) a λr e=>.inr ?_) (Zh0 w1 (U (R w)) v') λr e=>.inr ?_;grind;simp_all
def KpW.alloc{a base:Nat}{W:World}(o:Obj)(f:a<U (R W)):KpW a base W (W.alloc o):=by
 refine⟨Z1,λk h d _ _ _=>(ZdY _ _ _ (YC d)).trans d,λk _ g=> ?_⟩;simp_all[Uz,Zfl]
end Vm
namespace Vm
open Go Go.Proofs Go.RowKit Go.Shelf
attribute [local go_sem] Oper.semAt_some
def Z2S:(Sol.prog.info? 59).map (λi=>(i.zero,i.size,i.bytes))=xk (xk (.agg #[.int .i64 0,.int .i64 0,.int .i64 0,.bool xh,.int .u64 0]),5,40):=Z2
def unO:Sol.prog.underlying 55=xk (.slice 59):=Z2
def Z0z(w:World)(a b c d e:Value)(t:TypeId):∀j u,[a,b,c,d,e][j]?=xk u->(w.alloc (.cells #[a,b,c,d,e] t)).cell? ((⟨U (R w),0,xw⟩:Addr).add j)=xk u:=by
 intro j u h;have:=Ze6 _ _ j _ _ _ (Zej w (.cells #[a,b,c,d,e] t));grind [add,Addr.add]
def DK(w:World)(ws:List Int)(shs:List (Int×Int))(old:Bool)(bt:Option Nat)(K:Nat->World->Prop)(e:Ending)(W:World):Prop:=
 ∃v n a,e=.returned (.tuple #[v,.int .i64 n])/\w.grownBy W bt/\W.ownsRow (U (R w)+4) 59 5 v (P a) (WI a)/\((n=0/\LU ws shs old K a W)\/((n=2\/n=3)/\a=[]/\ZP ws shs old=([],n)))
def Oj{w:World}{ws:List Int}{g o cap:Nat}{bt:Option Nat}{p j:Value}{shs:List (Int×Int)}{old:Bool}{K:Nat->World->Prop}(hw:Words w ws g o cap)
  (a9:p=.slice (xk ⟨g,o,xw⟩) (xq ws) cap\/(ws=[]/\∃a c,p=.slice a 0 c)) (hg:(ws≠[]->g<xz (xj w))/\g<xz (xj w)+4/\g≠xz (xj w)) (c5:j=.nilFunc\/∃f vs,j=.func (.func f) #[] vs)
  (T:∀r,bt=xk r->r<xz (xj w)) (c0:xk g≠bt) (a4:Lq ws g o cap j shs old bt K) (b4:K 0 w)
  (z:∀t A B row,K t A->A.grownBy B row->(∀r,row=xk r->xz (xj w)<=r)->K t B)
  (b6:∀bl base t A B,xz (xj w)<=bl->xz (xj w)<=base->K t A->KpW bl base A B->K t B):
  Calls Sol.prog 128 #[p,j] w (DK w ws shs old bt K):=by
 refine(Zhk (n:=5)).1 ?_;have f4:∀(fn:Go.Fn) (first cap:Array Value) (w:World),(Instr.makeFunc fn first cap).run Sol.prog w=.ok (.func fn first cap) w:=λ_ _ _ _=>rfl;have d5:∃a n c,p=.slice a n c:=by
  obtain rfl|⟨_,a,c,rfl⟩:=a9;simp;simp
 refine callsIn_of_wp_marks Sol.func128 rfl trivial ?_ rfl;simp only[Try.ntmps128,Zfg,Zfd,Zfq,Nat.reduceAdd,Nat.reduceSub,Zgr,Zgs,ZgP,Zgz,ZeR,Zf7];have he:=λW=>Z0O W p j d5 c5;gi_wp2
 refine⟨trivial,(Zhk.2 (he _)).mono ?_⟩;rintro e w1 ⟨rfl,rfl⟩;gi_wp2
 have a0:∀b:Nat,b<xz (xj w)->((((w.alloc (Obj.cells #[.slice xw 0 0] 55)).alloc (.cells #[.int .i64 0] 32)).alloc (.cells #[p] 35)).alloc (.cells #[j] 190)).heap[b]?=w.heap[b]? :=λb hb=>by
  grind [Below.heap_alloc]
 have b0:Boxed ((((w.alloc (Obj.cells #[.slice xw 0 0] 55)).alloc (.cells #[.int .i64 0] 32)).alloc (.cells #[p] 35)).alloc (.cells #[j] 190)) (xz (xj w)) 55 (.slice xw 0 0):=(((Boxed.new w _ _).alloc _).alloc _).alloc _;have b1:Boxed ((((w.alloc (Obj.cells #[.slice xw 0 0] 55)).alloc (.cells #[.int .i64 0] 32)).alloc (.cells #[p] 35)).alloc (.cells #[j] 190)) (xz (xj w)+1) 32 (.int .i64 0):=by
  have:=((Boxed.new (w.alloc (Obj.cells #[.slice xw 0 0] 55)) 32 (.int .i64 0)).alloc (.cells #[p] 35)).alloc (.cells #[j] 190);rwa[World.size_alloc]at this
 have b2:Boxed ((((w.alloc (Obj.cells #[.slice xw 0 0] 55)).alloc (.cells #[.int .i64 0] 32)).alloc (.cells #[p] 35)).alloc (.cells #[j] 190)) (xz (xj w)+2) 35 p:=by
  have:=(Boxed.new ((w.alloc (Obj.cells #[.slice xw 0 0] 55)).alloc (.cells #[.int .i64 0] 32)) 35 p).alloc (.cells #[j] 190);simp_all
 have b3:Boxed ((((w.alloc (Obj.cells #[.slice xw 0 0] 55)).alloc (.cells #[.int .i64 0] 32)).alloc (.cells #[p] 35)).alloc (.cells #[j] 190)) (xz (xj w)+3) 190 j:=by
  have:=Boxed.new (((w.alloc (Obj.cells #[.slice xw 0 0] 55)).alloc (.cells #[.int .i64 0] 32)).alloc (.cells #[p] 35)) 190 j;simp_all
 have I:w.grownBy ((((w.alloc (Obj.cells #[.slice xw 0 0] 55)).alloc (.cells #[.int .i64 0] 32)).alloc (.cells #[p] 35)).alloc (.cells #[j] 190)) bt:=⟨rfl,rfl,rfl,ZcP,λk Z _=>a0 k Z⟩;have N:xz (xj ((((w.alloc (Obj.cells #[.slice xw 0 0] 55)).alloc (.cells #[.int .i64 0] 32)).alloc (.cells #[p] 35)).alloc (.cells #[j] 190)))=xz (xj w)+4:=Z1;generalize f2:(((w.alloc (Obj.cells #[.slice xw 0 0] 55)).alloc (.cells #[.int .i64 0] 32)).alloc (.cells #[p] 35)).alloc (.cells #[j] 190)=W0 at*;have d6:Stat6 ws g o cap p (xz (xj w)+2) (xz (xj w)+3) (xz (xj w)+4) (xz (xj w)) bt j W0:=by
  refine⟨⟨λi x F=> ?_,hw.le,hw.cap,hw.len,hw.u64⟩,a9,b2,b3,λhn=> ?_,⟨Z0,Z0,Z0,Z0⟩,⟨Z0,Z0,Z0⟩,c0,?_,?_⟩;rw[<-hw.at_ i x F];grind [World.cell?_of_block];obtain⟨x,F⟩:∃x,ws[0]?=xk x:=by cases ws with|nil=>simp_all|cons x l=>simp
  have:=hw.at_ 0 x F;rw[a0 g (hg.1 hn)];unfold World.cell? at this;cases hh:w.heap[g]? with
  |none=>simp_all
  |some ob=>
   refine⟨ob,rfl,?_⟩;grind [Obj.isCells]
  grind;grind
 have a3:K 0 W0:=z 0 w W0 xw b4 ⟨I.os,I.tape,I.output,I.size,λk Z _=>a0 k Z⟩ Z1;have a8:=Z0N 4 d6 Z0 (λe=>ZcN) a4 a3 (λt A B hA M=>z t A B xw hA ⟨M.os,M.tape,M.output,M.size,λk Z _=>M.block k Z⟩ Z1) (λt A B hA M=>b6 _ _ t A B (ZdU _) Z0 hA M);refine Z8o rfl Z0 (gf:=132) (lb:=#[.pointer (xk ⟨xz (xj w)+2,0,xw⟩),.pointer (xk ⟨xz (xj w)+3,0,xw⟩)]) rfl trivial (enters_of Sol.func132 Z2 rfl)
  a8 (λr e=>ZcN) KpW.trans (λW l o o' h1 h2 h3 _=>KpW.put o' h2 h3 Z0) (Zeh _ _) (λ_=>rfl)
  (WIv w bt) (N▸WIv.own T) (λpre W h=>h.rowIn) ⟨⟨_,b0,Zff _ _ _ _⟩,b1,I,Z0⟩ ?hS
  (λx a' W=>∃y,xz (xj w)+4<=y/\W.heap[y]?=xk (.cells #[.int .i64 x.at_,.int .i64 x.size,.int .i64 x.ptrs,.bool x.gone,.int .u64 x.target] 59 (0,0))/\
   a'= {tmps:=#[p,j,undef,undef,.pointer (xk ⟨xz (xj w),0,xw⟩),.pointer (xk ⟨xz (xj w)+1,0,xw⟩),.pointer (xk ⟨y,0,xw⟩),
    .func (.func 130) #[] #[.pointer (xk ⟨xz (xj w),0,xw⟩),.pointer (xk ⟨xz (xj w)+1,0,xw⟩)],p,j,.func (.func 132) #[] #[.pointer (xk ⟨xz (xj w)+2,0,xw⟩),.pointer (xk ⟨xz (xj w)+3,0,xw⟩)],WH x,undef,undef,undef,undef,undef],defers:=[]})
  ?hAx ?assign ?body ?done ?panic
 case hS=>
  rintro u X Y row ⟨t,hK,hR⟩ J d;exact⟨t,z t X Y row hK J λr e=>(d r e).elim (λe2=>by cases e2) (λe2=>Z0),hR⟩
 case hAx=>
  rintro x a' s X Y row ⟨y,M,F,ha⟩ J d;refine⟨y,M,(J.block y (YC F) λe=> ?_).trans F,ha⟩;obtain e2|⟨_,o2,h2,h3⟩:=d y e.symm;cases e2;rw[F]at h2;cases h2;cases h3
 case assign=>
  rintro l pre x W K2 q b5;simp only[List.zip_cons_cons,Array.zip,WH];gi_wp2
  exact b5 _ _ ((KeepsOthers.alloc W _).from _) (KpW.alloc _ (by have:=q.size;omega)) ((WIv.own T).alloc _ q) ⟨xz (xj W),q.size,Zej W _,rfl⟩
 case body=>
  rintro l pre x a' W q ⟨y,e9,F,rfl⟩ a6;obtain⟨v,O,d⟩:=q.row;obtain⟨i0,c6,d7,d8,d9⟩:=info_parts Z2S;obtain⟨G,H,rfl⟩:=Yn d;have c1:=O.cell;have c2:=O.frozen;have d0:W.cell? ⟨y,0,xw⟩=xk (.int .i64 x.at_):=ZcW;have d1:W.cell? ⟨y,1,xw⟩=xk (.int .i64 x.size):=ZcW;have d2:W.cell? ⟨y,2,xw⟩=xk (.int .i64 x.ptrs):=ZcW;have d3:W.cell? ⟨y,3,xw⟩=xk (.bool x.gone):=ZcW;have d4:W.cell? ⟨y,4,xw⟩=xk (.int .u64 x.target):=ZcW;have f5:xq pre<=1000000:=Zes (Nat.le_of_lt a6) hw.len;have e8:=q.size;have HA:=λtmp w1 v'=>WIv.appended (W:=W) (w1:=w1) (x:=x) (v':=v') (tmp:=tmp) T q O d;gi_wp2_with (gi_at_builtin;refine wpListIn_append_own_at _ rfl _ _ 55 rfl (xz (xj w)+4) 59 i0 _ 5 40 unO c6 d7 d8 d9 rfl Zd7 _ _ _ rfl (d.alloc _) ⟨xz (xj W),0,xw⟩ 1 1 (Ts x) rfl rfl (Z0z _ _ _ _ _ _ _) (by simp[Ts,Value.oneCell']) ZdG Z0 ZcP ?_;intro v' w1 L U _ b8;obtain⟨g',e7,rfl⟩:=ownsRow_succ L;obtain⟨e1,e2,e3,e4⟩:=HA _ _ _ L U b8;have e5:=e1.cell;have e6:=e1.frozen)
  rw[N];exact⟨e2,e3,e4⟩
 case done=>
  rintro D u W hD hS q S;obtain⟨v,O,d⟩:=q.row;obtain⟨G,H,rfl⟩:=Yn d;have c1:=O.cell;have c2:=O.frozen;have c3:=q.e.cell;have c4:=q.e.frozen;rw[N]at hD;gi_wp2
  have a2:((W.setCell ⟨xz (xj w),0,xw⟩ (.slice G (xq u) H)).setCell ⟨xz (xj w)+1,0,xw⟩ (.int .i64 0)).heap[D]?=xk (.deferred (xk [])):=by
   rw[Zen _ _ _ _ ZcN,Zen _ _ _ _ ZcN];exact S
  have f0:Boxed ((W.setCell ⟨xz (xj w),0,xw⟩ (.slice G (xq u) H)).setCell ⟨xz (xj w)+1,0,xw⟩ (.int .i64 0)) (xz (xj w)) 55 (.slice G (xq u) H):=
   (Zen _ _ _ _ Z1).trans (O.set _)
  have f1:Boxed ((W.setCell ⟨xz (xj w),0,xw⟩ (.slice G (xq u) H)).setCell ⟨xz (xj w)+1,0,xw⟩ (.int .i64 0)) (xz (xj w)+1) 32 (.int .i64 0):=
   Boxed.set _ (show Boxed (W.setCell ⟨xz (xj w),0,xw⟩ (.slice G (xq u) H)) (xz (xj w)+1) 32 (.int .i64 0)from(Zen _ _ _ _ Z1).trans q.e)
  have g1:=Zh0 W (xz (xj w)) (.slice G (xq u) H);have g2:=Zh0 (W.setCell ⟨xz (xj w),0,xw⟩ (.slice G (xq u) H)) (xz (xj w)+1) (.int .i64 0);have P:=d.lt;have r2:=(d.kept g1 (by
   cases hb:(Value.slice G (xq u) H).ownBlock with
   |none=>simp
   |some b=>exact .inr λe=>by have:=(P b hb).1;grind)).kept g2 (by
   cases hb:(Value.slice G (xq u) H).ownBlock with
   |none=>simp
   |some b=>exact .inr λe=>by have:=(P b hb).1;grind)
  generalize f3:(W.setCell ⟨xz (xj w),0,xw⟩ (.slice G (xq u) H)).setCell ⟨xz (xj w)+1,0,xw⟩ (.int .i64 0)=W2 at*;have g3:=Zhb W2 D (.deferred xw);have Q:Boxed (W2.putObj D (.deferred xw)) (xz (xj w)) 55 (.slice G (xq u) H):=(Zf1 Z0).trans f0;have R:Boxed (W2.putObj D (.deferred xw)) (xz (xj w)+1) 32 (.int .i64 0):=(Zf1 Z0).trans f1;have k0:=Q.cell;have k1:=R.cell;refine⟨Z1,.inl ⟨D,_,rfl,run_takeDeferred a2,?_⟩⟩;refine⟨Z1,.inr ⟨λh=>ZcY,.func 130,_,130, #[.pointer (xk ⟨xz (xj w),0,xw⟩),.pointer (xk ⟨xz (xj w)+1,0,xw⟩)],rfl,ZdJ,λ_ _=>trivial,?_⟩⟩;refine(Z0u _ _ _ _).mono ?_;rintro e u' e0 ⟨rfl,rfl,rfl⟩;refine⟨.tuple #[.slice G (xq u) H,.int .i64 0],by simp[results,Try.results128,go_sem,k0,k1],?_⟩;obtain⟨t,hK,hR⟩:=hS;refine⟨_,0,u,rfl,SQ (SQ (SQ q.gr g1 λr e=>.inr ?_) g2 λr e=>.inr ?_) g3 λr e=>.inr ?_,ownsRow_putObj r2 _ a2 rfl,.inl ⟨rfl,t,z t _ _ _ (z t _ _ _ (z t _ _ _ hK g1 λr e=> ?_) g2 λr e=> ?_) g3 λr e=> ?_,hR⟩⟩;all_goals (grind)
 case panic=>
  rintro D chain pre W hD ⟨e,b9,rfl,b7⟩ q S;rw[N]at hD;obtain⟨v,O,d⟩:=q.row;have g3:=Zhb W D (.deferred xw);have Q:Boxed (W.putObj D (.deferred xw)) (xz (xj w)) 55 v:=(Zf1 Z0).trans O;have R:Boxed (W.putObj D (.deferred xw)) (xz (xj w)+1) 32 (.int .i64 0):=(Zf1 Z0).trans q.e;have C:w.grownBy (W.putObj D (.deferred xw)) bt:=SQ q.gr g3 λr e=>.inr ZcN;refine⟨Z1,.inl ⟨D,_,rfl,run_takeDeferred S,?_⟩⟩;refine⟨Z1,.inr ⟨λh=>ZcY,.func 130,_,130, #[.pointer (xk ⟨xz (xj w),0,xw⟩),.pointer (xk ⟨xz (xj w)+1,0,xw⟩)],rfl,ZdJ,λ_ _=>trivial,?_⟩⟩;refine(Z0v _ (xz (xj w)) (xz (xj w)+1) e _ _ _ Q R Z0).mono ?_;rintro e' u' e0 ⟨rfl,rfl,h0,h1,⟨c8,Z⟩,c7,a1,a7⟩;have k0:=h0.cell;have k1:=h1.cell;refine⟨.tuple #[.slice xw 0 0,.int .i64 e],by simp[results,Try.results128,go_sem,k0,k1],?_⟩;refine⟨_,e,[],rfl,⟨c7.trans C.os,a1.trans C.tape,a7.trans C.output,Zes C.size c8,λk a5 hn=> ?_⟩,Zff _ _ _ _,.inr ⟨b9,rfl,b7⟩⟩;exact(Z k (Ze1 a5 C.size) Z0 Z0).trans (C.block k a5 hn)
end Vm
namespace Vm
open Go Go.Proofs Go.RowKit Go.Shelf
theorem Sh{w:World}{G:Nat->Prop}{k:IntKind}{n:Int}{v:Value}(r:Rd w G (.int k n) v):v=.int k n:=by cases r;rfl
theorem MI{w:World}{G:Nat->Prop}{b:Bool}{v:Value}(r:Rd w G (.bool b) v):v=.bool b:=by cases r;rfl
def Ou{w:World}{G:Nat->Prop}{ws:List Int}{v:Value}(r:Rd w G (.sl (ws.map vu)) v)(p:∀b,G b->b<U (R w))(B:P ws<=1000000)(C:∀x∈ws,ZC x)(q:Nat):
  ∃g o cap,Words w ws g o cap/\(v=.slice (xk ⟨g,o,xw⟩) (P ws) cap\/(ws=[]/\∃a c,v=.slice a 0 c))/\((ws≠[]->g<U (R w))/\(g<(U (R w))\/g=q)):=by
 generalize t:ws.map vu=L at r;cases r with
 |nil a cap D=>
  have:ws=[]:=List.map_eq_nil_iff.1 t;subst this;exact⟨q,0,0,⟨λi x d=>ZdB,Z1,ZdG,Z1,Z1⟩,.inr ⟨rfl,a,cap,rfl⟩,λh=>absurd rfl h,.inr rfl⟩
 |sl _ b o cap k vs f y j l n z=>
  subst t;simp only[Zem]at f n⊢;refine⟨b,o,cap,⟨λi x d=> ?_,f,y,B,C⟩,.inl rfl,λ_=>p b j,.inl (p b j)⟩;have u:(ws.map vu)[i]?=xk (vu x):=by rw[Zed,d];rfl
  have A:k=1:=((l _ (ZdW u)).1).symm;subst A;have F:i<P ws:=(ZdQ.1 d).1;rw[n i Z0];have:=z i (vu x) (by have:=VH l u 0 Z0;simp_all);rw[Sh this]
def Z74{w:World}{G:Nat->Prop}{shs:List (Int×Int)}{v:Value}(r:Rd w G (.sl (shs.map Wh)) v)(t:∀b,G b->b<U (R w)):
  (∃g o cap,v=.slice (xk ⟨g,o,xw⟩) (P shs) cap/\P shs<=cap/\cap<=maxLen/\g<U (R w)/\∀(i:Nat) (x:Int×Int),shs[i]?=xk x->w.cell? ⟨g,o+i*2,xw⟩=xk (.int .i64 x.1)/\w.cell? ⟨g,o+i*2+1,xw⟩=xk (.int .i64 x.2))\/
  (∃a cap,v=.slice a 0 cap/\shs=[]):=by
 generalize u:shs.map Wh=L at r;cases r with
 |nil a cap B=>
  simp_all
 |sl _ b o cap k vs h n p d q j=>
  subst u;simp only[Zem]at h q⊢;refine .inl ⟨b,o,cap,rfl,h,n,t b p,λi x l=> ?_⟩;have f:(shs.map Wh)[i]?=xk (Wh x):=by rw[Zed,l];rfl
  have y:k=2:=((d _ (ZdW f)).1).symm;subst y;have C:i<P shs:=(ZdQ.1 l).1;have z:=j (i*2) (vi x.1) (by have:=VH d f 0 Z0;simp_all);have A:=j (i*2+1) (vi x.2) (by have:=VH d f 1 Z0;simp_all);grind [Sh,Nat.add_assoc]
def I1{w:World}{G:Nat->Prop}:∀(l:List Ob) (i:Nat) (c:V),(flat (l.map ZL))[i]?=xk c->Rd w G c ((WI l).getD i undef)
 | [],i,c,h=>ZcO
 |x::l,i,c,h=>by
  rw[Zeb,SN]at h;have e:WI (x::l)=Ts x++WI l:=by simp[WI]
  rw[e];by_cases d:i<5
  match i,d with
  |0,_=>simp[ZL,V.cells]at h;subst h;exact .int _ _
  |1,_=>simp[ZL,V.cells]at h;subst h;exact .int _ _
  |2,_=>simp[ZL,V.cells]at h;subst h;exact .int _ _
  |3,_=>simp[ZL,V.cells]at h;subst h;exact .bool _
  |4,_=>simp[ZL,V.cells]at h;subst h;exact .int _ _
  have a:(flat (l.map ZL))[i-5]?=xk c:=by
   rw[Zef ZcO]at h;simpa[ZL,V.cells]using h
  have:=I1 (w:=w) (G:=G) l (i-5) c a;have f:(Ts x++WI l).getD i undef=(WI l).getD (i-5) undef:=by
   simp only[List.getD_eq_getElem?_getD];rw[Zef (by grind [Ts])];simp[Ts]
  simp_all
def Z4e(l:List Ob):∀x∈l.map ZL,V.fits 5 x:=by
 intro x d;obtain⟨o,_,rfl⟩:=Ze4.1 d;exact⟨rfl,λc a=>by simp[ZL,V.cells]at a;obtain rfl|rfl|rfl|rfl|rfl:=a<;>rfl⟩
def I2{w:World}{G:Nat->Prop}{B:Nat}{e:TypeId}{v:Value}{l:List Ob}(h:w.ownsRow B e 5 v (P l) (WI l))(n:∀c,B<=c->c<U (R w)->G c):Rd w G (.sl (l.map ZL)) v:=by
 have a:P (WI l)=P l*5:=h.1;obtain⟨rfl,k⟩|⟨g,cap,j,rfl,o,q,t,d,_⟩:=h.2;have:l=[]:=Zfx.1 k;subst this;exact .nil _ _ ZdG;have:=Rd.sl (w:=w) (G:=G) (l.map ZL) g 0 cap 5 (λi=>(WI l).getD i undef) ZcO d (n g o (YC q)) (Z4e l) (λi r=>by
   have f:i< P (WI l):=by rw[a];simpa using r
   rw[ZeC,h.cellAt i Z0];simp[f]) (λi c p=>I1 l i c p)
 simp_all
def Z8c{ws:List Int}{shs:List (Int×Int)}{old:Bool}{K:Nat->World->Prop}{n:Int}{xs:List Ob}{W:World}(a:shs=[])(h:(n=0/\LU ws shs old K xs W)\/((n=2\/n=3)/\xs=[]/\ZP ws shs old=([],n))):ZP ws shs old=(xs,n):=by
 subst a;obtain⟨rfl,t,_,h⟩|⟨_,rfl,h⟩:=h;simp_all;exact h
def jb:Rn:=by
 intro S M N;refine⟨Z2,λw G vs I p q=> ?_⟩;have r0:=q 0 _ rfl;obtain⟨⟨l⟩⟩:=vs;simp at p;rename_i v0 l;cases l with
 |cons _ _=>simp at p
 |nil=>
  simp at r0;obtain⟨g,o,cap,C,k,x,L⟩:=Ou r0 I M N (xz (xj w)+1);have z:=Oj (w:=w) (shs:=[]) (old:=xh) (bt:=xw) (K:=λt _=>t=0) C k ⟨x,Z0,Z0⟩ (.inl rfl) Z1 Z1 PT rfl (λt A B row h _ _=>h) (λO base t A B _ _ h _=>h);obtain⟨Q,R,sc,rfl⟩:∃a n c,v0=.slice a n c:=by
   obtain rfl|⟨_,a,c,rfl⟩:=k;simp;simp
  have D:=ZdX z;clear z C k r0 q;go_enter Sol.func117,Try.ntmps117;go_wp2_with (go_at_call 128;refine D.out.mono ?_;rintro e w1 ⟨v,n,T,rfl,f,d,u⟩;have F:=ZdX (And.intro f (And.intro d u));clear f d u)
  obtain⟨f,d,u⟩:=F.out;have J:=Z8c rfl u;refine ZeP (v:=.tuple #[v,.int .i64 n]) (by simp[results,Try.results117,go_sem]) rfl ⟨_,rfl,(Zeh _ w).grown f (ZdU _) (λj e=>by cases e),?_⟩;rw[J];refine .tup _ _ rfl ?_;intro i y r
  match i,r with
  |0,r=>cases r;exact I2 d λc P H=>.inr ⟨Z0,H⟩
  |1,r=>cases r;exact .int _ _
def KpW.cell{l base:Nat}{A B:World}(h:KpW l base A B){k i:Nat}{c:Value}(hc:A.cell? ⟨k,i,xw⟩=xk c)(n:k<base)(o:k≠l):B.cell? ⟨k,i,xw⟩=xk c:=by
 have d:=hc;unfold World.cell? at hc;cases f:A.heap[k]? with
 |none=>simp_all
 |some j=>
  have g:j.isCells=xy:=by
   rw[f]at hc;cases j<;>simp_all [Obj.isCells]
  rw[<-d];exact ZeT (a:=⟨k,i,xw⟩) ((h.same k j f g o (.inl n)).trans f.symm)
def KOld.grown{shs:List (Int×Int)}{bt a t n:Nat}{v:Value}{A B:World}{row:Option Nat}(h:KOld shs bt a v t A)(f:A.grownBy B row)(p:bt<n)(l:a<n)(x:shs≠[]->∀g o cap,v=.slice (xk ⟨g,o,xw⟩) (P shs) cap->g<n)(w:∀r,row=xk r->n<=r):KOld shs bt a v t B:=by
 obtain⟨d,j,k⟩:=h;exact⟨(f.block _ (YC d) (λe=>ZcN)).trans d,j.grown f (λe=>ZcN) (λu g o cap e q=>ZcN),k⟩
def KOld.kp{shs:List (Int×Int)}{bt d t n j base:Nat}{v:Value}{A B:World}(h:KOld shs bt d v t A)(a:KpW j base A B)(u:bt<n)(r:d<n)(w:shs≠[]->∀g o cap,v=.slice (xk ⟨g,o,xw⟩) (P shs) cap->g<n)(D:n<=j)(h2:n<=base):KOld shs bt d v t B:=by
 obtain⟨k1,⟨y,z⟩,C⟩:=h;refine⟨a.same _ _ k1 rfl Z0 (.inl Z0),⟨a.same _ _ y rfl Z0 (.inl Z0),?_⟩,C⟩;obtain⟨g,o,cap,rfl,l,p,q,f⟩|h:=z;refine .inl ⟨g,o,cap,rfl,l,p,Ze1 q a.size,λi x k=> ?_⟩;have:=w (λe=>ZcO) _ _ _ rfl;exact⟨a.cell (f i x k).1 Z0 Z0,a.cell (f i x k).2 Z0 Z0⟩;simp_all
def Words.below2{w W:World}{ws:List Int}{g o cap:Nat}(h:Words w ws g o cap)(d:ws≠[]->g<U (R w))(a:Below (U (R w)) w W):Words W ws g o cap:=
 ⟨λi x f=>by rw[a.cell (p:=⟨g,o+i,xw⟩) (d (λe=>ZcO))];exact h.at_ i x f,h.le,h.cap,h.len,h.u64⟩
def ja:Ro:=by
 intro C d hl a7 hu b2;refine⟨Z2,λw G vs hG L N=> ?_⟩;have r0:=N 0 _ rfl;have r1:=N 1 _ rfl;obtain⟨⟨l⟩⟩:=vs;simp at L;rename_i v0 l;cases l with
 |nil=>simp at L
 |cons v1 l=>
 cases l with
 |cons _ _=>simp at L
 |nil=>
  simp at r0 r1;obtain⟨g,o,cap,hw,K,P,a0⟩:=Ou r0 hG hl hu (xz (xj w)+3);have M:=Z74 r1 hG;obtain⟨sa,sn,sc,rfl⟩:∃a n c,v0=.slice a n c:=by
   obtain rfl|⟨_,a,c,rfl⟩:=K;simp;simp
  obtain⟨k,q,rfl⟩:∃a c,v1=.slice a (xq d) c:=by
   grind
  have b0:((w.alloc (.cells #[.slice k (xq d) q] 180)).alloc (.cells #[.int .i64 0] 3)).heap[xz (xj w)]?=xk (.cells #[.slice k (xq d) q] 180 (0,0)):=(ZdY _ _ _ Z1).trans (Zej w _);have b1:((w.alloc (.cells #[.slice k (xq d) q] 180)).alloc (.cells #[.int .i64 0] 3)).heap[xz (xj w)+1]?=xk (.cells #[.int .i64 0] 3 (0,0)):=by
   have:=Zej (w.alloc (.cells #[.slice k (xq d) q] 180)) (.cells #[.int .i64 0] 3);simp_all
  have z:Below (xz (xj w)) w ((w.alloc (.cells #[.slice k (xq d) q] 180)).alloc (.cells #[.int .i64 0] 3)):=((Zeh _ w).alloc (ZdU _) _).alloc Z1 _;have J:xz (xj ((w.alloc (.cells #[.slice k (xq d) q] 180)).alloc (.cells #[.int .i64 0] 3)))=xz (xj w)+2:=Z1;have a5:d≠[]->∀g o cap,Value.slice k (xq d) q=.slice (xk ⟨g,o,xw⟩) (xq d) cap->g<xz (xj w):=by
   intro T g o cap e;obtain⟨g1,U,c1,Z,_,_,h4,_⟩|⟨_,_,_,h⟩:=M;simp_all;simp_all
  have S:Calls Sol.prog 128 #[.slice sa sn sc,.func (.func 129) #[] #[.pointer (xk ⟨xz (xj w)+1,0,xw⟩),.pointer (xk ⟨xz (xj w),0,xw⟩)]] ((w.alloc (.cells #[.slice k (xq d) q] 180)).alloc (.cells #[.int .i64 0] 3))
    (DK ((w.alloc (.cells #[.slice k (xq d) q] 180)).alloc (.cells #[.int .i64 0] 3)) C d xy (xk (xz (xj w)+1)) (KOld d (xz (xj w)+1) (xz (xj w)) (.slice k (xq d) q))):=by
   generalize a8:(w.alloc (.cells #[.slice k (xq d) q] 180)).alloc (.cells #[.int .i64 0] 3)=Y at*;have I:d≠[]->∀g o cap,Value.slice k (xq d) q=.slice (xk ⟨g,o,xw⟩) (xq d) cap->g<xz (xj Y):=λT g o cap e=>ZcN;refine Oj (hw.below2 P z) K ⟨λh=>ZcN,Z0,Z0⟩ (.inr ⟨_,_,rfl⟩) (λr e=>ZcN) (λe=>ZcN) (PU a7 Z0 (λT g o cap e=>ZcN)) ⟨b1,⟨b0,?_⟩,Z0⟩ (λt A B row h hg hr=>h.grown hg (n:=xz (xj Y)) Z0 Z0 I hr) (λbl base t A B h1 h2 h S=>h.kp S (n:=xz (xj Y)) Z0 Z0 I h1 h2);obtain⟨g1,U,c1,Z,a1,a2,a3,a4⟩|⟨a,c,Z,h⟩:=M;exact .inl ⟨g1,U,c1,Z,a1,a2,Z0,λi x hx=>⟨(z.cell (p:=⟨g1,U+i*2,xw⟩) a3).trans (a4 i x hx).1,(z.cell (p:=⟨g1,U+i*2+1,xw⟩) a3).trans (a4 i x hx).2⟩⟩;simp_all
  have F:∀w1 v n (O:List Ob),(v=.slice xw 0 0/\O=[]\/w1.ownsRow (xz (xj w)+6) 59 5 v (xq O) (WI O))->ZP C d xy=(O,n)->Rd w1 (λb=>xy=xh/\G b\/xz (xj w)<=b/\b<xz (xj w1)) (.tup [.sl ((ZP C d xy).1.map ZL),vi (ZP C d xy).2]) (.tuple #[v,.int .i64 n]):=by
   intro w1 v n O f hW;rw[hW];refine .tup _ _ rfl ?_;intro i y R
   match i,R with
   |0,R=>
    cases R;obtain⟨rfl,rfl⟩|f:=f;exact .nil _ _ ZdG;exact I2 f λc h1 h2=>.inr ⟨Z0,h2⟩
   |1,R=>cases R;exact .int _ _
  have Q:Calls Sol.prog 128 #[.slice sa sn sc,.func (.func 129) #[] #[.pointer (xk ⟨xz (xj w)+1,0,xw⟩),.pointer (xk ⟨xz (xj w),0,xw⟩)]] ((w.alloc (.cells #[.slice k (xq d) q] 180)).alloc (.cells #[.int .i64 0] 3)) λe w1=>
    (∃(v:Value) (t:Nat),e=.returned (.tuple #[v,.int .i64 0])/\w1.cell? ⟨xz (xj w)+1,0,xw⟩=xk (.int .i64 t)/\w1.cell? ⟨xz (xj w),0,xw⟩=xk (.slice k (xq d) q)/\(t:Int)<xq d/\Hid (Below (xz (xj w)) w w1/\Rd w1 (λb=>xy=xh/\G b\/xz (xj w)<=b/\b<xz (xj w1)) (.tup [.sl ((ZP C d xy).1.map ZL),vi (ZP C d xy).2]) (.tuple #[.slice xw 0 0,.int .i64 3])))\/
    (∃(v:Value) (t:Nat),e=.returned (.tuple #[v,.int .i64 0])/\w1.cell? ⟨xz (xj w)+1,0,xw⟩=xk (.int .i64 t)/\w1.cell? ⟨xz (xj w),0,xw⟩=xk (.slice k (xq d) q)/\¬(t:Int)<xq d/\Hid (Below (xz (xj w)) w w1/\Rd w1 (λb=>xy=xh/\G b\/xz (xj w)<=b/\b<xz (xj w1)) (.tup [.sl ((ZP C d xy).1.map ZL),vi (ZP C d xy).2]) (.tuple #[v,.int .i64 0])))\/
    (∃(v:Value) (n:Int),e=.returned (.tuple #[v,.int .i64 n])/\¬n=0/\Hid (Below (xz (xj w)) w w1/\Rd w1 (λb=>xy=xh/\G b\/xz (xj w)<=b/\b<xz (xj w1)) (.tup [.sl ((ZP C d xy).1.map ZL),vi (ZP C d xy).2]) (.tuple #[.slice xw 0 0,.int .i64 n]))):=by
   refine S.mono ?_;rintro e w1 ⟨v,n,O,rfl,a6,f,hE⟩;rw[J]at f;have hB:Below (xz (xj w)) w w1:=z.trans ((Zeh _ _).grown a6 Z0 (λj e=>ZcN));obtain⟨rfl,t,⟨hb,hs,ht⟩,u⟩|⟨T,rfl,u⟩:=hE;have W:w1.cell? ⟨xz (xj w)+1,0,xw⟩=xk (.int .i64 t):=by rw[Ze6 _ _ _ _ _ _ hb];rfl
   have X:w1.cell? ⟨xz (xj w),0,xw⟩=xk (.slice k (xq d) q):=by rw[Ze6 _ _ _ _ _ _ hs.box];rfl
   by_cases D:t<xq d;rw[if_pos D]at u;exact .inl ⟨v,t,rfl,W,X,Z0,ZdX ⟨hB,F w1 _ _ [] (.inl ⟨rfl,rfl⟩) u⟩⟩;rw[if_neg D]at u;exact .inr (.inl ⟨v,t,rfl,W,X,Z0,ZdX ⟨hB,F w1 _ _ O (.inr f) u⟩⟩);exact .inr (.inr ⟨v,n,rfl,Z0,ZdX ⟨hB,F w1 _ _ [] (.inl ⟨rfl,rfl⟩) u⟩⟩)
  have HK:=ZdX Q;clear hw K r0 r1 N M P a0 S Q z b0 b1 a5 J F;go_enter Sol.func119,Try.ntmps119;have a9:∀(fn:Go.Fn) (first cap:Array Value) (w:World),(Instr.makeFunc fn first cap).run Sol.prog w=.ok (.func fn first cap) w:=λ_ _ _ _=>rfl;go_wp2_with (go_at_call 128;refine HK.out.mono ?_;rintro e w1 (⟨v,t,rfl,W,X,D,H⟩|⟨v,t,rfl,W,X,D,H⟩|⟨v,n,rfl,T,H⟩))
  .refine ZeP (v:=.tuple #[.slice xw 0 0,.int .i64 3]) (by simp[results,Try.results119,go_sem]) rfl ⟨_,rfl,H.out.1,H.out.2⟩
  .refine ZeP (v:=.tuple #[v,.int .i64 0]) (by simp[results,Try.results119,go_sem]) rfl ⟨_,rfl,H.out.1,H.out.2⟩
  .refine ZeP (v:=.tuple #[.slice xw 0 0,.int .i64 n]) (by simp[results,Try.results119,go_sem]) rfl ⟨_,rfl,H.out.1,H.out.2⟩
end Vm
namespace Vm
open Go Go.Proofs Go.RowKit
def Z4f{w:World}{G:Nat->Prop}{l:List Ob}{v:Value}(r:Rd w G (.sl (l.map ZL)) v)(u:∀b,G b->b<U (R w)):
  (∃g o cap,v=.slice (xk ⟨g,o,xw⟩) (P l) cap/\P l<=cap/\cap<=maxLen/\g<U (R w)/\∀(i:Nat) (x:Ob),l[i]?=xk x->w.cell? ⟨g,o+i*5,xw⟩=xk (.int .i64 x.at_)/\w.cell? ⟨g,o+i*5+1,xw⟩=xk (.int .i64 x.size)/\
   w.cell? ⟨g,o+i*5+2,xw⟩=xk (.int .i64 x.ptrs)/\w.cell? ⟨g,o+i*5+3,xw⟩=xk (.bool x.gone)/\w.cell? ⟨g,o+i*5+4,xw⟩=xk (.int .u64 x.target))\/
  (∃a cap,v=.slice a 0 cap/\l=[]):=by
 generalize y:l.map ZL=L at r;cases r with
 |nil a cap H=>
  simp_all
 |sl _ b o cap k vs j p q d t h=>
  subst y;simp only[Zem]at j t⊢;refine .inl ⟨b,o,cap,rfl,j,p,u b q,λi x n=> ?_⟩;have f:(l.map ZL)[i]?=xk (ZL x):=by rw[Zed,n];rfl
  have z:k=5:=((d _ (ZdW f)).1).symm;subst z;have I:i<P l:=(ZdQ.1 n).1;have A:=h (i*5) (vi x.at_) (by have:=VH d f 0 Z0;simp_all);have B:=h (i*5+1) (vi x.size) (by have:=VH d f 1 Z0;simp_all);have C:=h (i*5+2) (vi x.ptrs) (by have:=VH d f 2 Z0;simp_all);have D:=h (i*5+3) (.bool x.gone) (by have:=VH d f 3 Z0;simp_all);have F:=h (i*5+4) (vu x.target) (by have:=VH d f 4 Z0;simp_all);grind [Sh,Nat.add_assoc,MI]
end Vm
end
section

end
section
namespace Vm
open Go Go.Proofs
def Lr{h:Hp}(a:h.ok):VC Sol.prog 25 xh [ZQ h] (.bool (YS h)):=by
 rw[<-(AL h).1];exact OW jb ja a
def OP{h:Hp}(a:h.ok){k:Int}:VC Sol.prog 27 xh [ZQ h,vi k] (.tup [.sl ((Uu h k).1.map ZL),vi (Uu h k).2]):=by
 rw[<-Z3f h k];exact OQ jb ja a
def OY{h:Hp}(a:h.ok):VC Sol.prog 22 xh [ZQ h] (vi (Jq h)):=by
 rw[<-Z3j h];exact OZ jb ja a
end Vm
end
section
namespace Vm
open Go
open Go.Proofs
def IE:Fn:=⟨5,[0,1,2,3,6],
pQ [pR [(1,pS 0 2),(2,.m [pN,pN]),pV 3 (pI 0)],pQ [pC [pK 5 19 [.mm 1 0 2]] [pV 4 (.un .not (.s 5))]] (.cond (.s 4) (pQ [.reg ⟨[],[([],.ag [pN,pN])],[(2,.m [pN,pN]),pV 3 (pI 1)]⟩] .ret) .skip),pC [.callm 6 [] (.id 47) [.fz,(.own 97)] [.mm 1 0 2,.c (.mp 0 [] [])]] [(2,pM (.sz (.ext (.s 6) 0) 2) 2),pV 3 (pI 0)]] .ret,[(2,(.ag 2)),(3,.v)]⟩
def c17:ZM Sol.prog fresh sig [.fz] [] Try.f17=xk IE:=Z2
def IF:Fn:=⟨12,[0,1,2,3,4,5,24,6,29,7,8,63],
pQ [pR [(2,pS 0 2),(3,pS 1 2),pV 4 pF],pC [pK 12 48 [.m 2 1,.m 3 1]] [pV 5 (.s 12)],pQ [.reg ⟨[.lt 13 [] (.un .not (.s 5))],[([(13,xh)],.bin .neq (.len (.m 2 0)) (.len (.m 3 0)))],[pV 6 (.ite (.s 13) pT (.bin .neq (.len (.m 2 0)) (.len (.m 3 0))))]⟩] (.cond (.s 6) (pQ [pR [pV 4 pF]] .ret) .skip),pQ [pR [pV 7 (pI 0)]] (.block 0 (.loop [0,1,2,3,4,5,6,7] (pQ [pQ [pR [pV 8 (.bin .lss (.s 7) (.len (.m 2 0)))]] (.cond (.s 8) .skip (.exit 0)),.block 1 (pQ [pC [pK 14 48 [.fld (.idx (.m 2 0) (.s 7) 2) 0,.fld (.idx (.m 3 0) (.s 7) 2) 0]] [pV 9 (.s 14)],pC [pK 15 49 [.fld (.idx (.m 2 0) (.s 7) 2) 1,.fld (.idx (.m 3 0) (.s 7) 2) 1]] [pV 10 (.s 15)],.reg ⟨[.lt 16 [] (.un .not (.s 9))],[([(16,xh)],.un .not (.s 10))],[pV 11 (.ite (.s 16) pT (.un .not (.s 10)))]⟩] (.cond (.s 11) (pQ [pR [pV 4 pF]] .ret) .skip))] (pR [pV 7 (.bin .add (.s 7) (pI 1))])))),pR [pV 4 pT]] .ret,[(4,.v)]⟩
def c18:ZM Sol.prog fresh sig [.fz,.fz] [] Try.f18=xk IF:=Z2
def IG:Fn:=⟨11,[0,1,2,9,3,14,13,15,5,12,32],
pQ [pR [(1,pS 0 2),pV 2 pF],pQ [pR [pV 3 (.bin .gtr (.len (.m 1 1)) (pI 16))]] (.cond (.s 3) (pQ [pR [pV 2 pF]] .ret) .skip),pR [(4,.no)],pQ [pR [(4,.no),pV 5 (pI 0),pV 6 (.len (.m 1 0)),pV 9 (.m 1 0)]] (.block 0 (.loop [0,1,2,3,4,5,6,9] (pQ [pR [(4,.no),pV 7 (.bin .lss (.s 5) (.s 6))],.cond (.s 7) .skip (.exit 0),.block 1 (pQ [pR [(4,.no),(8,pM (.flds (.idx (.s 9) (.s 5) 2) 0 2) 2)],.reg ⟨[.lt 11 [] (.bin .gtr (.bin .add (.len (.m 8 0)) (.len (.m 8 1))) (pI 255)),.callm 12 [(11,xh)] (.id 50) [.fz,(.mem [.fz,.fz])] [.m 8 0,.ag [.m 1 0,.m 1 1]]],[([(11,xh)],.un .not (.ext (.s 12) 0))],[(1,pM (.ext (.s 12) 1) 2),(4,.no),pV 10 (.ite (.s 11) pT (.un .not (.ext (.s 12) 0)))]⟩] (.cond (.s 10) (pQ [pR [pV 2 pF,(4,.no)]] .ret) .skip))] (pR [(4,.no),pV 5 (.bin .add (.s 5) (pI 1))])))),pC [.callm 13 [] (.id 50) [.fz,(.mem [.fz,.fz])] [.m 1 1,.ag [.m 1 0,.m 1 1]]] [(1,pM (.ext (.s 13) 1) 2),pV 2 (.ext (.s 13) 0),(4,.no)]] .ret,[(2,.v)]⟩
def c19:ZM Sol.prog fresh sig [.fz] [] Try.f19=xk IG:=Z2
def IT:Fn:=⟨11,[0,1,2,4,5,13,12,14,7,11,8],
pQ [pR [(2,pS 0 2),(3,.m [pN,pN])],pR [(4,.m [pN,pN])],pQ [pC [.callm 9 [] (.id 80) [.fz,(.own 97)] [.mm 2 0 2,.s 1]] [pV 1 (.ext (.s 9) 1),pV 5 (pI 0),pV 6 (.len (.ext (.s 9) 0)),pV 9 (.ext (.s 9) 0)]] (.block 0 (.loop [0,1,2,3,4,5,6,9] (pQ [pR [pV 7 (.bin .lss (.s 5) (.s 6))],.cond (.s 7) .skip (.exit 0),.block 1 (pQ [pR [pV 8 (.fld (.idx (.s 9) (.s 5) 1) 0)],pR [(10,pM (.flds (.idx (.m 2 0) (.s 8) 2) 0 2) 2)]] (pC [.call 11 [] (.id 81) xy xh [.m 10 0,.s 1]] [(4,.m [.app (.m 4 0) (.lit [.ag [.one (.s 11),.app pN (.m 10 1) 1]]) 2,.m 4 1])]))] (pR [pV 5 (.bin .add (.s 5) (pI 1))])))),pC [.call 12 [] (.id 81) xy xh [.m 2 1,.s 1]] [(4,.m [.m 4 0,.one (.s 12)])],pR [(3,pM (.mm 4 0 2) 2)]] .ret,[(3,(.ag 2))]⟩
def c47:ZM Sol.prog fresh sig [.fz,(.own 97)] [(1,(.own 97))] Try.f47=xk IT:=Z2
def Bx:Fn:=⟨7,[0,1,4,10,5,14,25],
pQ [pR [pV 2 pF],pQ [pR [pV 3 (.bin .neq (.len (.s 0)) (.len (.s 1)))]] (.cond (.s 3) (pQ [pR [pV 2 pF]] .ret) .skip),pQ [pR [pV 4 (pI 0)]] (.block 0 (.loop [0,1,2,3,4] (pQ [pQ [pR [pV 5 (.bin .lss (.s 4) (.len (.s 0)))]] (.cond (.s 5) .skip (.exit 0)),.block 1 (pQ [pR [pV 6 (.bin .neq (.fld (.idx (.s 0) (.s 4) 1) 0) (.fld (.idx (.s 1) (.s 4) 1) 0))]] (.cond (.s 6) (pQ [pR [pV 2 pF]] .ret) .skip))] (pR [pV 4 (.bin .add (.s 4) (pI 1))])))),pR [pV 2 pT]] .ret,[(2,.v)]⟩
def c48:ZM Sol.prog fresh sig [.fz,.fz] [] Try.f48=xk Bx:=Z2
def IU:Fn:=⟨9,[0,1,3,8,7,9,5,6,20],
pQ [pR [pV 2 pF],pQ [pR [pV 3 (pI 0),pV 4 (.len (.s 0)),pV 7 (.s 0)]] (.block 0 (.loop [0,1,2,3,4,7] (pQ [pR [pV 5 (.bin .lss (.s 3) (.s 4))],.cond (.s 5) .skip (.exit 0),.block 1 (pQ [pR [pV 6 (.fld (.idx (.s 7) (.s 3) 1) 0)],.reg ⟨[.lt 9 [] (.bin .lss (.s 6) (pI (-1)))],[([(9,xh)],.bin .geq (.s 6) (.len (.m 1 0)))],[pV 8 (.ite (.s 9) pT (.bin .geq (.s 6) (.len (.m 1 0))))]⟩] (.cond (.s 8) (pQ [pR [pV 2 pF]] .ret) .skip))] (pR [pV 3 (.bin .add (.s 3) (pI 1))])))),pR [pV 2 pT]] .ret,[(2,.v)]⟩
def c50:ZM Sol.prog fresh sig [.fz,(.mem [.fz,.fz])] [(1,(.mem [.fz,.fz]))] Try.f50=xk IU:=Z2
def KK:Fn:=⟨9,[0,1,2,3,4,5,6,7,17],
pQ [pR [(1,.no),(2,pS 0 2),(3,.m [.s 1]),pV 4 pN],pR [(3,.m [.mclr (.m 3 0)])],pR [(5,.m [pN])],pR [(6,.no)],pC [.callm 9 [] (.id 102) [.fz,(.mem [(.own 97)]),(.mem [(.own 3)])] [.m 2 1,.ag [.m 3 0],.ag [.m 5 0]]] [(3,.m [.fld (.ext (.s 9) 1) 0]),(5,.m [.fld (.ext (.s 9) 2) 0]),(6,.no)],pQ [pR [(6,.no),pV 7 (pI 0)]] (.block 0 (.loop [0,2,3,4,5,6,7] (pQ [pQ [pR [(6,.no),pV 8 (.bin .lss (.s 7) (.len (.m 5 0)))]] (.cond (.s 8) .skip (.exit 0)),.block 1 (pC [.callm 10 [] (.id 102) [.fz,(.mem [(.own 97)]),(.mem [(.own 3)])] [.fld (.idx (.m 2 0) (.fld (.idx (.m 5 0) (.s 7) 1) 0) 2) 0,.ag [.m 3 0],.ag [.m 5 0]]] [(3,.m [.fld (.ext (.s 10) 1) 0]),(5,.m [.fld (.ext (.s 10) 2) 0]),(6,.no)])] (pR [(6,.no),pV 7 (.bin .add (.s 7) (pI 1))])))),pR [pV 4 (.m 5 0),(6,.no)]] .ret,[(4,.v)]⟩
def c80:ZM Sol.prog fresh sig [.fz,(.own 97)] [(3,(.mem [(.own 97)]))] Try.f80=xk KK:=Z2
def M6:Fn:=⟨10,[0,1,4,5,10,9,11,7,8,15],
pQ [pR [pV 2 pN],pR [pV 3 pN],pQ [pR [pV 4 (pI 0),pV 5 (.len (.s 0)),pV 8 (.s 0)]] (.block 0 (.loop [0,1,2,3,4,5,8] (pQ [pR [pV 6 (.bin .lss (.s 4) (.s 5))],.cond (.s 6) .skip (.exit 0),.block 1 (pQ [pR [pV 7 (.fld (.idx (.s 8) (.s 4) 1) 0)],pQ [pR [pV 9 (.bin .geq (.s 7) (pI 0))]] (.cond (.s 9) (pR [pV 7 (.lk (.i .i64) (.s 1) (.s 7) (.int .i64 0) xh)]) .skip)] (pR [pV 3 (.app (.s 3) (.lit [.one (.s 7)]) 1)]))] (pR [pV 4 (.bin .add (.s 4) (pI 1))])))),pR [pV 2 (.s 3),(3,.no)]] .ret,[(2,.v)]⟩
def c81:ZM Sol.prog fresh sig [.fz,.fz] [(4,(.own 3))] Try.f81=xk M6:=Z2
def Iq:Fn:=⟨11,[0,1,2,10,9,11,5,8,6,7,25],
pQ [pR [pV 3 (pI 0),pV 4 (.len (.s 0)),pV 7 (.s 0)]] (.block 0 (.loop [0,1,2,3,4,7] (pQ [pR [pV 5 (.bin .lss (.s 3) (.s 4))],.cond (.s 5) .skip (.exit 0),.block 1 (pQ [pR [pV 6 (.fld (.idx (.s 7) (.s 3) 1) 0)],pR [pV 8 (.fl (.ext (.lk (.i .i64) (.m 1 0) (.s 6) (.int .i64 0) xy) 0)),pV 9 (.fl (.ext (.lk (.i .i64) (.m 1 0) (.s 6) (.int .i64 0) xy) 1))],.reg ⟨[.lt 11 [] (.bin .geq (.s 6) (pI 0))],[([(11,xy)],.un .not (.s 9))],[pV 10 (.ite (.s 11) (.un .not (.s 9)) pF)]⟩] (.cond (.s 10) (pQ [pR [(1,.m [.mput (.i .i64) (.m 1 0) (.s 6) (.len (.m 2 0))])]] (pR [(2,.m [.app (.m 2 0) (.lit [.one (.s 6)]) 1])])) .skip))] (pR [pV 3 (.bin .add (.s 3) (pI 1))])))),[]⟩
def u9:ZM Sol.prog fresh sig [.fz,(.mem [(.own 97)]),(.mem [(.own 3)])] [(1,(.mem [(.own 97)])),(2,(.mem [(.own 3)]))] Try.f102=xk Iq:=Z2
end Vm
end
section
namespace Vm
open Go Go.Proofs
def Gr.sm(g:Gr):Prop:=P g.nodes<=100000/\P g.roots<=100000/\∀n∈g.nodes,P n.ptrs<=100000/\P n.data<=100000
def Ua(n:Nat)(p:Int):Bool:=decide (-1<=p/\p<n)
def Sa(k:Nat)(n:Nd):Bool:=decide (P n.ptrs+P n.data<=255)&&n.ptrs.all (Ua k)
def right(g:Gr):Bool:=decide (P g.roots<=16)&&g.nodes.all (Sa (P g.nodes))&&g.roots.all (Ua (P g.nodes))
theorem DV{α:Type}{p:α->Bool}{l:List α}{i:Nat}{x:α}(h:l[i]?=xk x):(l.take (i+1)).all p=((l.take i).all p&&p x):=by
 rw[ZeM,h,ZhZ];simp
theorem DS{α:Type}{p:α->Bool}{l:List α}{i:Nat}{x:α}(h:l[i]?=xk x)(a:p x=xh):l.all p=xh:=by
 grind
def Fh{l:List Int}{ns:List V}{a:V}(g:P l<=100000)(k:a.one=xy)(j:YR a=xk a):
  Vj Sol.prog 50 [.fz,.mem [.fz,.fz]] [.sl (l.map vi),.agg [.sl ns,a]] (.tup [.bool (l.all (Ua (P ns))),.agg [.sl ns,a]]):=by
 refine Jp Sol.func50 follows Z2 c50 Z2 ?_;simp[-List.all_eq_true,-List.all_eq_false,IU];refine UZ (λt=>∃i:Nat,i<=P l/\(l.take i).all (Ua (P ns))=xy/\t=[.v (.sl (l.map vi)),.m [.sl ns,a],.v (.bool xh),.v (vi i),.v (vi (P l)),.no,.no,.v (.sl (l.map vi))]) (λt=>match get t 3 with|.v (.int _ n)=>P l-n.toNat|_=>0) ?_ ?_;exact⟨0,Z1,Z1,Z1⟩;rintro t ⟨i,f,d,rfl⟩;by_cases h:i<P l;have o:l[i]?=xk l[i]:=ZdO h;simp[-List.all_eq_true,-List.all_eq_false,h];simp(disch:=omega) only[Zy];grind [DS,Ua,DV];have:i=P l:=Z0;simp_all
def Z6k{g:Gr}(r:g.sm):VC Sol.prog 19 xh [Yl g] (.bool (right g)):=by
 obtain⟨u,j,k⟩:=r;refine Y2 Sol.func19 follows Z2 c19 rfl ?_;simp[-List.all_eq_true,-List.all_eq_false,IG];split;grind [List.all_eq_true,List.all_eq_false,right];rename_i h;refine UZ (λt=>∃i:Nat,i<=P g.nodes/\(g.nodes.take i).all (Sa (P g.nodes))=xy/\t=[.v (Yl g),.m [.sl (g.nodes.map Yj),.sl (g.roots.map vi)],.v (.bool xh),.v (.bool xh),.no,.v (vi i),.v (vi (P g.nodes)),.no,.no,.v (.sl (g.nodes.map Yj))]) (λt=>match get t 5 with|.v (.int _ n)=>P g.nodes-n.toNat|_=>0) ?_ ?_;exact⟨0,Z1,Z1,by simp[h]⟩;rintro t ⟨i,z,a,rfl⟩;by_cases d:i<P g.nodes;have A:g.nodes[i]?=xk g.nodes[i]:=ZdO d;obtain⟨q,y⟩:=k _ (Ze5 d);have p:=Zy ((i:Int)+1) Z0 Z0;simp[-List.all_eq_true,-List.all_eq_false,d,p];simp(disch:=omega) only[Zy];have w:Sa (P g.nodes) g.nodes[i]=xh->right g=xh:=λx=>by grind [List.all_eq_true,List.all_eq_false,right,DS]
 by_cases l:(g.nodes[i].ptrs.length:Int)+(g.nodes[i].data.length:Int)<=255;rw[if_pos l];refine VZ (Fh q ZdJ ZdJ) ?_;have f:¬(255:Int)< (g.nodes[i].ptrs.length:Int)+(g.nodes[i].data.length:Int):=Z0;cases o:g.nodes[i].ptrs.all (Ua (P g.nodes));simp[-List.all_eq_true,-List.all_eq_false,f,o];simp_all[ZdZ,Zgn,Sa];simp[-List.all_eq_true,-List.all_eq_false,f,o,p];grind [DV,List.all_eq_true,List.all_eq_false,Sa];rw[if_neg l];grind [List.all_eq_true,List.all_eq_false,Sa];have:i=P g.nodes:=Z0;subst this;simp[-List.all_eq_true,-List.all_eq_false];refine VZ (Fh j ZdJ ZdJ) ?_;rw[Zft]at a;simp[-List.all_eq_true,-List.all_eq_false,right,a];omega
end Vm
namespace Vm
open Go Go.Proofs
def GF{a b:List Int}(g:P a<=100000):VC Sol.prog 48 xh [.sl (a.map vi),.sl (b.map vi)] (.bool (decide (a=b))):=by
 refine Y2 Sol.func48 follows Z2 c48 rfl ?_;by_cases d:P a=P b;simp[Bx,d];refine UZ (λt=>∃i:Nat,i<=P b/\a.take i=b.take i/\t=[.v (.sl (a.map vi)),.v (.sl (b.map vi)),.v (.bool xh),.v (.bool xh),.v (vi i)]) (λt=>match get t 4 with|.v (.int _ n)=>P b-n.toNat|_=>0) ?_ ?_;exact⟨0,Z1,Z1,Z1⟩;rintro t ⟨i,j,heq,rfl⟩;by_cases h:i<P b;have f:i<P a:=Z0;by_cases k:a[i]=b[i];simp_all;simp(disch:=omega) only[Zy];grind [D1];simp_all;grind;simp_all[Zft,ZeX];simp[Bx,show ¬((P a:Int)=(P b:Int))by omega];grind
end Vm
namespace Vm
open Go Go.Proofs
def D8(n:Nat):List V:=(List.range n).map λ(i:Nat)=>vi i
def XF(id:Nat)(l:List Int):V:=.mp id (l.map vi) (D8 (P l))
def Yb:List Int->List Int->List Int
 |a,[]=>a
 |a,x::l=>Yb (if 0<=x/\x∉a then a++[x]else a) l
def jO{x:Int}:∀ {l:List Int},Te (vi x) (l.map vi)=xk (l.findIdx? (· ==x))
 | []=>rfl
 |y::l=>by
  simp only[Zeb,Te,Ke,ZeA,ZgE];by_cases h:x=y;subst h;simp;have a:(x==y)=xh:=by simpa using h
  have d:(y==x)=xh:=by simpa using ZfF h
  simp[a,d,jO]
def zd{x:Int}{l:List Int}:l.findIdx? (· ==x)=xw↔x∉l:=by
 grind
theorem H1{id:Nat}{l:List Int}{x:Int}{z:V}{ok:Bool}:Us (.i .i64) (XF id l) (vi x) z ok=match l.findIdx? (· ==x)with
  |some i=>xk (if ok then .tup [vi i,.bool xy]else vi i)
  |none=>xk (if ok then .tup [z,.bool xh]else z):=by
 unfold Us XF;simp only[Vc,ZgQ,Zfv,Zex,jO];grind [List.findIdx?_eq_some_iff_getElem,D8]
def Z3P{id:Nat}{l:List Int}{x:Int}(hx:x∉l):UO (.i .i64) (XF id l) (vi x) (vi (P l))=xk (XF id (l++[x])):=by
 unfold UO XF;simp only[Vc,ZgQ,Zfv,Zex,jO,zd.2 hx];simp[D8,Zg9]
@[simp]theorem Zbs(id:Nat)(l:List Int):YR (XF id l)=xk (XF id l):=rfl
def HT{ns acc:List Int}{id:Nat}(q:P ns<=100000)(k:P acc<=1000000):Vj Sol.prog 102 [.fz,.mem [.own 97],.mem [.own 3]] [.sl (ns.map vi),.agg [XF id acc],.agg [.sl (acc.map vi)]]
  (.tup [.tup [],.agg [XF id (Yb acc ns)],.agg [.sl ((Yb acc ns).map vi)]]):=by
 refine Jp Sol.func102 follows Z2 u9 Z2 ?_;simp[Iq];refine UZ (λt=>∃i l,i<=P ns/\Yb l (ns.drop i)=Yb acc ns/\P l<=1000000+i/\t=[.v (.sl (ns.map vi)),.m [XF id l],.m [.sl (l.map vi)],.v (vi (i:Nat)),.v (vi (P ns)),.no,.no,.v (.sl (ns.map vi))]) (λt=>match get t 3 with|.v (.int _ n)=>P ns-n.toNat|_=>0) ?_ ?_;exact⟨0,acc,Z1,Z1,Z0,Z1⟩;rintro t ⟨i,l,r,f,u,rfl⟩;by_cases h:i<P ns;have p:ns.drop i=ns[i]::ns.drop (i+1):=(ZeN h);rw[p,Yb]at f;simp[h,H1];by_cases d:ns[i]∈l;have a:∃j,l.findIdx? (· ==ns[i])=xk j:=by
  cases o:l.findIdx? (· ==ns[i])with
  |none=>grind
  |some j=>simp
 obtain⟨j,o⟩:=a;simp[o,Wt,V.flatc];simp(disch:=omega) only[Zy];grind;simp[zd.2 d,Wt,V.flatc];simp(disch:=omega) only[Zy];by_cases g:0<=ns[i];rw[if_pos g,Z3P d];rw[if_pos ⟨g,d⟩]at f;simp;refine⟨by grind [Y5],⟨i+1,Z0,l++[ns[i]],f,ZcP,rfl,Z1,Z1⟩,Z0⟩;grind;have:i=P ns:=Z0;simp_all[Yb]
@[simp]theorem Z9y(id:Nat)(l:List Int):(XF id l).cells=[XF id l]:=rfl
def Good(n:Nat)(l:List Int):Prop:=l.Nodup/\∀x∈l,0<=x/\x<n
def Bb:∀(n:Nat) {l:List Int},l.Nodup->(∀x∈l,0<=x/\x<n)->P l<=n
 |0,l,_,h=>by
  obtain _|⟨x,l⟩:=l;simp;have:=h x Z1;omega
 |n+1,l,d,h=>by
  by_cases j:(n:Int)∈l;have g:=Bb n (d.erase (n:Int)) λx a=>by
   have f:=(d.mem_erase_iff).1 a;have:=h x f.2;omega
  rw[List.length_erase_of_mem j]at g;omega;have:=Bb n d λx a=>by
   have g:=h x a;have:x≠n:=λe=>j (e▸a);omega
  omega
def Good.len{n:Nat}{l:List Int}(h:Good n l):P l<=n:=Bb n h.1 h.2
def Tq{n:Nat}:∀ {g d:List Int},Good n d->(∀x∈g,x<n)->Good n (Yb d g)
 | [],d,h,_=>h
 |x::g,d,h,l=>by
  simp only[Yb];refine Tq ?_ λy f=>l y (by simp[f]);split;rename_i k;refine⟨?_,λy f=> ?_⟩;rw[Zgp];exact⟨h.1,Z1,λa o b j=>by simp at j;subst j;exactλe=>k.2 (e▸o)⟩;obtain f|f:=Zel.1 f;exact h.2 y f;simp at f;subst f;exact⟨k.1,l _ Z1⟩;exact h
def XK(g:Gr):Nat->Nat->List Int->List Int
 |0,_,l=>l
 |f+1,i,l=>match l[i]? with
  |some x=>XK g f (i+1) (Yb l ((g.nodes[x.toNat]?).getD default).ptrs)
  |none=>l
def order(g:Gr):List Int:=XK g (P g.nodes+1) 0 (Yb [] g.roots)
def GB{n:Nat}{p:Int}(h:Ua n p=xy): -1<=p/\p<n:=by grind [Ua]
def Sn{g:Gr}(a:right g=xy):∀x∈g.roots,-1<=x/\x<P g.nodes:=by
 simp only[right,ZdS,ZdZ]at a;exactλx d=>GB (a.2 x d)
def Cn{g:Gr}(a:right g=xy):∀n∈g.nodes,∀x∈n.ptrs,-1<=x/\x<P g.nodes:=by
 simp only[right,ZdS,ZdZ,Sa]at a;exactλn d x f=>GB ((a.1.2 n d).2 x f)
def Z4G{g:Gr}(C:g.sm)(B:right g=xy)(id:Nat)(ks vs:List V):
  Yr Sol.prog KK.body [.v (Yl g),.v (.mp id ks vs)] (λs=>get s 4=.v (.sl ((order g).map vi))/\get s 3=.m [XF id (order g)]) (λ_ _=>False) (λs=>get s 4=.v (.sl ((order g).map vi))/\get s 3=.m [XF id (order g)]):=by
 obtain⟨D,q,r⟩:=C;simp[KK];refine VZ (HT (ns:=g.roots) (acc:=[]) (id:=id) q Z1) ?_;simp;have d:=Sn B;have j:Good (P g.nodes) (Yb [] g.roots):=Tq ⟨Z1,Z1⟩ λx p=>(d x p).2;refine UZ (λt=>∃i l,i<=P l/\Good (P g.nodes) l/\XK g (P g.nodes+1-i) i l=order g/\t=[.v (Yl g),.no,.m [.sl (g.nodes.map Yj),.sl (g.roots.map vi)],.m [XF id l],.v (.sl []),.m [.sl (l.map vi)],.no,.v (vi (i:Nat))]) (λt=>match get t 7 with|.v (.int _ n)=>P g.nodes-n.toNat|_=>0) ?_ ?_;exact⟨0,_,Z1,j,rfl,Z1⟩;rintro t ⟨i,l,I,u,A,rfl⟩;have z:=u.len;by_cases h:i<P l;obtain⟨G,K⟩:=u.2 _ (Ze5 h);obtain⟨k,w⟩:=Zea G;have o:k<P g.nodes:=Z0;have p:l[i]?=xk (k:Int):=by rw[ZdO h,w]
 simp[h,w,o];refine VZ (HT (r _ (Ze5 o)).1 Z0) ?_;simp;simp(disch:=omega) only[Zy];have a:Good (P g.nodes) (Yb l g.nodes[k].ptrs):=Tq u λx p=>(Cn B _ (Ze5 o) x p).2;refine⟨⟨i+1,_,?_,a,?_,rfl,rfl,Z1⟩,Z0⟩;have:∀ {ns acc:List Int},P acc<=P (Yb acc ns):=by
  intro ns;induction ns with
  |nil=>simp_all[Yb]
  |cons y ns J=>
   intro acc;simp only[Yb];grind
 grind;rw[show P g.nodes+1-i=(P g.nodes+1- (i+1))+1 by omega,XK,p]at A;simp_all;have:i=P l:=Z0;subst this;have F:l=order g:=by
  rw[<-A];cases H:P g.nodes+1-(P l) with
  |zero=>omega
  |succ f=>simp[XK]
 simp_all
def Z4F{g:Gr}(hg:g.sm)(hr:right g=xy)(id:Nat)(ks vs:List V):Vj Sol.prog 80 [.fz,.own 97] [Yl g,.mp id ks vs] (.tup [.sl ((order g).map vi),XF id (order g)]):=by
 refine⟨Z2,λB w h us a8 hA=> ?_⟩;obtain⟨b5,a0,a1⟩:=hA;obtain⟨c8,Q,a9⟩:=a1 1 (.own 97) (.mp id ks vs) rfl rfl;simp only[Wi,ZdP]at Q;subst Q;obtain⟨x1,R,O⟩:=a9;simp only[eval,ZdP]at R;subst R;obtain⟨_,_,hl,_⟩|⟨c1,c6,d5,b,es,T,he,hv,a4,hB,hid,hh,Y,h2,h3,h4⟩:=O;cases hl;cases he;have Z:Lz Sol.prog B w h [.fz,.own 97] [Yl g,.mp (b+1) ks vs] us:=by
  refine⟨rfl,a0,λi k x f j=> ?_⟩
  match i,f,j with
  |0,f,j=>grind
  |1,f,j=>
   simp at f j;subst f j;exact⟨_,rfl,_,rfl,.inr ⟨b+1,ks,vs,b,es,T,rfl,hv,a4,hB,.inr rfl,hh,Y,h2,h3,h4⟩⟩
  |i+2,f,j=>simp at f
 refine zk (cf:=KK) (fin:=[(3,.mem [.own 97])]) (xs:=[Yl g,.mp (b+1) ks vs]) (Rt:=λs=>get s 4=.v (.sl ((order g).map vi))/\get s 3=.m [XF (b+1) (order g)]) Sol.func80 follows c80 (Z4G hg hr (b+1) ks vs) a8 Z λc s S a w' W hP b7 M z J r p hK o l=> ?_;rw[<-hP]at l z⊢;simp only[R0,ZdS,ZdZ]at l;obtain⟨A,a6⟩:=l;obtain⟨d,a7⟩:=LA r p a6;have N:c.ix 3=3:=M 3 Zd7;have hr:Wg s (L2 c.P c.ix Try.f80)=xk (.sl ((order g).map vi)):=by
  rw[<-z];simp[KK,J.1]
 obtain⟨v,b0,b1⟩:=L3 (D:=(W.drop (Vr S [(3,.mem [.own 97])])).F) r p (λb hb=>.inl hb) (λq hq=>by
  have Y:=A q hq;have h2:=ZdZ.1 (Z2:MT Try.f80 [(3,.mem [.own 97])]=xy) q hq;refine⟨Y,λi b hb=>.inr ⟨R7 q,i+1,?_,Z0,hb⟩⟩;simp_all[Vr,Zhv,R7]) hr
 obtain⟨u,hu,b3,d0,T3,e1,e2,e3,e4,e5⟩:=d.at_ 3 (by grind [Yu,Yq]) ZdJ;obtain⟨X,hX,C⟩:=e5 0 (.own 97,.m (c.ix 3) 0) rfl;have a2:X=XF (b+1) (order g):=by
  simp only[eval,N,J.2]at hX;simpa using hX.symm
 subst a2;obtain⟨_,_,hl,_⟩|⟨c5,c7,d6,H,U,I,L,b9,n,b6,b4,a5,q1,q2,q3,q4⟩:=C;cases hl;simp only[XF,V.mp.injEq]at L;obtain⟨rfl,rfl,rfl⟩:=L;have a3:H=b:=Z0;subst a3;obtain⟨r1,r2,r3⟩:=d.ok.b_lt 3 1 H n;refine⟨v,b0,v,.sl ((order g).map vi),[.bool xh,XF id (order g)],{F:=(W.drop (Vr S [(3,.mem [.own 97])])).F,bl:=λt i=>if t=1/\i=1 then xk H else xw,K:=W.K},rfl,o.below,o.same,
  ⟨d.ok.base,d.ok.f_lt,d.ok.f_or,d.ok.g_F,λt i x j=> ?_,λt i t' i' x j c0=> ?_,d.ok.k_lt,λt i x j=> ?_,d.ok.k_F⟩,hK,b1,⟨rfl,λi k y f b8 G=> ?_⟩,rfl⟩
 grind;grind;simp only at j;split at j;simp only[ZdP]at j;subst j;exact d.ok.k_bl 3 1 H n;cases j
 match i,f,G with
 |0,f,G=>grind
 |1,f,G=>
  simp at f G;subst f G;exact⟨_,rfl,_,rfl,.inr ⟨id,_,_,H,U,I,rfl,hv,Z1,hB,hid,a5,q1,q2,q3,q4⟩⟩
 |i+2,f,G=>simp at f
end Vm
namespace Vm
open Go Go.Proofs
def WY(l:List Int)(p:Int):Int:=match l.findIdx? (· ==p)with
 |some i=>(i:Nat)
 |none=>0
def Wb(l a:List Int):List Int:=a.map λp=>if 0<=p then WY l p else p
def SF(g:Gr)(l:List Int)(x:Int):Nd:=let n:=(g.nodes[x.toNat]?).getD default;⟨Wb l n.ptrs,n.data⟩
def YL(g:Gr):Gr:=⟨(order g).map (SF g (order g)),Wb (order g) g.roots⟩
def Z38{id:Nat}{l:List Int}{x:Int}:Us (.i .i64) (XF id l) (vi x) (vi 0) xh=xk (vi (WY l x)):=by
 grind [H1,WY]
def Z1e{l:List Int}:∀c∈flat (l.map vi),c.flatc=xy:=by
 intro c d;simp only[flat,ZfT,Ze4]at d;obtain⟨y,⟨a,_,rfl⟩,d⟩:=d;have:c=vi a:=by simpa[V.cells]using d
 subst this;rfl
def Hs{a l:List Int}{id:Nat}(o:P a<=100000):VC Sol.prog 81 xy [.sl (a.map vi),XF id l] (.sl ((Wb l a).map vi)):=by
 refine Z85 (t:=4) (ty:=3) Sol.func81 follows Z2 rfl c81 rfl Z1e ?_;simp[M6];refine UZ (λt=>∃i:Nat,i<=P a/\t=[.v (.sl (a.map vi)),.v (XF id l),.v (.sl []),.v (.sl ((Wb l (a.take i)).map vi)),.v (vi i),.v (vi (P a)),.no,.no,.v (.sl (a.map vi))]) (λt=>match get t 4 with|.v (.int _ n)=>P a-n.toNat|_=>0) ?_ ?_;exact⟨0,Z1,by simp[Wb]⟩;rintro t ⟨i,k,rfl⟩;by_cases h:i<P a;have j:a[i]?=xk a[i]:=ZdO h;have d:Wb l (a.take (i+1))=Wb l (a.take i)++[if 0<=a[i]then WY l a[i]else a[i]]:=by
  unfold Wb;rw[ZeM,j,Zfe];rfl
 have g:P (Wb l (a.take i))<=100000:=by simp[Wb];omega
 simp[h];simp(disch:=omega) only[Zy];by_cases f:0<=a[i];simp[f,Z38];refine⟨Zdk,⟨i+1,Z0,by rw[d];simp[f],Z1⟩,Z0⟩;simp[f];refine⟨Zdk,⟨i+1,Z0,by rw[d];simp[f],Z1⟩,Z0⟩;have:i=P a:=Z0;subst this;simp
def If{g:Gr}(d:right g=xy):∀ {f i:Nat} {l:List Int},Good (P g.nodes) l->Good (P g.nodes) (XK g f i l)
 |0,i,l,h=>h
 |f+1,i,l,h=>by
  simp only[XK];split;rename_i x k;refine If d (Tq h λy j=> ?_);obtain⟨n,o⟩:=h.2 x (ZdW k);have a:x.toNat<P g.nodes:=Z0;rw[ZdO a]at j;exact(Cn d _ (Ze5 a) y j).2;exact h
def KE{g:Gr}(a:right g=xy):Good (P g.nodes) (order g):=
 If a (Tq ⟨Z1,Z1⟩ λx d=>(Sn a x d).2)
def Z0p{g:Gr}(p:g.sm)(r:right g=xy)(id:Nat)(ks vs:List V):Vj Sol.prog 47 [.fz,.own 97] [Yl g,.mp id ks vs] (.tup [Yl (YL g),XF id (order g)]):=by
 refine Jp Sol.func47 follows Z2 c47 Z2 ?_;simp[IT];refine VZ (Z4F p r id ks vs) ?_;simp;obtain⟨u,j,o⟩:=p;have a:=KE r;have f:=a.len;generalize A:order g=l at a f;refine UZ (λt=>∃i:Nat,i<=P l/\t=[.v (Yl g),.v (XF id l),.m [.sl (g.nodes.map Yj),.sl (g.roots.map vi)],.m [.sl [],.sl []],.m [.sl (((l.take i).map (SF g l)).map Yj),.sl []],.v (vi i),.v (vi (P l)),.no,.no,.v (.sl (l.map vi))]) (λt=>match get t 5 with|.v (.int _ n)=>P l-n.toNat|_=>0) ?_ ?_;exact⟨0,Z1,Z1⟩;rintro t ⟨i,z,rfl⟩;by_cases h:i<P l;have B:l[i]?=xk l[i]:=ZdO h;obtain⟨y,D⟩:=a.2 _ (Ze5 h);obtain⟨k,q⟩:=Zea y;have d:k<P g.nodes:=Z0;obtain⟨x,C⟩:=o _ (Ze5 d);simp[h,q,d];refine Zz (Hs x) Z1 ?_;simp;simp(disch:=omega) only[Zy];have w:V.agg [V.sl (List.map vi (Wb l g.nodes[k].ptrs)),V.sl (List.map vu g.nodes[k].data)]=Yj (SF g l l[i]):=by
  simp[SF,q,d,Yj]
 refine⟨by grind [Y5],by grind [Y5],⟨i+1,Z0,?_,Z1⟩,Z0⟩;simp_all[ZeM,Zed];have:i=P l:=Z0;simp_all;refine Zz (Hs j) Z1 ?_;simp_all[YL,Yl]
def Z0o{g:Gr}(h:g.sm)(o:right g=xy):(YL g).sm:=by
 obtain⟨j,k,l⟩:=h;have a:=KE o;have d:=a.len;refine⟨by grind [YL],by simp_all[YL,Wb],λn f=> ?_⟩;simp only[YL,Ze4]at f;obtain⟨x,p,rfl⟩:=f;obtain⟨q,r⟩:=a.2 x p;simp_all[Ze5,SF,Wb]
def S9:Gr:=⟨[],[]⟩
def V8(g:Gr):V:=if right g=xy then .tup [Yl (YL g),vi 0]else .tup [Yl S9,vi 1]
def P0{g:Gr}(a:g.sm):VC Sol.prog 17 xh [Yl g] (V8 g):=by
 refine Y2 Sol.func17 follows Z2 c17 rfl ?_;simp[IE];refine Zz (Z6k a) Z1 ?_;cases d:right g;simp[V8,d,S9,Yl];simp;refine VZ (Z0p a d 0 [] []) ?_;simp_all[V8,Yl]
def Po{a b:Gr}(p:a.sm):VC Sol.prog 18 xh [Yl a,Yl b] (.bool (decide (a=b))):=by
 refine Y2 Sol.func18 follows Z2 c18 rfl ?_;obtain⟨u,l,o⟩:=p;simp[IF];refine Zz (GF l) Z1 ?_;by_cases k:a.roots=b.roots;simp[k];by_cases g:P a.nodes=P b.nodes;simp[g];refine UZ (λt=>∃i:Nat,i<=P b.nodes/\a.nodes.take i=b.nodes.take i/\t=[.v (Yl a),.v (Yl b),.m [.sl (a.nodes.map Yj),.sl (a.roots.map vi)],.m [.sl (b.nodes.map Yj),.sl (b.roots.map vi)],.v (.bool xh),.v (.bool xy),.v (.bool xh),.v (vi i)]) (λt=>match get t 7 with|.v (.int _ n)=>P b.nodes-n.toNat|_=>0) ?_ ?_;exact⟨0,Z1,Z1,by simp[k]⟩;rintro t ⟨i,w,heq,rfl⟩;by_cases h:i<P b.nodes;have j:i<P a.nodes:=Z0;obtain⟨q,r⟩:=o _ (Ze5 j);simp[h,j,g];refine Zz (GF q) Z1 ?_;simp[h,j,g];refine Zz (J2 (Zes r Z0)) Z1 ?_;by_cases d:a.nodes[i].ptrs=b.nodes[i].ptrs;by_cases f:a.nodes[i].data=b.nodes[i].data;simp[d,f];simp(disch:=omega) only[Zy];have z:a.nodes[i]=b.nodes[i]:=by
  generalize a.nodes[i]=x at d f;generalize b.nodes[i]=y at d f;cases x;cases y;simp at d f;simp[d,f]
 grind [D1];simp[d,f];grind;simp[d];grind;have:i=P b.nodes:=Z0;subst this;rw[Zft,ZeX Z0]at heq;simp[g];cases a;simp_all;simp[show ¬((P a.nodes:Int)=(P b.nodes:Int))by omega];grind;simp[k];grind
end Vm
namespace Vm
open Go Go.Proofs
end Vm
end
section
namespace Vm
open Go Go.Proofs
def g0:Gr:=⟨[⟨[],[]⟩,⟨[],[4]⟩,⟨[1],[]⟩,⟨[],[]⟩],[2,0]⟩
def g1:Gr:=⟨[],[0]⟩
def g2:Gr:=⟨[],[-1,-1]⟩
end Vm
end
section

end
section
namespace Vm
open Go Go.Proofs
def outs(g:Gr)(x:Int):List Int:=((g.nodes[x.toNat]?).getD default).ptrs
def Hz:∀(a:Zc) {d b:Zc},Yb d (a++b)=Yb (Yb d a) b
 | [],_,_=>rfl
 |x::a,d,b=>by simp only[Zf7,Yb];exact Hz a
def yj:∀(l:Zc) {acc:Zc},∃t,Yb acc l=acc++t
 | [],acc=>⟨[],by simp[Yb]⟩
 |x::l,acc=>by
  simp only[Yb];obtain⟨t,a⟩:=yj l (acc:=if 0<=x/\x∉acc then acc++[x]else acc);rw[a];split;exact⟨x::t,Z1⟩;exact⟨t,rfl⟩
def SZ:∀ {l d:Zc} {x:Int},x∈Yb d l↔x∈d\/(x∈l/\0<=x)
 | [],d,x=>by simp[Yb]
 |y::l,d,x=>by
  simp only[Yb,SZ (l:=l),Zec];split;rename_i h;simp only[Zel,ZeS];constructor;rintro((a|rfl)|a);exact .inl a;exact .inr ⟨.inl rfl,h.1⟩;exact .inr ⟨.inr a.1,a.2⟩;rintro(a|⟨rfl|a,f⟩);exact .inl (.inl a);exact .inl (.inr rfl);exact .inr ⟨a,f⟩;rename_i h;constructor;rintro(a|a);exact .inl a;exact .inr ⟨.inr a.1,a.2⟩;rintro(a|⟨rfl|a,f⟩);exact .inl a;exact .inl (by by_cases g:x∈d;exact g;exact(h ⟨f,g⟩).elim);exact .inr ⟨a,f⟩
def K0{g:Gr}(f:right g=xy)(x:Int):∀y∈outs g x,-1<=y/\y<P g.nodes:=by
 intro y a;unfold outs at a;cases d:g.nodes[x.toNat]? with
 |none=>rw[d]at a;cases a
 |some n=>rw[d]at a;exact Cn f n (ZdW d) y a
def Ih{g:Gr}(n:right g=xy):∀ {f i:Nat} {l:Zc},Good (P g.nodes) l->i<=P l->P g.nodes<f+i->l=Yb [] (g.roots++(l.take i).flatMap (outs g))->
  XK g f i l=Yb [] (g.roots++(XK g f i l).flatMap (outs g))
 |0,i,l,j,p,o,a=>by have:=j.len;omega
 |f+1,i,l,j,p,o,a=>by
  simp only[XK];cases d:l[i]? with
  |none=>
   have:P l<=i:=Zd8;rw[ZeX this]at a;exact a
  |some x=>
   have q:i<P l:=by
    obtain h|h:=Zi5 i (P l);exact h;rw[Zf2 h]at d;cases d
   obtain⟨t,k⟩:=yj (outs g x) (acc:=l);refine Ih n (Tq j λy r=>(K0 n x y r).2) ?_ Z0 ?_;show i+1<=P (Yb l (outs g x));rw[k,ZeK];omega;show Yb l (outs g x)=Yb [] (g.roots++((Yb l (outs g x)).take (i+1)).flatMap (outs g));rw[k,List.take_append_of_le_length Z0,ZeM,d,<-k];simp only[ZfM,Option.toList,<-ZeH];rw[Hz,<-a];simp
def Ii{g:Gr}(a:right g=xy):order g=Yb [] (g.roots++(order g).flatMap (outs g)):=by
 refine Ih a (Tq ⟨List.nodup_nil,Z1⟩ λy d=>(Sn a y d).2) (ZeJ _) Z0 ?_;simp
end Vm
end
section
namespace Vm
open Go
open Go.Proofs

end Vm
end
section
namespace Vm
open Go Go.Proofs
def S8(n:Nd):Nat:=1+P n.ptrs+P n.data
def V6(l:List Nd):Nat:=(l.map S8).sum
def words(g:Gr):Nat:=if right g=xy then V6 g.nodes else 0
def Z8w{l:List Nd}{i:Nat}{x:Nd}(h:l[i]?=xk x):V6 (l.take (i+1))=V6 (l.take i)+S8 x:=by
 unfold V6;rw[ZeM,h,Zfe,List.sum_append];simp
def Z8v{l:List Nd}(h:∀n∈l,P n.ptrs<=100000/\P n.data<=100000)(i:Nat):V6 (l.take i)<=P l*200001:=by
 have:∀ {l:List Nd},(∀n∈l,P n.ptrs<=100000/\P n.data<=100000)->V6 l<=P l*200001:=by
  intro l;induction l with
  |nil=>intro _;simp[V6]
  |cons x l f=>
   intro h;have g:=f λn a=>h n (by simp[a]);have j:=h x Z1;have k:S8 x<=200001:=by unfold S8;omega
   have d:V6 (x::l)=S8 x+V6 l:=by simp[V6]
   rw[d,Zfd,Zfa];omega
 refine Zes (this λn a=>h n (ZeD a)) (Zew _ ?_);rw[ZeZ];omega
end Vm
namespace Vm
open Go Go.Proofs
def yk{f:Int->Int}:∀ {o l:List Int},(∀x∈Yb l o,∀y∈Yb l o,f x=f y->x=y)->(∀x∈Yb l o,0<=f x)->(∀x∈o,x<0->f x<0)->Yb (l.map f) (o.map f)=(Yb l o).map f
 | [],l,_,_,_=>rfl
 |y::o,l,d,g,k=>by
  simp only[Zeb,Yb];simp only[Yb]at d g;by_cases j:0<=y/\y∉l;rw[if_pos j]at d g⊢;have h:y∈Yb (l++[y]) o:=SZ.2 (.inl Z1);have a:0<=f y/\f y∉l.map f:=⟨g y h,λu=>by
   obtain⟨z,p,t⟩:=Ze4.1 u;have:=d z (SZ.2 (.inl (by simp[p]))) y h t;subst this;exact j.2 p⟩
  rw[if_pos a,show l.map f++[f y]=(l++[y]).map f by simp];exact yk d g λx n=>k x (by simp[n]);rw[if_neg j]at d g⊢;have a:¬(0<=f y/\f y∉l.map f):=by
   rintro⟨w,r⟩;by_cases q:0<=y;exact r (Ze4.2 ⟨y,by by_cases h:y∈l;exact h;exact(j ⟨q,h⟩).elim,rfl⟩);have:=k y Z1 Z0;omega
  rw[if_neg a];exact yk d g λx n=>k x (by simp[n])
def yA{g:Gr}:∀ {F i:Nat} {l:List Int},∃t,XK g F i l=l++t
 |0,i,l=>⟨[],by simp[XK]⟩
 |F+1,i,l=>by
  simp only[XK];cases l[i]? with
  |none=>exact⟨[],Z1⟩
  |some x=>
   obtain⟨t,d⟩:=yj ((g.nodes[x.toNat]?).getD default).ptrs (acc:=l);obtain⟨f,a⟩:=yA (g:=g) (F:=F) (i:=i+1) (l:=Yb l ((g.nodes[x.toNat]?).getD default).ptrs);refine⟨t++f,?_⟩;show XK g F (i+1) (Yb l ((g.nodes[x.toNat]?).getD default).ptrs)=_;rw[a,d,ZeH]
def Bo{g:Gr}(d:right g=xy):∀ {F i:Nat} {l:List Int} (k:Nat),Good (P g.nodes) l->P g.nodes<F+i->XK g (F+k) i l=XK g F i l
 |0,i,l,k,a,f=>by
  have:=a.len;cases k with
  |zero=>rfl
  |succ k=>
   simp only[ZeC,XK];rw[Zf2 Z0]
 |F+1,i,l,k,a,f=>by
  rw[show F+1+k=(F+k)+1 by omega];simp only[XK];cases j:l[i]? with
  |none=>rfl
  |some x=>
   exact Bo d k (Tq a λy h=>(K0 d x y h).2) Z0
def Ig{g h:Gr}{f:Int->Int}(d:∀x∈order g,(h.nodes[(f x).toNat]?).map (·.ptrs)=xk ((outs g x).map f))(n:∀x∈order g,∀y∈outs g x,y<0->f y<0)(k:∀x∈order g,∀y∈order g,f x=f y->x=y)(o:∀x∈order g,0<=f x):
  ∀ {F i:Nat} {l:List Int},(∀x∈XK g F i l,x∈order g)->XK h F i (l.map f)=(XK g F i l).map f
 |0,i,l,_=>rfl
 |F+1,i,l,q=>by
  simp only[XK,Zed];simp only[XK]at q;cases A:l[i]? with
  |none=>rfl
  |some x=>
   rw[A]at q;simp only[Ze8];simp only at q;have u:x∈order g:=by
    obtain⟨t,C⟩:=yj ((g.nodes[x.toNat]?).getD default).ptrs (acc:=l);obtain⟨G,p⟩:=yA (g:=g) (F:=F) (i:=i+1) (l:=Yb l ((g.nodes[x.toNat]?).getD default).ptrs);refine q x ?_;rw[p,C];simp[ZdW A]
   have r:=d x u;cases z:h.nodes[(f x).toNat]? with
   |none=>rw[z]at r;cases r
   |some H=>
    rw[z]at r;simp only[Ze8,ZdP]at r;simp only[Zei,r];have j:∀y∈Yb l (outs g x),y∈order g:=λy D=>by
     obtain⟨G,p⟩:=yA (g:=g) (F:=F) (i:=i+1) (l:=Yb l (outs g x));refine q y ?_;show y∈XK g F (i+1) (Yb l (outs g x));rw[p];simp[D]
    rw[yk (λa w b B=>k a (j a w) b (j b B)) (λa w=>o a (j a w)) (n x u)];exact Ig d n k o q
def Kh{g:Gr}(d:right g=xy){x:Int}(hx:x∈g.roots)(a:0<=x):x∈order g:=by
 rw[Ii d,SZ];exact .inr ⟨by simp[hx],a⟩
def GZ{g:Gr}(d:right g=xy){x y:Int}(hx:x∈order g)(f:y∈outs g x)(a:0<=y):y∈order g:=by
 rw[Ii d,SZ];exact .inr ⟨ZfZ _ (ZfT.2 ⟨x,hx,f⟩),a⟩
def PD{L:List Int}{f:Int->Int}{p:Int}(d:∀x∈L,f x=f p->x=p):WY (L.map f) (f p)=WY L p:=by
 unfold WY;rw[List.findIdx?_map];have:L.findIdx? ((λx=>x==f p)∘f)=L.findIdx? (λx=>x==p):=by
  induction L with
  |nil=>rfl
  |cons a L k=>
   simp only[ZgE,Function.comp];have g:(f a==f p)=(a==p):=by
    rw[ZhU];simp only[Zez];exact⟨d a Z1,λe=>by rw[e]⟩
   have h:=k λx j=>d x (by simp[j]);simp only[g];rw[h]
 rw[this]
def Z0m{g h:Gr}(o:right g=xy)(J:right h=xy)(f:Int->Int)(N:f (-1)= -1)(q:∀x∈order g,∀y∈order g,f x=f y->x=y)(r:∀x∈order g,0<=f x)
  (n:h.roots=g.roots.map f) (k:∀x∈order g,h.nodes[(f x).toNat]?=xk ⟨(outs g x).map f,((g.nodes[x.toNat]?).getD default).data⟩):
  order h=(order g).map f/\YL h=YL g:=by
 have z:∀x:Int,-1<=x->x<0->f x=x:=λx C D=>by
  have:x= -1:=Z0;subst this;exact N
 have w:∀x∈order g,(h.nodes[(f x).toNat]?).map (·.ptrs)=xk ((outs g x).map f):=λx a=>by rw[k x a];rfl
 have G:order h=(order g).map f:=by
  have t:Good (P g.nodes) (Yb [] g.roots):=Tq ⟨Z1,Z1⟩ λx a=>(Sn o x a).2;have u:Good (P h.nodes) (Yb [] h.roots):=Tq ⟨Z1,Z1⟩ λx a=>(Sn J x a).2;have C:=Bo o (F:=P g.nodes+1) (i:=0) (P h.nodes) t Z0;have D:=Bo J (F:=P h.nodes+1) (i:=0) (P g.nodes) u Z0;have K:=Ig (f:=f) w (λx a y B d=>by rw[z y (K0 o x y B).1 d];exact d) q r (F:=P g.nodes+1+P h.nodes) (i:=0) (l:=Yb [] g.roots) (λx a=>by rw[C]at a;exact a);have L:Yb [] h.roots=(Yb [] g.roots).map f:=by
   rw[n];refine yk (l:=[]) (λx a y B=> ?_) (λx a=> ?_) (λx a d=> ?_);rw[SZ]at a B;simp at a B;exact q x (Kh o a.1 a.2) y (Kh o B.1 B.2);rw[SZ]at a;simp at a;exact r x (Kh o a.1 a.2);rw[z x (Sn o x a).1 d];exact d
  unfold order;rw[<-D,<-C,L,<-K];congr 1;omega
 refine⟨G,?_⟩;have j:∀H:List Int,(∀p∈H,-1<=p/\(0<=p->p∈order g))->Wb (order h) (H.map f)=Wb (order g) H:=by
  intro H I;unfold Wb;rw[ZfY];refine Zfc λp A=> ?_;obtain⟨C,D⟩:=I p A;simp only[Function.comp];by_cases d:0<=p;rw[if_pos (r p (D d)),if_pos d,G];exact PD λx a M=>q x a p (D d) M;rw[z p C Z0];rw[if_neg d,if_neg d]
 unfold YL;congr 1;rw[G,ZfY];refine Zfc λx a=> ?_;simp only[Function.comp,SF,k x a,Zei];congr 1;rw[<-G];exact j _ λp A=>⟨(K0 o x p A).1,λd=>GZ o a A d⟩;rw[n];exact j _ λp A=>⟨(Sn o p A).1,λd=>Kh o A d⟩
def ji{L:List Int}{x:Int}(h:x∈L):0<=WY L x/\WY L x<P L/\L[(WY L x).toNat]?=xk x:=by
 unfold WY;cases f:L.findIdx? (· ==x)with
 |none=>exact(zd.1 f h).elim
 |some i=>
  obtain⟨a,d,_⟩:=ZeG.1 f;simp only[Zez]at d;refine⟨Z1,by simpa using a,?_⟩;simp[a,d]
def Z6i{g:Gr}(h:right g=xy):right (YL g)=xy:=by
 have a:=KE h;have k:∀r:List Int,(∀p∈r,-1<=p/\(0<=p->p∈order g))->∀q∈Wb (order g) r,Ua (YL g).nodes.length q=xy:=by
  intro r o q z;obtain⟨p,d,rfl⟩:=Ze4.1 z;obtain⟨B,w⟩:=o p d;have y:(YL g).nodes.length=P (order g):=by simp[YL]
  rw[y];simp only[Ua,Ze9];split;rename_i j;have:=ji (w j);omega;omega
 simp only[right,ZdS,ZdZ,Ze9];have f:=h;simp only[right,ZdS,ZdZ,Ze9]at f;refine⟨⟨by simpa[YL,Wb]using f.1.1,λC n=> ?_⟩,k _ λp d=>⟨(Sn h p d).1,λj=>Kh h d j⟩⟩;simp only[YL,Ze4]at n;obtain⟨x,u,rfl⟩:=n;have A:=a.2 x u;have l:x.toNat<P g.nodes:=Z0;have t:=f.1.2 _ (Ze5 l);simp only[Sa,ZdS,Ze9,ZdZ]at t⊢;refine⟨by simpa[SF,l,Wb]using t.1,?_⟩;exact k _ λp d=>⟨(K0 h x p d).1,λj=>GZ h u d j⟩
end Vm
end
section

end
section
namespace Vm
open Go Go.Proofs
structure Fo where
 ob:Ob
 ad:Int
 sl:List Int
 deriving Inhabited
def Xo(f:Fo):V:=.agg [vi f.ob.at_,vi f.ob.size,vi f.ob.ptrs,.bool f.ob.gone,vu f.ob.target,vu f.ad,.sl (f.sl.map vu)]
@[simp]theorem ZaQ(f:Fo):(Xo f).cells=[vi f.ob.at_,vi f.ob.size,vi f.ob.ptrs,.bool f.ob.gone,vu f.ob.target,vu f.ad,.sl (f.sl.map vu)]:=rfl
@[simp]theorem Zcb(f:Fo):Vz (Xo f) 7=xk (Xo f):=rfl
@[simp]theorem ZaJ(f:Fo):Um (Xo f) 0 7=xk (Xo f):=rfl
@[simp]theorem Z9X(f:Fo):Y0 (Xo f) 0=xk (vi f.ob.at_):=rfl
@[simp]theorem Z9Y(f:Fo):Y0 (Xo f) 1=xk (vi f.ob.size):=rfl
@[simp]theorem Z9Z(f:Fo):Y0 (Xo f) 2=xk (vi f.ob.ptrs):=rfl
@[simp]theorem Za0(f:Fo):Y0 (Xo f) 3=xk (.bool f.ob.gone):=rfl
@[simp]theorem Za1(f:Fo):Y0 (Xo f) 4=xk (vu f.ob.target):=rfl
@[simp]theorem Za2(f:Fo):Y0 (Xo f) 5=xk (vu f.ad):=rfl
@[simp]theorem Za3(f:Fo):Y0 (Xo f) 6=xk (.sl (f.sl.map vu)):=rfl
structure Vw where
 ns:List Fo
 nm:List (Int×Int)
 tm:List (Int×Int)
 deriving Inhabited
def Vw.put(s:Vw)(f:Fo):Vw:=if f.ob.gone then {s with tm:=XO s.tm f.ad f.ob.target}else {s with ns:=s.ns++[f],nm:=XO s.nm f.ad (P s.ns)}
def Vw.toA(s:Vw)(w:Int):Int:=if w=0 then-1 else(Y1 s.nm ((Y1 s.tm (adr w).1).getD (adr w).1)).getD 0
def Ut(s:Vw)(f:Fo):Nd:=⟨(f.sl.take f.ob.ptrs.toNat).map s.toA,f.sl.drop f.ob.ptrs.toNat⟩
def Vw.gr(s:Vw)(a:Zc):Gr:=⟨s.ns.map (Ut s),a.map s.toA⟩
def DH(s:Vw){ws:Zc}(B:P ws<=1000000)(x:∀w∈ws,ZC w):
  Vj Sol.prog 43 [.fz,.mem [.fz],.mem [.fz]] [.sl (ws.map vu),.agg [Yf vu s.tm],.agg [Yf vi s.nm]] (.tup [.sl ((ws.map s.toA).map vi),.agg [Yf vu s.tm],.agg [Yf vi s.nm]]):=by
 refine Jp Sol.func43 follows Z2 cTo Z2 ?_;simp[Mb];refine Vh 5 (P ws) (λi=>[(4,.v (.sl (((ws.take i).map s.toA).map vi))),(5,.v (vi i))]) (λ_=>True) Z1 Z1 trivial ?_;intro i A _;by_cases h:i<P ws;have y:ws[i]?=xk ws[i]:=ZdO h;have r:=x _ (Ze5 h);have o:=Zy ((i:Int)+1) Z0 Z0;have q:List.take (i+1) (List.map (vi∘s.toA) ws)=List.take i (List.map (vi∘s.toA) ws)++[vi (s.toA ws[i])]:=by
  rw[ZeM,Zed,y];rfl
 have a:min i (P ws)+1<=Y5:=by unfold Y5;omega
 simp[h,o,q,a];split;simp_all[Vw.toA];rename_i p;refine Zz (Jz r) Z1 ?_;have j:=RY (f:=vu) (l:=s.tm) (k:=(adr ws[i]).1) (z:=.int .u64 0) (ok:=xy);cases n:Y1 s.tm (adr ws[i]).1 with
 |none=>
  rw[n]at j;have d:=RY (f:=vi) (l:=s.nm) (k:=(adr ws[i]).1) (z:=.int .i64 0) (ok:=xh);cases g:Y1 s.nm (adr ws[i]).1 with
  |none=>rw[g]at d;simp[j,d,Vw.toA,p,n,g,o,a]
  |some t=>rw[g]at d;simp[j,d,Vw.toA,p,n,g,o,a]
 |some u=>
  rw[n]at j;have d:=RY (f:=vi) (l:=s.nm) (k:=u) (z:=.int .i64 0) (ok:=xh);cases g:Y1 s.nm u with
  |none=>rw[g]at d;simp[j,d,Vw.toA,p,n,g,o,a]
  |some t=>rw[g]at d;simp[j,d,Vw.toA,p,n,g,o,a]
 have:i=P ws:=Z0;simp_all
def Z5H{s:St}{st:Vw}{f:Fo}{N R:St->Prop}{X:Nat->St->Prop}(o:get s 6=.v (.sl (st.ns.map Xo)))(p:get s 7=.m [Yf vi st.nm])(q:get s 8=.m [Yf vu st.tm])(h:get s 12=.v (.tup [Xo f,.bool xy]))(g:get s 10=.v (.bool xy))(u:P st.ns<=4000000)
  (r:∀a,get a 6=.v (.sl ((st.put f).ns.map Xo))->get a 7=.m [Yf vi (st.put f).nm]->get a 8=.m [Yf vu (st.put f).tm]->get a 1=get s 1->get a 2=get s 2->get a 3=get s 3->N a):Yr Sol.prog rD s N X R:=by
 have j:=Km (f:=vu) (l:=st.tm) (k:=f.ad) (x:=f.ob.target);have n:=Km (f:=vi) (l:=st.nm) (k:=f.ad) (x:=(P st.ns:Int));have d:P st.ns+1<=Y5:=by unfold Y5;omega
 cases t:f.ob.gone;simp_all[rD,X3,Vw.put,Xo];simp_all[rD,X3,Vw.put]
def Z5G{s:St}{N R:St->Prop}{X:Nat->St->Prop}(a:get s 10=.v (.bool xh))(d:X 0 s):Yr Sol.prog rD s N X R:=by
 simp[rD,a,d]
structure Vw.sm (st:Vw) (roots:List Int):Prop where
 n:P st.ns<=100000
 f:∀f∈st.ns,0<=f.ob.ptrs/\f.ob.ptrs<=P f.sl/\P f.sl<=100000/\∀w∈f.sl,ZC w
 r:P roots<=100000/\∀w∈roots,ZC w
def Vw.sm.gr{st:Vw}{a:Zc}(h:st.sm a):(st.gr a).sm:=by
 refine⟨by simpa[Vw.gr]using h.n,by simpa[Vw.gr]using h.r.1,λn d=> ?_⟩;simp only[Vw.gr,Ze4]at d;obtain⟨f,g,rfl⟩:=d;obtain⟨_,_,j,_⟩:=h.f f g;grind [Ut,List.length_map,List.length_take,List.length_drop]
def Z5F{s:St}{st:Vw}{roots:Zc}{b c t y sc:V}{I J K L:V}{N R:St->Prop}{X:Nat->St->Prop}(k:st.sm roots)(x:get s 1=.m [b,c,t,y,sc,I,J,K,L,.sl (roots.map vu)])(o:get s 6=.v (.sl (st.ns.map Xo)))(z:get s 7=.m [Yf vi st.nm])(A:get s 8=.m [Yf vu st.tm])
  (a:∀D,Wg D [(2,.ag 2),(3,.v)]=xk (V8 (st.gr roots))->R D):Yr Sol.prog rC s N X R:=by
 simp[rC,o,X3];refine Vh 16 (xq st.ns) (λi=>[(15,.m [.sl (((st.ns.take i).map (Ut st)).map Yj),.sl []]),(16,.v (vi i))]) (λ_=>True) (by simp[X3]) (by simp[X3]) trivial ?_;intro i M _;by_cases h:i<xq st.ns;have G:st.ns[i]?=xk st.ns[i]:=ZdO h;obtain⟨H,Q,p2,p3⟩:=k.f _ (Ze5 h);have O:=k.n;obtain⟨P,B⟩:=Zea H;have d:P<=st.ns[i].sl.length:=Z0;have u:=Zy ((i:Int)+1) Z0 Z0;have q:List.take (i+1) (List.map (Yj∘Ut st) st.ns)=List.take i (List.map (Yj∘Ut st) st.ns)++[Yj (Ut st st.ns[i])]:=by
  rw[ZeM,Zed,G];rfl
 have l:=DH st (ws:=st.ns[i].sl.take P) ZcP λw u=>p3 w (ZeD u);have j:min i (xq st.ns)+1<=Y5:=by unfold Y5;omega
 simp[X3,h,x,o,z,A,B,R9,d];rw[Zif]at l;refine VZ l ?_;simp[X3,Lc,d,u,q,j,B,Ut,Yj];have:i=xq st.ns:=Z0;subst this;simp[X3,x,o,z,A];refine VZ (DH st (ws:=roots) (by have:=k.r.1;omega) k.r.2) ?_;simp;have C:=P0 k.gr;simp only[Vw.gr,Yl,ZfY]at C;refine Zz C Z1 ?_;have F:V8 (st.gr roots)=V8 {nodes:=List.map (Ut st) st.ns,roots:=List.map st.toA roots}:=rfl;rw[F]at a;generalize ({nodes:=List.map (Ut st) st.ns,roots:=List.map st.toA roots}:Gr)=g at*;unfold V8 at a⊢;split;rename_i p;rw[if_pos p]at a;simp;refine a _ ?_;simp[Wg,VT,UU,Yl];rename_i p;rw[if_neg p]at a;simp[S9,Yl];refine a _ ?_;simp[Wg,VT,UU,S9,Yl]
end Vm
end
section
namespace Vm
open Go Go.Proofs Go.RowKit Go.Conc
def Eh{t:Za}(h:t.size=71):t=#[t.getD 0 undef,t.getD 1 undef,t.getD 2 undef,t.getD 3 undef,t.getD 4 undef,t.getD 5 undef,t.getD 6 undef,t.getD 7 undef,t.getD 8 undef,t.getD 9 undef,t.getD 10 undef,t.getD 11 undef,t.getD 12 undef,t.getD 13 undef,t.getD 14 undef,t.getD 15 undef,t.getD 16 undef,t.getD 17 undef,t.getD 18 undef,t.getD 19 undef,t.getD 20 undef,t.getD 21 undef,t.getD 22 undef,t.getD 23 undef,t.getD 24 undef,t.getD 25 undef,t.getD 26 undef,t.getD 27 undef,t.getD 28 undef,t.getD 29 undef,t.getD 30 undef,t.getD 31 undef,t.getD 32 undef,t.getD 33 undef,t.getD 34 undef,t.getD 35 undef,t.getD 36 undef,t.getD 37 undef,t.getD 38 undef,t.getD 39 undef,t.getD 40 undef,t.getD 41 undef,t.getD 42 undef,t.getD 43 undef,t.getD 44 undef,t.getD 45 undef,t.getD 46 undef,t.getD 47 undef,t.getD 48 undef,t.getD 49 undef,t.getD 50 undef,t.getD 51 undef,t.getD 52 undef,t.getD 53 undef,t.getD 54 undef,t.getD 55 undef,t.getD 56 undef,t.getD 57 undef,t.getD 58 undef,t.getD 59 undef,t.getD 60 undef,t.getD 61 undef,t.getD 62 undef,t.getD 63 undef,t.getD 64 undef,t.getD 65 undef,t.getD 66 undef,t.getD 67 undef,t.getD 68 undef,t.getD 69 undef,t.getD 70 undef]:=by
 refine ZgB Z0 λi f d=> ?_;have a:i<71:=Zd8;have e:t[i]=t.getD i undef:=by simp[Array.getD,f]
 rw[e]
 revert d
 match i,a with
 |0,_=>simp
 |1,_=>simp
 |2,_=>simp
 |3,_=>simp
 |4,_=>simp
 |5,_=>simp
 |6,_=>simp
 |7,_=>simp
 |8,_=>simp
 |9,_=>simp
 |10,_=>simp
 |11,_=>simp
 |12,_=>simp
 |13,_=>simp
 |14,_=>simp
 |15,_=>simp
 |16,_=>simp
 |17,_=>simp
 |18,_=>simp
 |19,_=>simp
 |20,_=>simp
 |21,_=>simp
 |22,_=>simp
 |23,_=>simp
 |24,_=>simp
 |25,_=>simp
 |26,_=>simp
 |27,_=>simp
 |28,_=>simp
 |29,_=>simp
 |30,_=>simp
 |31,_=>simp
 |32,_=>simp
 |33,_=>simp
 |34,_=>simp
 |35,_=>simp
 |36,_=>simp
 |37,_=>simp
 |38,_=>simp
 |39,_=>simp
 |40,_=>simp
 |41,_=>simp
 |42,_=>simp
 |43,_=>simp
 |44,_=>simp
 |45,_=>simp
 |46,_=>simp
 |47,_=>simp
 |48,_=>simp
 |49,_=>simp
 |50,_=>simp
 |51,_=>simp
 |52,_=>simp
 |53,_=>simp
 |54,_=>simp
 |55,_=>simp
 |56,_=>simp
 |57,_=>simp
 |58,_=>simp
 |59,_=>simp
 |60,_=>simp
 |61,_=>simp
 |62,_=>simp
 |63,_=>simp
 |64,_=>simp
 |65,_=>simp
 |66,_=>simp
 |67,_=>simp
 |68,_=>simp
 |69,_=>simp
 |70,_=>simp
 |i+71,h=>omega
def Rb(v:Z7)(a n:Nat):Value:=match v with
 |.slice (xk ⟨b,o,q⟩) _ c=>.slice (xk (if c=a then⟨b,o,q⟩else⟨b,o+a,q⟩)) n (c-a)
 |v=>v
def Uo(h:Hp)(x:Z8)(p:Nat)(o:Ob):Value:=.agg #[.int .i64 o.at_,.int .i64 o.size,.int .i64 o.ptrs,.bool o.gone,.int .u64 o.target,.int .u64 (Y4 (Zv h) ((p:Int)+1) o.at_).1,Rb (x p) (o.at_+1).toNat o.size.toNat]
def obP(h:Hp)(p:Nat):List Ob:=(Uu h ((p:Int)+1)).1
def Wm(h:Hp)(x:Z8):Nat->Nat->List Value
 |0,_=>[]
 |n+1,p=>(obP h p).map (Uo h x p)++Wm h x n (p+1)
noncomputable def seC:Code:=match Try.f42.body with|some c=>c|none=>.skip
noncomputable def clOps:Array Oper:=Kz (Yo seC [1,1,1])
def Dq(c:Nat)(b:Zg)(d:Z6)(fr:Zg)(cs:Z6)(w:Z3):Prop:=cs=d/\∃a,fr=b.at a [.inRegion clOps [1]]/\a.tmps[70]?=xk (.chan (xk c))/\a.defers=[]
def Z5L{w:Z3}{G:Z5}{h:Hp}{x:Z8}(d:∀j,j<5->Rd w G (.sl ((Zu h j).map vu)) (x j)):Rd w G (ZQ h) (ZN h x):=by
 refine .agg _ _ rfl Z1 ?_;intro i y a
 match i,a with
 |0,a=>cases a;exact .int _ _
 |1,a=>cases a;exact .int _ _
 |2,a=>cases a;exact .int _ _
 |3,a=>cases a;exact .bool _
 |4,a=>cases a;exact .int _ _
 |5,a=>cases a;exact d 0 Z0
 |6,a=>cases a;exact d 1 Z0
 |7,a=>cases a;exact d 2 Z0
 |8,a=>cases a;exact d 3 Z0
 |9,a=>cases a;exact d 4 Z0
def Pf{w:Z3}{G:Z5}{h:Hp}(u:h.ok){x:Z8}(o:∀b,G b->b<U (R w))(z:∀j,j<5->Rd w G (.sl ((Zu h j).map vu)) (x j))(p:Int):
  Calls Sol.prog 27 #[ZN h x,.int .i64 p] w λe f=>∃s,e=.returned (.tuple #[s,.int .i64 (Uu h p).2])/\Below (U (R w)) w f/\Rd f (λb=>b<U (R f)) (.sl ((Uu h p).1.map ZL)) s:=by
 refine ZgN ((OP u (k:=p)).2 w G _ o rfl ?_) ?_;intro i y d
 match i,d with
 |0,d=>cases d;exact Z5L z
 |1,d=>cases d;exact .int _ _
 rintro e f ⟨v,rfl,q,A⟩;cases A with
 |tup _ vs l n=>
  have t:=n 0 _ rfl;have g:=Sh (n 1 _ rfl);simp only[Zfd,Zfq]at l;refine⟨vs.getD 0 undef,?_,q,t.mono λb a=> ?_⟩;congr 2;refine ZgB (by simpa using l) λi r B=> ?_;have:i=0\/i=1:=by simp at B;omega
  obtain rfl|rfl:=this;simp[Array.getD,r];simp[Array.getD,r]at g;simpa using g;obtain⟨_,a⟩|a:=a;exact Ze1 (o b a) q.size;exact a.2
def u71(a b:Z7):(#[a,b]:Array Value)++Array.replicate (71- (#[a,b]:Array Value).size) undef=#[a,b,undef,undef,undef,undef,undef,undef,undef,undef,undef,undef,undef,undef,undef,undef,undef,undef,undef,undef,undef,undef,undef,undef,undef,undef,undef,undef,undef,undef,undef,undef,undef,undef,undef,undef,undef,undef,undef,undef,undef,undef,undef,undef,undef,undef,undef,undef,undef,undef,undef,undef,undef,undef,undef,undef,undef,undef,undef,undef,undef,undef,undef,undef,undef,undef,undef,undef,undef,undef,undef]:=Z2
structure SSt (w:World) (h:Hp) (x:Nat->Value) (b4:Nat) (W:World):Prop where
 bel:Below (U (R w)) w W
 c2:W.heap[U (R w)]?=xk (.cells #[.int .u64 h.base,.int .i64 h.cap,.int .i64 h.to,.bool h.cycle,.int .i64 h.scan,x 0,x 1,x 2,x 3,x 4] 37 (0,0))
 c4:W.heap[b4]?=xk (.cells #[.int .u64 h.base,.int .i64 h.cap,.int .i64 h.to,.int .i64 (P h.low),.int .i64 (P h.high),.int .i64 (P h.old),.int .i64 (P h.far)] 69 (0,0))
def SSt.below{w W d:Z3}{h:Hp}{x:Z8}{f:Nat}(s:SSt w h x f W)(a:Below (U (R W)) W d):SSt w h x f d:=
 ⟨s.bel.trans (a.mono s.bel.size),(a.block _ (YC s.c2)).trans s.c2,(a.block _ (YC s.c4)).trans s.c4⟩
def KX{W:Z3}{G:Z5}{l:Zc}{y:Z7}(h:Rd W G (.sl (l.map vu)) y):∃a c,y=.slice a (P l) c:=by
 generalize f:l.map vu=L at h;have j:P L=P l:=by rw[<-f,Zem]
 cases h with
 |nil a c d=>simp_all
 |sl _ b o cap k vs d g=>simp_all
def Z6L{P:Z4}{W:Z3}{T f:Z9}(p:P.underlying T=xk (.slice f))(q:(Go.sizeOf f).run P W=.ok 1 W){b o len cap:Nat}{d a:Int}(g:0<=d)(h2:d<=a)(r:a<=cap):
  (Instr.slice T (.slice (xk ⟨b,o,xw⟩) len cap) (xk (.int .i64 d)) (xk (.int .i64 a)) xw).run P W=.ok (Rb (.slice (xk ⟨b,o,xw⟩) len cap) d.toNat (a-d).toNat) W:=by
 obtain⟨l,rfl⟩:=Zea g;obtain⟨k,rfl⟩:=Zea (Z0:0<=a);have h:l<=k:=Z0;have j:k<=cap:=Z0;have n:((k:Int) - (l:Int)).toNat=k-l:=Z0;simp[Instr.slice,Instr.sliceBounds,Instr.sliceBound,asIntOf,ZeB p,q,h,j,n,Rb,Addr.add];grind
def Z5Q{W:Z3}{G:Z5}{l:Zc}{y:Z7}(h:Rd W G (.sl (l.map vu)) y)(g:0<P l){a:ZcI}{n k:Nat}(e:y=.slice a n k):∃b o,a=xk ⟨b,o,xw⟩/\P l<=k/\k<=maxLen:=by
 generalize f:l.map vu=L at h;have p:P L=P l:=by rw[<-f,Zem]
 cases h with
 |nil a c d=>simp_all
 |sl _ b o cap q vs d j=>grind
def Z5N{W:Z3}{G:Z5}{l:Zn}{y:Z7}(h:Rd W G (.sl (l.map ZL)) y):∃a c,y=.slice a (P l) c:=by
 generalize f:l.map ZL=L at h;have j:P L=P l:=by rw[<-f,Zem]
 cases h with
 |nil a c d=>simp_all
 |sl _ b o cap k vs d g=>simp_all
def Nj:Try.f42.body=xk seC:=Z2
def Z3k{Q:Z4}{c:Nat}{Post:Zb}{es:ZcM}{fn:Func}{code d:Code}{a:Act}{b:Zg}{w:Z3}{cs:Z6}(f:fn.body=xk code)(h2:fn.body=xk d)(h:LS Q c Post es (b.at a [.code code]) cs w):LS Q c Post es (b.at a [.code d]) cs w:=by
 simp_all
def Z6U(b:Zg)(b7:Z6)(w:Z3)(h:Hp)(hh:h.ok)(x:Z8)(c:Nat)(G:Z5)(hG:∀b,G b->b<xz (xj w))(X:∀j,j<5->Rd w G (.sl ((Zu h j).map vu)) (x j))
  (c8:∀p,p<4->xq (obP h p)<=1000000/\∀o∈obP h p,0<=o.at_/\0<=o.size/\o.at_+1+o.size<=xq (Zu h p)):
  LS Sol.prog c (Dq c b b7) ((Wm h x 4 0).map .send) (b.at {tmps:=#[ZN h x,.chan (xk c)]++Array.replicate (71- (#[ZN h x,.chan (xk c)]:Array Value).size) undef,defers:=[]} [.code seC]) b7 w:=by
 obtain⟨O,Y,e0⟩:=KX (X 0 Z0);obtain⟨P,k1,e1⟩:=KX (X 1 Z0);obtain⟨Q,Z,e2⟩:=KX (X 2 Z0);obtain⟨R,k3,e3⟩:=KX (X 3 Z0);have A:=ZdX (And.intro e0 (And.intro e1 (And.intro e2 e3)));have HL:∀W,Below (xz (xj w)) w W->Calls Sol.prog 64 #[ZN h x] W λe w'=>e=.returned (Vu (Zv h))/\Below (xz (xj W)) W w':=λW L=>
  TL (G:=G) (λb N=>Ze1 (hG b N) L.size) λj hj=>(X j hj).keep (λb N=>L.block b (hG b N)) λ_ q=>q
 have HO:∀W,Below (xz (xj w)) w W->∀p,Calls Sol.prog 27 #[ZN h x,.int .i64 p] W λe w'=>∃s,e=.returned (.tuple #[s,.int .i64 (Uu h p).2])/\Below (xz (xj W)) W w'/\Rd w' (λb=>b<xz (xj w')) (.sl ((Uu h p).1.map ZL)) s:=λW L p=>
  Pf hh (G:=G) (λb N=>Ze1 (hG b N) L.size) (λj hj=>(X j hj).keep (λb N=>L.block b (hG b N)) λ_ q=>q) p
 unfold ZN at HL HO;rw[e0,e1,e2,e3]at HL HO;have HL:=ZdX HL;have HO:=ZdX HO;have HF:=ZdX (And.intro hG X);have HB:=ZdX c8;clear hG X c8;unfold ZN;rw[e0,e1,e2,e3];refine Z3k (fn:=Try.f42) rfl Nj ?_;rw[u71];refine LS.two (LS.regK λK u=> ?_);go_wp2;obtain⟨w2,z⟩:∃w2,w2=w.alloc (.cells #[.int .u64 h.base,.int .i64 h.cap,.int .i64 h.to,.bool h.cycle,.int .i64 h.scan,.slice O (xq (Zu h 0)) Y,.slice P (xq (Zu h 1)) k1,.slice Q (xq (Zu h 2)) Z,.slice R (xq (Zu h 3)) k3,x 4] 37):=⟨_,rfl⟩;rw[<-z];have b2:w2.heap[xz (xj w)]?=xk (.cells #[.int .u64 h.base,.int .i64 h.cap,.int .i64 h.to,.bool h.cycle,.int .i64 h.scan,.slice O (xq (Zu h 0)) Y,.slice P (xq (Zu h 1)) k1,.slice Q (xq (Zu h 2)) Z,.slice R (xq (Zu h 3)) k3,x 4] 37 (0,0)):=by rw[z];exact Zej ..
 have z2:xz (xj w2)=xz (xj w)+1:=by rw[z];simp
 have q2:Below (xz (xj w)) w w2:=by rw[z];exact(Zeh _ _).alloc (ZdU _) _
 clear z;have y2:∀j,w2.cell? ⟨xz (xj w),j,xw⟩=(#[.int .u64 h.base,.int .i64 h.cap,.int .i64 h.to,.bool h.cycle,.int .i64 h.scan,.slice O (xq (Zu h 0)) Y,.slice P (xq (Zu h 1)) k1,.slice Q (xq (Zu h 2)) Z,.slice R (xq (Zu h 3)) k3,x 4]:Array Value)[j]? :=λj=>Ze6 _ _ _ _ _ _ b2;have d:=ZdX (And.intro b2 (And.intro z2 q2));clear b2 z2 q2;refine LS.two (LS.regK λK u=> ?_);go_wp2_with (first
  |(go_at_call 64;refine(HL.out _ d.out.2.2).mono ?_;rintro e w3 ⟨rfl,b9⟩;unfold Vu Zv;dsimp only;have I:=ZdX b9;clear b9))
 obtain⟨W,L⟩:∃W,W=w3.alloc (.cells #[.int .u64 h.base,.int .i64 h.cap,.int .i64 h.to,.int .i64 (xq h.low),.int .i64 (xq h.high),.int .i64 (xq h.old),.int .i64 (xq h.far)] 69):=⟨_,rfl⟩;obtain⟨S,a8⟩:∃S,S=xz (xj w3):=⟨_,rfl⟩;rw[<-L,<-a8];have f:SSt w h x S W:=by
  have hz:=I.out.size;rw[L,a8];exact⟨(d.out.2.2.trans (I.out.mono d.out.2.2.size)).alloc (by have:=d.out.2.2.size;omega) _,by rw[ZdY _ _ _ (by have:=YC d.out.1;omega)];rw[e0,e1,e2,e3];exact(I.out.block _ (YC d.out.1)).trans d.out.1,Zej ..⟩
 clear L a8 I d y2 e0 e1 e2 e3;have y2:∀j,W.cell? ⟨xz (xj w),j,xw⟩=(#[.int .u64 h.base,.int .i64 h.cap,.int .i64 h.to,.bool h.cycle,.int .i64 h.scan,.slice O (xq (Zu h 0)) Y,.slice P (xq (Zu h 1)) k1,.slice Q (xq (Zu h 2)) Z,.slice R (xq (Zu h 3)) k3,x 4]:Array Value)[j]? :=λj=>Zde;refine LS.two (LS.two (LS.regK λK u=> ?_));go_wp2;refine LS.block (LS.loopI (λn es a W=>∃(p:Nat) (t:Za),p+n=4/\es=(Wm h x n p).map .send/\a=⟨t,[]⟩/\t.size=71/\t.getD 1 undef=.chan (xk c)/\t.getD 2 undef=.pointer (xk ⟨xz (xj w),0,xw⟩)/\t.getD 4 undef=.pointer (xk ⟨S,0,xw⟩)/\
  t.getD 24 undef=.agg #[.slice O (xq (Zu h 0)) Y,.slice P (xq (Zu h 1)) k1,.slice Q (xq (Zu h 2)) Z,.slice R (xq (Zu h 3)) k3]/\t.getD 25 undef=.int .i64 p/\SSt w h x S W) (n:=4) ⟨0,_,rfl,rfl,rfl,rfl,rfl,rfl,rfl,rfl,rfl,f⟩ ?_)
 clear f y2 W;rintro n es a W ⟨p,t,hp,rfl,rfl,D,t1,t2,t4,F,H,f⟩ ih;have IH:=ZdX ih;clear ih;rw[Eh D,t1,t2,t4,F,H];obtain⟨g,hg⟩:∃g:Z8,∀i,t.getD i undef=g i:=⟨_,λ_=>rfl⟩;simp only[hg];clear hg t1 t2 t4 F H D t;have y2:∀j,W.cell? ⟨xz (xj w),j,xw⟩=(#[.int .u64 h.base,.int .i64 h.cap,.int .i64 h.to,.bool h.cycle,.int .i64 h.scan,.slice O (xq (Zu h 0)) Y,.slice P (xq (Zu h 1)) k1,.slice Q (xq (Zu h 2)) Z,.slice R (xq (Zu h 3)) k3,x 4]:Array Value)[j]? :=λj=>Zde;cases n with
 |zero=>
  have d5:((p:Int)<4)=False:=Zhp Z0;refine LS.two (LS.regK λK u=> ?_);go_wp2;refine LS.two (LS.condF rfl (LS.exit rfl (LS.region ?_)));refine LS.value (i:=0) (l:=[1]) rfl rfl rfl ?_;exact LS.now ⟨rfl,_,rfl,rfl,rfl⟩
 |succ n=>
  have d5:((p:Int)<4)=True:=eq_true Z0;have f4:p<4:=Z0;refine LS.two (LS.regK λK u=> ?_);go_wp2;refine LS.two (LS.condT rfl (LS.skip (LS.two (LS.block (LS.two (LS.regK λK u=> ?_))))));obtain⟨ap,kp,ep⟩:=KX (HF.out.2 p Z0);have c7:∀W,(Instr.index 135 (.agg #[.slice O (xq (Zu h 0)) Y,.slice P (xq (Zu h 1)) k1,.slice Q (xq (Zu h 2)) Z,.slice R (xq (Zu h 3)) k3]) (.int .i64 (p:Int))).run Sol.prog W=.ok (.slice ap (xq (Zu h p)) kp) W:=by
   intro W;have hT:Sol.prog.underlying 135=xk (.array 4 35):=Z2;have:p=0\/p=1\/p=2\/p=3:=Z0;rw[<-ep];obtain rfl|rfl|rfl|rfl:=this;rw[A.out.1];rfl;rw[A.out.2.1];rfl;rw[A.out.2.2.1];rfl;rw[A.out.2.2.2];rfl
  have EP:=ZdX ep;clear ep;go_wp2;clear c7;have b6:=Zy ((p:Int)+1) Z0 Z0;refine LS.two (LS.regK λK u=> ?_);go_wp2;have d:=ZdX f;clear f;refine LS.two (LS.regK λK u=> ?_);go_wp2_with (first
   |(go_at_call 27;refine(HO.out _ d.out.bel _).mono ?_;rintro e W5 ⟨s5,rfl,c0,r⟩;obtain⟨a5,k5,rfl⟩:=Z5N r;have a4:=ZdX (And.intro c0 r);clear c0 r))
  refine LS.two (LS.regK λK u=> ?_);go_wp2;have f:=d.out.below a4.out.1;have r:=a4.out.2;clear d a4 y2 W d5;rename_i W5;rw[show(Uu h ((p:Int)+1)).1=obP h p from rfl]at r⊢;have U:=Z4f r λb N=>N;obtain⟨f3,d0⟩:=HB.out p f4;have c6:Wm h x (n+1) p=(obP h p).map (Uo h x p)++Wm h x n (p+1):=rfl;rw[c6];clear c6 r;have HX:=ZdX (And.intro U (And.intro f3 d0));clear U d0;refine LS.block (LS.loopI (λm es a W=>∃(i:Nat) (t:Za),i+m=xq (obP h p)/\es=(((obP h p).drop i).map (Uo h x p)++Wm h x n (p+1)).map .send/\a=⟨t,[]⟩/\t.size=71/\t.getD 1 undef=.chan (xk c)/\t.getD 2 undef=.pointer (xk ⟨xz (xj w),0,xw⟩)/\t.getD 4 undef=.pointer (xk ⟨S,0,xw⟩)/\
   t.getD 6 undef=.slice ap (xq (Zu h p)) kp/\t.getD 7 undef=.int .i64 ((p:Int)+1)/\t.getD 24 undef=.agg #[.slice O (xq (Zu h 0)) Y,.slice P (xq (Zu h 1)) k1,.slice Q (xq (Zu h 2)) Z,.slice R (xq (Zu h 3)) k3]/\t.getD 25 undef=.int .i64 p/\t.getD 37 undef=.slice a5 (xq (obP h p)) k5/\t.getD 38 undef=.int .i64 (xq (obP h p))/\t.getD 39 undef=.int .i64 i/\
   SSt w h x S W/\Below (xz (xj W5)) W5 W) (n:=xq (obP h p)) ⟨0,_,Z0,rfl,rfl,rfl,rfl,rfl,rfl,rfl,rfl,rfl,rfl,rfl,rfl,rfl,f,Zeh _ _⟩ ?_)
  clear f g b6;rintro m es a W ⟨i,t,hi,rfl,rfl,D,t1,t2,t4,t6,t7,F,H,e4,e7,e8,f,k⟩ ih;have f0:=ZdX ih;clear ih;rw[Eh D,t1,t2,t4,t6,t7,F,H,e4,e7,e8];obtain⟨g,hg⟩:∃g:Z8,∀i,t.getD i undef=g i:=⟨_,λ_=>rfl⟩;simp only[hg];clear hg t1 t2 t4 t6 t7 F H e4 e7 e8 D t;cases m with
  |zero=>
   have b3:((i:Int)< (xq (obP h p):Int))=False:=Zhp Z0;refine LS.two (LS.regK λK u=> ?_);go_wp2;refine LS.two (LS.condF rfl (LS.exit rfl (LS.inBlock ?_)));have b6:=Zy ((p:Int)+1) Z0 Z0;have C:(obP h p).drop i=[]:=ZhN Z0;rw[C];clear C b3;refine LS.regK λK u=> ?_;go_wp2;exact IH.out n _ _ _ Z0 ⟨p+1,_,Z0,rfl,rfl,rfl,rfl,rfl,rfl,rfl,Z1,f⟩
  |succ m=>
   have b5:i< xq (obP h p):=Z0;obtain⟨o,ho⟩:∃o,(obP h p)[i]?=xk o:=⟨_,ZdO b5⟩;have b3:((i:Int)< (xq (obP h p):Int))=True:=eq_true Z0;obtain⟨g5,o5,f5,e5,c5,g3,f2,B⟩|⟨a9,c9,e9,f1⟩:=HX.out.1;case inr=>rw[f1]at b5;simp at b5
   injection e5 with e5 _ e6;subst e5;subst e6;obtain⟨v0,v1,v2,v3,v4⟩:=B i o ho;have y:=k.block _ f2;have y0:W.cell? ⟨g5,o5+i*5,xw⟩=xk (.int .i64 o.at_):=by rw[ZeT y];exact v0
   have y1:W.cell? ⟨g5,o5+i*5+1,xw⟩=xk (.int .i64 o.size):=by rw[ZeT y];exact v1
   have y2:W.cell? ⟨g5,o5+i*5+2,xw⟩=xk (.int .i64 o.ptrs):=by rw[ZeT y];exact v2
   have y3:W.cell? ⟨g5,o5+i*5+3,xw⟩=xk (.bool o.gone):=by rw[ZeT y];exact v3
   have y4:W.cell? ⟨g5,o5+i*5+4,xw⟩=xk (.int .u64 o.target):=by rw[ZeT y];exact v4
   clear v0 v1 v2 v3 v4 y B;have HC:=ZdX c5;clear c5;refine LS.two (LS.regK λK u=> ?_);go_wp2;refine LS.two (LS.condT rfl (LS.skip (LS.two (LS.block (LS.two (LS.regK λK u=> ?_))))));go_wp2;obtain⟨W6,M⟩:∃W6,W6=W.alloc (.cells #[.int .i64 o.at_,.int .i64 o.size,.int .i64 o.ptrs,.bool o.gone,.int .u64 o.target] 59):=⟨_,rfl⟩;obtain⟨T,b1⟩:∃T,T=xz (xj W):=⟨_,rfl⟩;rw[<-M,<-b1];have b0:Below (xz (xj W)) W W6:=by rw[M];exact(Zeh _ _).alloc (ZdU _) _
   have q6:W6.heap[T]?=xk (.cells #[.int .i64 o.at_,.int .i64 o.size,.int .i64 o.ptrs,.bool o.gone,.int .u64 o.target] 59 (0,0)):=by rw[M,b1];exact Zej ..
   have a6:=f.below b0;have b8:=k.trans (b0.mono k.size);clear M b1 b0 f k y0 y1 y2 y3 y4 W;have z4:∀j,W6.cell? ⟨S,j,xw⟩=(#[.int .u64 h.base,.int .i64 h.cap,.int .i64 h.to,.int .i64 (xq h.low),.int .i64 (xq h.high),.int .i64 (xq h.old),.int .i64 (xq h.far)]:Array Value)[j]? :=λj=>Ze6 _ _ _ _ _ _ a6.c4;have zo:∀j,W6.cell? ⟨T,j,xw⟩=(#[.int .i64 o.at_,.int .i64 o.size,.int .i64 o.ptrs,.bool o.gone,.int .u64 o.target]:Array Value)[j]? :=λj=>Ze6 _ _ _ _ _ _ q6;have d:=ZdX (And.intro a6 (And.intro b8 q6));clear a6 b8 q6;have HA:=ZdX λW=>DM hh.lay ((p:Int)+1) o.at_ W;unfold Vu Zv at HA;dsimp only at HA;refine LS.two (LS.regK λK u=> ?_);go_wp2_with (first
    |(go_at_call 75;refine(HA.out _).mono ?_;rintro e W7 ⟨rfl,c1⟩;have J:=ZdX c1;clear c1))
   have f:=d.out.1.below J.out;have k:=d.out.2.1.trans (J.out.mono d.out.2.1.size);have q7:=(J.out.block _ (YC d.out.2.2)).trans d.out.2.2;clear z4 zo d J HA;rename_i W7;clear W6;obtain⟨f6,g8,f9⟩:=HX.out.2.2 o (ZdW ho);have d6:0< xq (Zu h p):=Z0;obtain⟨bw,ow,ew,f7,g4⟩:=Z5Q (HF.out.2 p Z0) d6 EP.out;subst ew;have C:(obP h p).drop i=o::(obP h p).drop (i+1):=by
    obtain⟨h1,rfl⟩:=ZdQ.1 ho;exact ZeN h1
   rw[C];rw[show(((o::(obP h p).drop (i+1)).map (Uo h x p)++Wm h x n (p+1)).map Ev.send)=.send (Uo h x p o)::(((obP h p).drop (i+1)).map (Uo h x p)++Wm h x n (p+1)).map .send from rfl];clear C ho b3;have zo:∀j,W7.drew.cell? ⟨T,j,xw⟩=(#[.int .i64 o.at_,.int .i64 o.size,.int .i64 o.ptrs,.bool o.gone,.int .u64 o.target]:Array Value)[j]? :=λj=>Ze6 _ _ _ _ _ _ (show W7.drew.heap[T]?=_ from q7);have f8:=QW hh p;have b6:=Zy (o.at_+1) Z0 Z0;have z:=Zy (o.at_+1+o.size) Z0 Z0;have d7:(0:Int)<=o.at_+1:=Z0;have d8:o.at_+1<=o.at_+1+o.size:=Z0;have d9:o.at_+1+o.size<=(kp:Int):=Z0;obtain⟨av,nv,cv,a7⟩:∃av nv cv,.slice av nv cv=Rb (x p) (o.at_+1).toNat o.size.toNat:=by rw[EP.out];exact⟨_,_,_,rfl⟩
   have g6:∀W,(Instr.slice 35 (.slice (xk ⟨bw,ow,xw⟩) (xq (Zu h p)) kp) (xk (.int .i64 (o.at_+1))) (xk (.int .i64 (o.at_+1+o.size))) xw).run Sol.prog W=.ok (.slice av nv cv) W:=by
    intro W;have hT:Sol.prog.underlying 35=xk (.slice 24):=Z2;rw[a7,EP.out,Z6L hT Z1 d7 d8 d9,show o.at_+1+o.size- (o.at_+1)=o.size by omega]
   clear d7 d8 d9 zo;have zo:∀j,W7.drew.cell? ⟨T,j,xw⟩=(#[.int .i64 o.at_,.int .i64 o.size,.int .i64 o.ptrs,.bool o.gone,.int .u64 o.target]:Array Value)[j]? :=λj=>Ze6 _ _ _ _ _ _ (show W7.drew.heap[T]?=_ from q7);have HV:=ZdX a7;clear a7;have d:=ZdX (And.intro f k);clear f k q7;refine LS.send (n:=16) follows Z2 rfl rfl rfl rfl rfl rfl ?_;simp only[Zhe,Zia];change wpStill Sol.prog _ W7.drew _ _ _;repeat still_step
   refine wpStill_nil ⟨rfl,?_,?_⟩;unfold Uo;rw[<-HV.out];rfl
   .refine LS.inBlock ?_;have g7:=Zy ((i:Int)+1) Z0 Z0;refine LS.regK λK u=> ?_;go_wp2;exact f0.out m _ _ _ Z0 ⟨i+1,_,Z0,rfl,rfl,rfl,rfl,rfl,rfl,rfl,rfl,rfl,rfl,rfl,rfl,Z1,SSt.below d.out.1 (Zeh _ _).drew,d.out.2.drew⟩
end Vm
end
section
namespace Vm
open Go Go.Proofs Go.Conc
open Go.RowKit (Below)
section
section
variable {c:Ctx}{B:Nat}{G Kf:Z5}{s:St}{a:Act}{w w0:Z3}{h:GH}{S:SS}{n0:Nat}{fix:Zd}{T0:Za}{t:Nat}{v:Z7}{x:V}
def WE{p:Nat}(d:p≠t):(a.put (xk t) v).tmps[p]?=a.tmps[p]? :=by
 simp[Act.put,Zf3,ZfF d]
def Rr(d:t<a.tmps.size):(a.put (xk t) v).tmps[t]?=xk v:=by
 simp[Act.put,Zf3,d]
theorem SA:(a.put (xk t) v).tmps.size=a.tmps.size:=by simp[Act.put]
theorem Z6a{p:Nat}{k:OT}{u:Z7}{d f:Nat->Option Value}(g:RelK c.P B s w h d p u (QB c p k)):RelK c.P B s w h f p u (QB c p k):=by
 cases k<;>exact g
def RelG.set(j:RelG c B G s a w h (Yp c S))(n:S.at t=xw):RelG c B G s (a.put (xk t) v) w h (Yp c S):=by
 refine⟨j.ok,λp g d=> ?_,λp g=> ?_⟩;by_cases e:p=t;subst e;rw[Yu,n]at d;cases d;obtain⟨u,o,f⟩:=j.at_ p g d;refine⟨u,by simp_all[WE],?_⟩;rw[Yu]at f⊢;cases l:S.at p with
 |none=>rw[Yu,l]at d;cases d
 |some k=>grind [Z6a]
 refine absurd ?_ g;rw[Yu];cases S.at p<;>exact VL _
def RelS.set(l:RelS Kf fix T0 c B G w0 n0 s a w S)(k:S.at t=xw):RelS Kf fix (a.put (xk t) v).tmps c B G w n0 s (a.put (xk t) v) w S:=by
 obtain⟨⟨h,d,f⟩,g,n,o,j⟩:=l;exact⟨⟨h,d.set k,f⟩,g,.refl _ _,by grind [SA],j⟩
def RelS.base(j:RelS Kf fix T0 c B G w0 n0 s a w S):RelS Kf fix a.tmps c B G w n0 s a w S:=by
 obtain⟨d,f,k,g⟩:=j;exact⟨d,f,.refl _ _,g⟩
theorem RelS.put(C:RelS Kf fix T0 c B G w0 n0 s a w S)(u:S.at t=xw)(f:∀y∈S,c.ix y.1≠c.ix t)(A:t<n0)(D:Rd w G x v):RelS Kf fix (a.put (xk t) v).tmps c B G w n0 (YD s (c.ix t) (.v x)) (a.put (xk t) v) w ((t,.fz)::S):=by
 obtain⟨⟨h,j,o⟩,q,H,I,r⟩:=C;refine⟨⟨h,⟨j.ok,λp d g=> ?_,λp d=> ?_⟩,o⟩,λp d=> ?_,.refl _ _,by grind [SA],r⟩;rw[Yu]at g⊢;by_cases e:t=p;subst e;simp only[SS.at,ZeA];exact⟨v,Rr Z0,x,by simp[eval,X3],D.mono λb z=>GH.ext_F (j.ok.g_F b z)⟩;simp only[SS.at,if_neg e]at g⊢;have l:=(j.set (v:=v) u).agree (t:=YD s (c.ix t) (.v x)) λy F=>by rw[X3,if_neg (f y F)]
 cases n:S.at p with
 |none=>rw[n]at g;cases g
 |some k=>
  have:=l.at_ p (by grind [Yu,VL]) (by simp_all[Yu]);simp_all[Yu]
 refine absurd ?_ d;rw[Yu];split<;>exact VL _;by_cases e:t=p;simp_all[SS.at];simp only[SS.at,if_neg e]at d;rw[X3,if_neg (f _ (Qv d))];exact q p d
end
noncomputable def cV:Ctx:= {P:=Sol.prog,ix:=(vf Sol.prog).ix,own:=λ_=>xh,fresh,sig:=CH,tr:=[3],n:=82}
def yo{code:Code}{S:SS}{st:Stm}{fl:Flow}{B:Nat}{G Kf:Z5}{s:St}{a:Act}{w w0:Z3}{T0:Za}{N:St->Prop}{X:Nat->St->Prop}{Rt:St->Prop}(hc:comp (vf Sol.prog) code S=xk (st,fl))(j:RelS Kf [4,23] T0 cV B G w0 82 s a w S)(k:Yr Sol.prog st s N X Rt):
  code.wp Sol.prog (Post Kf [4,23] T0 cV B G w0 82 fl N X Rt) a w:=
 jy (fc:=vf Sol.prog) follows (λp f q g d=>C4 (Zfh _ f) (Zfh _ g) d) rfl rfl rfl (ZdU _) code (DR (λ_=>trivial) code) hc j k
noncomputable def bodyC:Code:=Yo ofC [1,1,1,1,1,1,1,0,1,0,0]
noncomputable def ops9:Array Oper:=Kz (Yo ofC [1,1,1,1,1,1,1,0,1,0,0,0])
def Z96:bodyC=.seq (.region 9 ops9 xh) (Yo ofC [1,1,1,1,1,1,1,0,1,0,0,1]):=Z2
def Z6e:Yo ofC [1,1,1,1]=.seq (Yo ofC [1,1,1,1,0]) (.seq (Yo ofC [1,1,1,1,1,0]) (.seq (Yo ofC [1,1,1,1,1,1,0]) (.seq (.seq (Yo ofC [1,1,1,1,1,1,1,0,0]) (.block 0 (.loop bodyC))) (Yo ofC [1,1,1,1,1,1,1,1])))):=Z2
noncomputable def ops8:Array Oper:=Kz (Yo ofC [1,1,1,1,1,1,1,0,0])
def Z5E:Yo ofC [1,1,1,1,1,1,1,0,0]=.region 8 ops8 xh:=Z2
def zF:Value:=.agg #[.int .i64 0,.int .i64 0,.int .i64 0,.bool xh,.int .u64 0,.int .u64 0,.slice xw 0 0]
def Z4A:∃t f d inf o,ops9[0]?=xk o/\o.guard=xw/\o.dst=xk 24/\o.op=.recv t f xy/\f=.tmp 23/\Sol.prog.underlying t=xk (.chan d 87)/\Sol.prog.info? 87=xk inf/\inf.zero=xk zF:=
 ⟨_,_,_,_,_,rfl,rfl,rfl,rfl,rfl,rfl,rfl,rfl⟩
def Z4B:∃o,ops9[1]?=xk o/\o.guard=xw/\o.dst=xk 25/\o.op=.extract (.tmp 24) 1:=⟨_,rfl,rfl,rfl,rfl⟩
def Z4C:ops9.size=2:=rfl
def Cc:SS:=[(1,.mem [.fz,.fz,.fz,.fz,.fz,.fz,.fz,.fz,.fz,.fz]),(2,.mem [.fz,.fz]),(3,.fz),(5,.own 87),(6,.mem [.own 84]),(7,.mem [.own 85])]
structure AtL (B:Nat) (G:Nat->Prop) (wS:World) (c:Nat) (st:Vw) (hc:List V) (s:St) (a:Act) (w:World):Prop where
 rel:∃T0 w0,RelS G [4,23] T0 cV B G w0 82 s a w Cc
 same:Same G wS w
 ch:a.tmps[23]?=xk (.chan (xk c))
 s1:get s 1=.m hc
 s6:get s 6=.v (.sl (st.ns.map Xo))
 s7:get s 7=.m [Yf vi st.nm]
 s8:get s 8=.m [Yf vu st.tm]
theorem AtL.put{B:Nat}{G:Z5}{wS:Z3}{c:Nat}{st:Vw}{hc:Zr}{s:St}{a:Act}{w:Z3}(h:AtL B G wS c st hc s a w){v:Z7}{x:V}{b:Bool}(r:Rd wS G x v):
  ∃g d T0 w0,g=(a.put (xk 24) (.tuple #[v,.bool b])).put (xk 25) (.bool b)/\RelS G [4,23] T0 cV B G w0 82 d g w Ca/\g.tmps[23]?=xk (.chan (xk c))/\get d 1=.m hc/\get d 6=.v (.sl (st.ns.map Xo))/\get d 7=.m [Yf vi st.nm]/\get d 8=.m [Yf vu st.tm]/\get d 12=.v (.tup [x,.bool b])/\get d 10=.v (.bool b):=by
 obtain⟨T0,w0,p⟩:=h.rel;have j:Rd w G (.tup [x,.bool b]) (.tuple #[v,.bool b]):=by
  refine .tup _ _ rfl λi c f=> ?_
  match i,f with
  |0,f=>cases f;exact r.keep h.same λ_ q=>q
  |1,f=>cases f;exact .bool _
 have o:=p.put (t:=24) rfl ZcQ Z0 j;have n:=o.put (t:=25) (v:=.bool b) (x:=.bool b) rfl ZcQ Z0 (.bool _);have k:cV.ix 24=12:=ZcQ;have l:cV.ix 25=10:=ZcQ;rw[k,l]at n;refine⟨_,_,_,_,rfl,n.weak (R:=Ca) Z2,?_,?_,?_,?_,?_,?_,?_⟩;rw[WE Z0,WE Z0];exact h.ch;all_goals simp[X3,h.s1,h.s6,h.s7,h.s8]
def Z5U{B:Nat}{G:Z5}{wS:Z3}{c:Nat}{hc:Zr}{k:Zj}{b:Zg}{Post:Zb}(fin:Vw)
  (K:Rd wS G (Xo ⟨⟨0,0,0,xh,0⟩,0,[]⟩) zF)
  (a0:∀s a w T0 w0,RelS G [4,23] T0 cV B G w0 82 s a w Cb->get s 1=.m hc->get s 6=.v (.sl (fin.ns.map Xo))->get s 7=.m [Yf vi fin.nm]->get s 8=.m [Yf vu fin.tm]->LS Sol.prog c Post [] (b.at a k) [] w):
  ∀(p:List (Fo×Value)) (st:Vw),(∀y∈p,Rd wS G (Xo y.1) y.2)->xq st.ns+xq p<=4000000->(p.map (·.1)).foldl Vw.put st=fin->∀s a w,AtL B G wS c st hc s a w->
   LS Sol.prog c Post (p.map (λy=>.recv y.2)++[.closed zF]) (b.at a (.code bodyC:: .inLoop bodyC:: .inBlock 0::k)) [] w:=by
 obtain⟨t,U,d,inf,o,o1,o2,o3,o4,D,o6,o7,o8⟩:=Z4A;obtain⟨o',p1,p2,p3,p4⟩:=Z4B;have ext:∀(a:Act) (w:Z3) (v:Z7) (b:Bool),a.tmps[24]?=xk (.tuple #[v,.bool b])->(execOp a.eval o').run Sol.prog w=.ok (.value (.bool b)) w:=λa w v b h=>by
  have he:a.eval (.tmp 24)=.tuple #[v,.bool b]:=Act.eval_tmp a 24 _ h;unfold execOp;simp only[p4,he];rfl
 have enter:∀ {F:ZcM} {e:Ev} {v:Z7} {fl:Bool} {s:St} {st:Vw} {a:Act} {w:Z3},e.val=.tuple #[v,.bool fl]->((∃v,e=.recv v)\/e=.closed zF)->AtL B G wS c st hc s a w->
   LS Sol.prog c Post F (b.at ((a.put (xk 24) (.tuple #[v,.bool fl])).put (xk 25) (.bool fl)) (.code (Yo ofC [1,1,1,1,1,1,1,0,1,0,0,1]):: .inLoop bodyC:: .inBlock 0::k)) [] w->
   LS Sol.prog c Post (e::F) (b.at a (.code bodyC:: .inLoop bodyC:: .inBlock 0::k)) [] w:=λ{F e v fl s st a w} J I f hk=>by
  obtain⟨T0,w0,C⟩:=f.rel;have a1:a.tmps.size=82:=C.2.2.2.1;rw[show(Item.code bodyC)=.code (.seq (.region 9 ops9 xh) (Yo ofC [1,1,1,1,1,1,1,0,1,0,0,1]))by rfl];refine LS.two (LS.region ?_);rw[Z4C,show List.range 2=[0,1]from rfl];refine LS.event (i:=0) o1 (by simp[Region.wanted,o2]) ?_ ?_;obtain⟨v,rfl⟩|rfl:=I;exact⟨t,U,d,_,inf,zF,o4,by rw[D];rfl,by rw[D];exact Act.eval_tmp a 23 _ f.ch,o6,o7,o8,λz' e=>by cases e⟩;exact⟨t,U,d,_,inf,zF,o4,by rw[D];rfl,by rw[D];exact Act.eval_tmp a 23 _ f.ch,o6,o7,o8,λz' e=>ZcN⟩;rw[o3,J];refine LS.value (i:=1) p1 (by simp[Region.wanted,p2]) (ext _ w v fl (Rr Z0)) ?_;simp_all[LS.regEnd]
 intro p;induction p with
 |nil=>
  intro st r hn n s a w f;refine enter (v:=zF) (fl:=xh) rfl (.inr rfl) f ?_;obtain⟨a2,s2,T0,w0,rfl,C,A,W,Y,Z,h8,u,q⟩:=f.put (b:=xh) K;refine LS.wp (yo ME C (Z5G (N:=λ_=>False) (R:=λ_=>False) (X:=λid g=>id=0/\g=s2) q ⟨rfl,rfl⟩)) λe T w' j=> ?_;cases e with
  |normal=>obtain⟨_,_,_,h,_⟩:=j;grind
  |exit id=>
   obtain⟨g,Q,hx,⟨rfl,rfl⟩,l⟩:=j;have H:Q=Cb:=by simpa using hx
   subst H;refine⟨k,rfl,?_⟩;grind
  |ret=>obtain⟨_,_,_,h,_⟩:=j;grind
  |_=>exact j.elim
 |cons y p ih=>
  intro st r hn n s a w f;simp only[Zfd]at hn;refine enter (v:=y.2) (fl:=xy) rfl (.inl ⟨_,rfl⟩) f ?_;obtain⟨a2,s2,T0,w0,rfl,C,A,W,Y,Z,h8,u,q⟩:=f.put (b:=xy) (r y Z1);refine LS.wp (yo ME C.base (Z5H (X:=λ_ _=>False) (R:=λ_=>False) (N:=λg=>get g 6=.v (.sl ((st.put y.1).ns.map Xo))/\get g 7=.m [Yf vi (st.put y.1).nm]/\get g 8=.m [Yf vu (st.put y.1).tm]/\get g 1=.m hc) Y Z h8 u q Z0 λg M O P L _ _=>⟨M,O,P,L.trans W⟩)) λe T w' j=> ?_;cases e with
  |normal=>
   obtain⟨g,Q,H,⟨M,O,P,L⟩,l⟩:=j;cases H;refine LS.inLoop (ih (st.put y.1) (λz K=>r z (by simp[K])) ?_ n g T w' ⟨⟨_,_,l.weak (R:=Cc) Z2⟩,f.same.trans l.2.2.1.same,?_,L,M,O,P⟩);grind [Vw.put];rw[l.2.2.1.fix 23 Z1];exact A
  |exit id=>obtain⟨_,_,_,h,_⟩:=j;grind
  |ret=>obtain⟨_,_,_,h,_⟩:=j;grind
  |_=>exact j.elim
def Dr(b:Zg)(D:World->Nat->Prop)(r:V)(fr:Zg)(cs:Z6)(w:Z3):Prop:=
 cs=[]/\∃(a:Act) (d:Zj),fr= {b.at a d with mode:=.returning}/\a.defers=[]/\∃v,(results Try.f15 a.tmps).run Sol.prog w=.ok v w/\Rd w (D w) r v
def Dk{code:Code}{S:SS}{st:Stm}{o:SS}{B:Nat}{G Kf:Z5}{s:St}{a:Act}{w w0:Z3}{T0:Za}{N:St->Prop}{c:Nat}{d:Zb}{es:ZcM}{b:Zg}{k:Zj}(hc:comp (vf Sol.prog) code S=xk (st,⟨xk o,[],[]⟩))(u:RelS Kf [4,23] T0 cV B G w0 82 s a w S)
  (y:Yr Sol.prog st s N (λ_ _=>False) (λ_=>False)) (r:∀l g n,N l->RelS Kf [4,23] T0 cV B G w0 82 l g n o->LS Sol.prog c d es (b.at g k) [] n):LS Sol.prog c d es (b.at a (.code code::k)) [] w:=
 LS.wp (yo hc u y) λe g n f=>by
  cases e with
  |normal=>obtain⟨l,z,q,p,j⟩:=f;cases q;exact r _ _ _ p j
  |exit id=>obtain⟨_,_,_,h,_⟩:=f;grind
  |ret=>obtain⟨_,_,_,h,_⟩:=f;grind
  |_=>exact f.elim
def Z4y:∃o,ops8[0]?=xk o/\o.guard=xw/\o.dst=xk 23/\o.op=.move (.tmp 4):=⟨_,rfl,rfl,rfl,rfl⟩
def Z4z:ops8.size=1:=rfl
def Z4m{B:Nat}{G:Z5}{c:Nat}{b:Zg}{s:St}{a:Act}{w w0:Z3}{T0:Za}{T U W y sc Y Z x7 x8:V}{d:Zc}{fs:List (Fo×Value)}{fin:Vw}(L:RelS G [4,23] T0 cV B G w0 82 s a w KV)(J:a.tmps[4]?=xk (.chan (xk c)))(F:get s 1=.m [T,U,W,y,sc,Y,Z,x7,x8,.sl (d.map vu)])
  (K:∀y∈fs,Rd w G (Xo y.1) y.2) (hn:xq fs<=4000000) (u:(fs.map (·.1)).foldl Vw.put ⟨[],[],[]⟩=fin) (hs:fin.sm d):
  LS Sol.prog c (Dr b (λw' x=>G x\/(B<=x/\x<xz (xj w'))) (V8 (fin.gr d))) (fs.map (λy=>.recv y.2)++[.closed zF]) (b.at a [.code (Yo ofC [1,1,1,1])]) [] w:=by
 rw[Z6e];refine LS.two (Dk r5c L.base (N:=λj=>get j 6=.v (.sl [])/\get j 1=get s 1) (by simp[r5,X3]) λs1 a1 w1 ⟨q6,q1⟩ l=> ?_);refine LS.two (Dk r6c l.base (N:=λj=>get j 7=.m [Yf vi []]/\get j 6=.v (.sl [])/\get j 1=get s 1) (by simp[r6,X3,q6,q1];rfl) λs2 a2 w2 ⟨t7,t6,t1⟩ n=> ?_);refine LS.two (Dk r7c n.base (N:=λj=>get j 8=.m [Yf vu []]/\get j 7=.m [Yf vi []]/\get j 6=.v (.sl [])/\get j 1=get s 1) (by simp[r7,X3,t7,t6,t1];rfl) λs3 C w3 ⟨u8,u7,u6,u1⟩ k=> ?_);have q:C.tmps[4]?=xk (.chan (xk c)):=by
  rw[k.2.2.1.fix 4 Z1,n.2.2.1.fix 4 Z1,l.2.2.1.fix 4 Z1];exact J
 have p:Same G w w3:=(l.2.2.1.same.trans n.2.2.1.same).trans k.2.2.1.same;refine LS.two (LS.two ?_);rw[Z5E];refine LS.region ?_;rw[Z4z,show List.range 1=[0]from rfl];obtain⟨o,o1,o2,o3,o4⟩:=Z4y;have a0:C.eval (.tmp 4)=.chan (xk c):=Act.eval_tmp C 4 _ q;refine LS.value (v:=.chan (xk c)) (w':=w3) o1 (by simp[Region.wanted,o2]) (by simp_all[execOp]) (LS.regEnd ?_);rw[o3];have O:=k.set (t:=23) (v:=.chan (xk c)) rfl;have a4:C.tmps.size=82:=k.2.2.2.1;refine LS.block (LS.steps (.one step_loop) ?_);refine Z5U (hc:=[T,U,W,y,sc,Y,Z,x7,x8,.sl (d.map vu)]) fin (wS:=w) (B:=B) (G:=G) ?_ ?_ fs ⟨[],[],[]⟩ K ZcN u s3 _ w3 ⟨⟨_,_,O.weak (R:=Cc) Z2⟩,p,Rr Z0,u1.trans F,u6,u7,u8⟩;refine .agg _ _ rfl Z1 λi x g=> ?_
 match i,g with
 |0,g=>cases g;exact .int _ _
 |1,g=>cases g;exact .int _ _
 |2,g=>cases g;exact .int _ _
 |3,g=>cases g;exact .bool _
 |4,g=>cases g;exact .int _ _
 |5,g=>cases g;exact .int _ _
 |6,g=>cases g;exact .nil _ _ (ZeJ _)
 intro s5 a5 w5 T5 a6 P v1 v6 v7 v8;refine LS.wp (yo rCc ((P.weak (R:=MD) Z2).base) (Z5F (N:=λ_=>False) (X:=λ_ _=>False) (R:=λj=>Wg j [(2,.ag 2),(3,.v)]=xk (V8 (fin.gr d))) hs v1 v6 v7 v8 λj h=>h)) λe a' w' H=> ?_;cases e with
 |normal=>obtain⟨_,_,_,h,_⟩:=H;grind
 |exit id=>obtain⟨_,_,_,h,_⟩:=H;grind
 |ret=>
  obtain⟨j,S',I,hR,M⟩:=H;have I:S'=C9:=by simpa using I
  subst I;obtain⟨⟨h,k1,k2⟩,k3,k4,k5,k6⟩:=M;intro A;obtain⟨v,hv,Q⟩:=L3 (c:=cV) (f:=Try.f15) (D:=λx=>G x\/(B<=x/\x<xz (xj w'))) k1 k3 (λx z=>by
   obtain F|F:=k1.ok.f_or x z;grind;exact .inr ⟨F,k1.ok.f_lt x z⟩) (λr L=>⟨ZdZ.1 (Z2:(Try.f15.results.toList.all (R1 Sol.prog C9))=xy) r L,λi x z=>.inr ⟨(k1.ok.b_lt _ _ x z).1,(k1.ok.b_lt _ _ x z).2.1⟩⟩) (x:=V8 (fin.gr d)) (by rw[<-hR];rfl)
  exact LS.now ⟨rfl,a',A,rfl,k6,v,hv,Q⟩
 |_=>exact H.elim
end
section
def Z0C:∃o d,clOps[1]?=xk o/\o.guard=xw/\o.dst=xw/\o.op=.call ⟨.builtin .close, #[.tmp 70],d⟩:=⟨_,_,rfl,rfl,rfl,rfl⟩
section
variable {b:Zg}{a:Act}{c:Nat}{w:Z3}
def Z0E{cs:Z6}(t:b.fn=42)(x:b.kind≠.early)(q:a.tmps[70]?=xk (.chan (xk c))){s r:Nat}{f:Bool}(hc:w.heap[c]?=xk (.chan 0 #[] xh s r f)):
  stepG Try.prog xh (G (b.at a [.inRegion clOps [1]]) cs) w=.go (G (b.at a [.inRegion clOps []]) cs) (WF w c (.chan 0 #[] xy s r f)) #[⟨.obj c,xh,xy⟩,⟨.obj c,xy,xy⟩]:=by
 obtain⟨o,d,l,g,n,p⟩:=Z0C;have h:a.eval (.tmp 70)=.chan (xk c):=Act.eval_tmp a 70 _ q;have j:execOp a.eval o=(do pure (.value (<-Builtin.close_ d o.type #[.chan (xk c)])):Sem Next):=by
  unfold execOp;simp only[p];simp[resolve,builtin,h];rfl
 have y:(execOp a.eval o).run Try.prog w=.ok (.value (.tuple #[])) (WF w c (.chan 0 #[] xy s r f)):=by
  rw[j];simp only[Zet,run_close_open d o.type hc,Zeo];rfl
 have u:(execOp a.eval o).events Try.prog w #[]=#[⟨.obj c,xh,xy⟩,⟨.obj c,xy,xy⟩]:=by
  rw[j];have g:(Builtin.close_ d o.type #[.chan (xk c)]).runT Try.prog w #[]=(.ok (.tuple #[]) (WF w c (.chan 0 #[] xy s r f)), #[⟨.obj c,xh,xy⟩,⟨.obj c,xy,xy⟩]):=by
   refine Zgh ?_ (events_close_open d o.type hc);rw[ZfW];exact run_close_open d o.type hc
  show((Sem.bind _ _).runT Try.prog w #[]).2=_;rw[Zg4,g];rfl
 rw[stepG_value l (by simp[Region.wanted,g]) x y];have k:a.put o.dst (.tuple #[])=a:=by rw[n];rfl
 rw[k];unfold listed;rw[u,seen_eq (by rw[t,Try.func42];rfl) Z1]
noncomputable def bornF:Frame:= {(default:Zg)with fn:=Try.prog.funcs.size,defers:=[],mode:=.panicking [goexitEntry]}
def Z6V(d:b= {base 42 with kind:=.deferred})(f:a.defers=[]):QuitsIn Try.prog 4 (G (b.at a [.inRegion clOps []]) [bornF]):=by
 subst d;refine .ctl (g':=G (({base 42 with kind:=.deferred}:Frame).at a []) [bornF]) rfl (λw=>ZdJ) ?_;refine .ctl (g':=G {(({base 42 with kind:=.deferred}:Frame).at a [])with mode:=.returning} [bornF]) rfl (λw=>ZdJ) ?_;refine .ctl (g':=G bornF []) rfl (λw=> ?_) ?_;have g:=Try.func42;simp[G,stepG,unwind,Frame.at,f,base,g,results,Try.results42,doReturn,bornF,goexitEntry];rfl;refine .ctl (g':= {(G bornF [])with status:=.finished}) rfl (λw=> ?_) rfl;rfl
end
def yi(l:Zc):NoM (.sl (l.map vu)):=.sl _ λc d=>by
 have:flat (l.map vu)=l.map vu:=U6 λx f=>by obtain⟨y,_,rfl⟩:=Ze4.1 f;rfl
 rw[this]at d;obtain⟨y,_,rfl⟩:=Ze4.1 d;exact .int _ _
def Z18{n:Nat}{v:Z7}(h:FixV n v)(g m:Nat):FixV n (Rb v g m):=by
 intro ρ f;have d:=h ρ f;unfold Rb;split;rename_i b o q k c;simp only[Zt,Ze8,ZR,Value.slice.injEq,ZdP,Addr.mk.injEq,and_true]at d;grind [Zt,ZR];exact d
def Fj{n:Nat}{h:Hp}{x:Z8}{p:Nat}(hx:FixV n (x p))(o:Ob):FixV n (Uo h x p o):=by
 intro ρ d;have:=Z18 hx (o.at_+1).toNat o.size.toNat ρ d;simp_all[Uo,Wz,XV,Ud]
def A5{h:Hp}{x:Z8}{v:Z7}:∀ {n p:Nat},v∈Wm h x n p->∃q o,q<p+n/\v=Uo h x q o
 |0,p,d=>by simp[Wm]at d
 |n+1,p,d=>by
  simp only[Wm,Zel,Ze4]at d;obtain⟨o,_,rfl⟩|d:=d;exact⟨p,o,Z0,rfl⟩;obtain⟨q,o,g,f⟩:=A5 d;exact⟨q,o,Z0,f⟩
def bD:Frame:= {base 42 with kind:=.deferred}
def jC(args:Za):Frame.enter Try.prog 42 args .deferred=bD.at {tmps:=args++Array.replicate (71-args.size) undef,defers:=[]} [.code seC]:=by
 rfl
def Nk:YY Sol.prog xh seC=xy:=Z2
def t5:Sol.prog.funcs[Try.prog.funcs.size]?=xw:=by
 grind [Array.getElem?_eq_none,Sol.prog,WS]
def Z0B{c n0:Nat}{h:Hp}{x:Z8}{K:Z5}{w:Z3}(hh:h.ok)(Z:xz (xj w)<=n0)(hc:c<n0)(hK:∀b,K b->∃cs e fr,w.heap[b]?=xk (.cells cs e fr))(N:∀b o,w.heap[b]?=xk o->K b->Jw n0 o)
  (hx:∀j,j<5->FixV n0 (x j)) (hr:∀j,j<5->Rd w K (.sl ((Zu h j).map vu)) (x j))
  (a0:∀p,p<4->P (obP h p)<=1000000/\∀o∈obP h p,0<=o.at_/\0<=o.size/\o.at_+1+o.size<=P (Zu h p)):
  Play Try.prog xh c K (UD Try.prog c) ((Wm h x 4 0).map .send) (λ_=>False) (born Try.prog {target:=.fn (.func 42) #[],args:=#[ZN h x,.chan (xk c)]}) w:=by
 have a4:∀b,K b->b<xz (xj w):=λb l=>ZcN;have C:∀w1:Z3,stepG Try.prog xh (born Try.prog {target:=.fn (.func 42) #[],args:=#[ZN h x,.chan (xk c)]}) w1=.go (G (Frame.enter Try.prog 42 #[ZN h x,.chan (xk c)] .deferred) [bornF]) w1 #[]:=λw1=>by
  rfl
 refine .step (λw1 H=>⟨_,_,_,_,C w1,ZdU _,ZdU _,rfl,rfl,λ_ _ _=>rfl,λe T=>by simp at T⟩) λw1 g' w' a2 H e=> ?_;have e:=(C w1).symm.trans e;injection e with J L e3;subst J L;have B:(Va (λ_=>False) w1 w1:Z5)=λ_=>False:=funext λb=>propext ⟨λl=>by obtain l|l:=l;exact l;omega,λl=>l.elim⟩;rw[B];refine Play.rely ?_ H;let X:Cx:=TQ Try.prog Sol.prog n0 K (λ_=>False);have Q:X.P=Try.prog:=Sol.sub.P n0 K (λ_=>False);have n:∀v∈ #[ZN h x,.chan (xk c)],FixV n0 v:=λv hv=>by
  have:v=ZN h x\/v=.chan (xk c):=by simpa using hv
  obtain rfl|rfl:=this;intro ρ k;unfold ZN;rw[Wz];simp[XV,Ud,hx 0 Z0 ρ k,hx 1 Z0 ρ k,hx 2 Z0 ρ k,hx 3 Z0 ρ k,hx 4 Z0 ρ k];intro ρ k;simp[Zt,k c hc]
 have z:∀ρ,Zw ρ bornF=bornF:=λρ=>by
  simp[Zw,bornF,Wf,R6,goexitEntry,Sl];exact⟨by show Array.map (Zt ρ) #[]=#[];simp,rfl,rfl⟩
 have hw:=Dh X (Sol.sub.ok n0 K (λ_=>False)) (c:=c) (es:=(Wm h x 4 0).map .send) (fr:=Frame.enter Try.prog 42 #[ZN h x,.chan (xk c)] .deferred) (cs:=[bornF]) (ds:=[]) (main:=xh) (wc:=w)
  (λe T=>by
   obtain⟨v,hv,rfl⟩:=Ze4.1 T;obtain⟨q,o,hq,rfl⟩:=A5 hv;exact⟨Fj (hx q Z0) o,hc⟩)
  (λρ=>by
   rw[jC];refine⟨⟨λi Y=> ?_,λd A=>by simp[Frame.at]at A,.inr rfl,.inl ⟨_,seC,Sol.func42,Try.func42,Nj,Nk⟩⟩,λf U=> ?_,rfl⟩;have:i=.code seC:=by simpa[Frame.at]using Y
   subst this;exact Nk;have:f=bornF:=by simpa using U
   subst this;exact⟨λi Y=>(by cases Y),λd A=>(by cases A),.inl rfl,.inr (.inl ⟨t5,Zge (ZdU _)⟩)⟩)
  (λf U=>by
   have:f=Frame.enter Try.prog 42 #[ZN h x,.chan (xk c)] .deferred\/f=bornF:=by simpa using U
   obtain rfl|rfl:=this;rw[jC];intro ρ k;have J:(#[ZN h x,.chan (xk c)]++Array.replicate (71- (#[ZN h x,.chan (xk c)]:Array Value).size) undef).map (Zt ρ)=#[ZN h x,.chan (xk c)]++Array.replicate (71- (#[ZN h x,.chan (xk c)]:Array Value).size) undef:=by
    rw[ZfS,SM n ρ k];simp[Sl]
   simp_all[Zw,Frame.at,Yy,Wf,bD,base];exactλρ _=>z ρ)
  (λb o ho y=>by
   obtain y|y:=y;exact y.elim;exact N b o ho y)
  (Post:=λwl=>Dq c bD [bornF])
  (λt=>by
   rw[jC];exact Z6U bD [bornF] (X.mask w t) h hh x c K (λb l=>by grind [Cx.mask,TQ,Nat.lt_of_lt_of_le])
    (λj hj=>MK (X:=X) (λb h=>h) (λb c e fr B hc=>B) Z (hr j hj) (yi _)) a0)
 have hw:Play Try.prog xh c K _ ((Wm h x 4 0).map .send) (λ_=>False) (G (Frame.enter Try.prog 42 #[ZN h x,.chan (xk c)] .deferred) ([bornF]++[])) w:=Q▸hw;refine hw.mono λO g w' ⟨ρ,t,a3,a1,a5,fc,cc,B,hid,⟨S,a,W,M,A⟩,I⟩=> ?_;subst B S W;have D:fc=Zw ρ (bD.at a [.inRegion clOps [1]]):=I.top;have F:cc=[bornF].map (Zw ρ)++[]:=I.under;have J:fc=bD.at {tmps:=a.tmps.map (Zt ρ),defers:=[]} [.inRegion clOps [1]]:=by
  rw[D];simp[Zw,Frame.at,A,Wf,Yy,bD,base]
 have L:cc=[bornF]:=by rw[F];simp[z]
 rw[J,L];have u:(a.tmps.map (Zt ρ))[70]?=xk (.chan (xk c)):=by
  rw[Zer,M];simp[Zt,hid c hc]
 refine⟨rfl,?_,_,4,λs r tm R=>Z0E rfl (by simp[bD]) u R,Z6V rfl rfl⟩;rfl
end
inductive NoZ:V->Prop where
 |int (k:Zm) (n:Int):NoZ (.int k n)
 |bool (b:Bool):NoZ (.bool b)
 |sl (l:Zr):(∀y∈l,y.cells≠[])->(∀c∈flat l,NoZ c)->NoZ (.sl l)
 |agg (l:Zr):(∀c∈l,NoZ c)->NoZ (.agg l)
 |tup (l:Zr):(∀c∈l,NoZ c)->NoZ (.tup l)
def NoZ.m{x:V}(h:NoZ x):NoM x:=by
 induction h with
 |int k n=>exact .int k n
 |bool b=>exact .bool b
 |sl l _ _ a=>exact .sl l a
 |agg l _ a=>exact .agg l a
 |tup l _ a=>exact .tup l a
def Z5M{w:Z3}{D:Z5}{x:V}{v:Z7}(h:Rd w D x v)(d:NoZ x):Rd w (λb=>D b/\b<U (R w)) x v:=by
 induction h with
 |int k n=>exact .int k n
 |bool b=>exact .bool b
 |nil a cap A=>exact .nil a cap A
 |sl l b o cap k vs g p z r t C j=>
  cases d with
  |sl _ B d=>
   obtain _|⟨y,l⟩:=l;exact .nil _ cap p;have F:0<k:=by
    rw[<-(r y Z1).1];exact ZfN.2 (B y Z1)
   have q:=ju (t 0 ZcO);exact .sl _ b o cap k vs g p ⟨z,q⟩ r t λi c f=>j i c f (d c (JW f))
 |agg u vs g p _ j=>
  cases d with
  |agg _ d=>exact .agg u vs g p λi c f=>j i c f (d c (ZdW f))
 |tup l vs g _ j=>
  cases d with
  |tup _ d=>exact .tup l vs g λi c f=>j i c f (d c (ZdW f))
 |_=>cases d
def Z5O{w:Z3}{D:Z5}{x:V}{v:Z7}(h:Rd w D x v)(d:NoZ x):Rd w (λb=>D b/\∃q e r,w.heap[b]?=xk (.cells q e r)) x v:=by
 induction h with
 |int k n=>exact .int k n
 |bool b=>exact .bool b
 |nil a cap B=>exact .nil a cap B
 |sl l b o cap k vs g p z t u F j=>
  cases d with
  |sl _ C d=>
   obtain _|⟨y,l⟩:=l;exact .nil _ cap p;have G:0<k:=by
    rw[<-(t y Z1).1];exact ZfN.2 (C y Z1)
   obtain⟨_,c,e,r,A,_⟩:=JH (u 0 ZcO);exact .sl _ b o cap k vs g p ⟨z,c,e,r,A⟩ t u λi c f=>j i c f (d c (JW f))
 |agg q vs g p _ j=>
  cases d with
  |agg _ d=>exact .agg q vs g p λi c f=>j i c f (d c (ZdW f))
 |tup l vs g _ j=>
  cases d with
  |tup _ d=>exact .tup l vs g λi c f=>j i c f (d c (ZdW f))
 |_=>cases d
def I0(l:Zc):NoZ (.sl (l.map vu)):=.sl _ (λy f=>by obtain⟨z,_,rfl⟩:=Ze4.1 f;simp) λc a=>by
 rw[U6 λx d=>ZdC]at a;obtain⟨y,_,rfl⟩:=Ze4.1 a;exact .int _ _
def HZ(l:Zc):NoZ (.sl (l.map vi)):=.sl _ (λy f=>by obtain⟨z,_,rfl⟩:=Ze4.1 f;simp) λc a=>by
 rw[U6 λx d=>ZdC]at a;obtain⟨y,_,rfl⟩:=Ze4.1 a;exact .int _ _
def HW(g:Gr):NoZ (Yl g):=.agg _ λc a=>by
 have:c=.sl (g.nodes.map Yj)\/c=.sl (g.roots.map vi):=by simpa using a
 obtain rfl|rfl:=this;refine .sl _ (λy d=>by obtain⟨z,_,rfl⟩:=Ze4.1 d;simp) λc a=> ?_;obtain⟨y,d,a⟩:=ZfT.1 a;obtain⟨n,_,rfl⟩:=Ze4.1 d;have:c=.sl (n.ptrs.map vi)\/c=.sl (n.data.map vu):=by simpa using a
 obtain rfl|rfl:=this;exact HZ _;exact I0 _;exact HZ _
def HU(g:Gr):NoZ (V8 g):=by
 unfold V8;split;all_goals
  refine .tup _ λc a=> ?_;simp only[Zec,Zfk,ZgT]at a;obtain rfl|rfl:=a;exact HW _;exact .int _ _
def J0(h:Hp):NoM (ZQ h):=.agg _ λc a=>by
 simp only[Zec,Zfk,ZgT]at a;obtain rfl|rfl|rfl|rfl|rfl|rfl|rfl|rfl|rfl|rfl:=a;all_goals first|exact .int _ _|exact .bool _|exact yi _
noncomputable def ops4:Array Oper:=Kz (Yo ofC [1,1,1,0])
def Z4x:(ops4.all λo=>XX Sol.prog xh o.op)=xy:=Z2
def Z6f:YY Sol.prog xh (Yo ofC [1,1,1,1])=xy:=Z2
def Z4l:Sol.prog.funcs[15]?=xk (MN Try.f15):=by
 have:=Try.func15;simp only[Sol.prog,WS,ZgU,this,Ze8];rfl
def Hf{X:Cx}{w:Z3}{t:Nat->Question->Nat}{b:Nat}{cs:Za}{T:Z9}(h:w.heap[b]?=xk (.cells cs T (0,0)))(a:X.O b)(d:b<X.n0):(X.mask w t).heap[b]?=xk (.cells cs T (0,0)):=by
 rw[AT,if_pos d,h];unfold Cx.maskO;dsimp only;rw[if_pos a,if_pos ⟨trivial,λc e g f=>ZcN⟩]
def Z6b{B g k:Nat}{a:Act}{A C:Z9}{K:Z5}{h:Hp}{x:Z8}{l:Z3}
  (z:a.tmps.size=82) (O:a.defers=[]) (R:a.tmps[1]?=xk (.pointer (xk ⟨g,0,xw⟩))) (S:a.tmps[2]?=xk (.pointer (xk ⟨k,0,xw⟩))) (T:a.tmps[3]?=xk (.int .i64 0))
  (n:l.heap[g]?=xk (.cells #[.int .u64 h.base,.int .i64 h.cap,.int .i64 h.to,.bool h.cycle,.int .i64 h.scan,x 0,x 1,x 2,x 3,x 4] A (0,0))) (o:l.heap[k]?=xk (.cells #[.slice xw 0 0,.slice xw 0 0] C (0,0)))
  (L:B<=g) (M:B<=k) (J:g≠k) (k1:¬K g) (Z:¬K k) (D:∀b,K b->b<xz (xj l)) (r:∀j,j<5->Rd l K (.sl ((Zu h j).map vu)) (x j)):
  RelS K [4,23] a.tmps cV B K l 82 [.no,.m [vu h.base,vi h.cap,vi h.to,.bool h.cycle,vi h.scan,.sl (h.low.map vu),.sl (h.high.map vu),.sl (h.old.map vu),.sl (h.far.map vu),.sl (h.roots.map vu)],.m [.sl [],.sl []],.v (vi 0)] a l KV:=by
 have l1:=(ZdV.1 n).1;have l2:=(ZdV.1 o).1;have W:cV.ix 1=1:=ZcQ;have X:cV.ix 2=2:=ZcQ;have Y:cV.ix 3=3:=ZcQ;refine⟨⟨{F:=K,bl:=λt i=>if t=1/\i=0 then xk g else if t=2/\i=0 then xk k else xw,K:=K},⟨⟨Z0,D,λb f=>.inl f,λb f=>f,λt i b f=> ?_,λt i u j b f N=> ?_,D,λt i b f=> ?_,λb f=>.inl f⟩,λt _ Q=> ?_,λt P=> ?_⟩,rfl⟩,λp U=> ?_,.refl _ _,z,O⟩;grind;grind;grind;rw[Yu]at Q⊢;by_cases G:t=1;subst G;refine⟨_,R,g,_,A,rfl,rfl,n,rfl,λi y d=> ?_⟩;have q:i<10:=(ZdQ.1 d).1
 match i,q with
 |0,_=>cases d;exact⟨_,ZdJ,rfl,.int _ _⟩
 |1,_=>cases d;exact⟨_,ZdJ,rfl,.int _ _⟩
 |2,_=>cases d;exact⟨_,ZdJ,rfl,.int _ _⟩
 |3,_=>cases d;exact⟨_,ZdJ,rfl,.bool _⟩
 |4,_=>cases d;exact⟨_,ZdJ,rfl,.int _ _⟩
 |5,_=>cases d;exact⟨_,ZdJ,rfl,r 0 Z0⟩
 |6,_=>cases d;exact⟨_,ZdJ,rfl,r 1 Z0⟩
 |7,_=>cases d;exact⟨_,ZdJ,rfl,r 2 Z0⟩
 |8,_=>cases d;exact⟨_,ZdJ,rfl,r 3 Z0⟩
 |9,_=>cases d;exact⟨_,ZdJ,rfl,r 4 Z0⟩
 |i+10,h=>omega
 by_cases H:t=2;subst H;refine⟨_,S,k,_,C,rfl,rfl,o,rfl,λi y d=> ?_⟩;have w:i<2:=(ZdQ.1 d).1
 match i,w with
 |0,_=>cases d;exact⟨_,ZdJ,rfl,.nil _ _ (ZeJ _)⟩
 |1,_=>cases d;exact⟨_,ZdJ,rfl,.nil _ _ (ZeJ _)⟩
 |i+2,h=>omega
 by_cases I:t=3;subst I;exact⟨_,T,_,ZdJ,.int _ _⟩;simp_all[KV,SS.at,ZfF,TK.isNo];refine absurd ?_ P;rw[Yu];split<;>exact VL _;grind [KV,SS.at]
def P3(cs:Z6)(r:V)(D:Z5)(g:Zk)(w:Z3):Prop:=
 ∃a,g=G a cs/\a.fn=15/\a.mode=.returning/\a.defers=[]/\a.kind=.normal/\∀d,∃v,(results Try.f15 a.tmps).run Try.prog (w.at d)=.ok v (w.at d)/\Rd (w.at d) (λb=>D b/\b<U (R w)) r v
def Z3q{c n0 B C D:Nat}{a:Act}{T1 T2:Z9}{K:Z5}{h:Hp}{x:Z8}{w:Z3}{cs:Z6}{fs:List (Fo×Value)}{fin:Vw}(hh:h.ok)
  (d8:a.tmps.size=82) (hd:a.defers=[]) (t1:a.tmps[1]?=xk (.pointer (xk ⟨C,0,xw⟩))) (t2:a.tmps[2]?=xk (.pointer (xk ⟨D,0,xw⟩))) (t3:a.tmps[3]?=xk (.int .i64 0)) (t4:a.tmps[4]?=xk (.chan (xk c)))
  (N:w.heap[C]?=xk (.cells #[.int .u64 h.base,.int .i64 h.cap,.int .i64 h.to,.bool h.cycle,.int .i64 h.scan,x 0,x 1,x 2,x 3,x 4] T1 (0,0))) (R:w.heap[D]?=xk (.cells #[.slice xw 0 0,.slice xw 0 0] T2 (0,0)))
  (e4:B<=xz (xj w)) (c1:B<=C) (c5:B<=D) (b9:C≠D) (k1:¬K C) (k2:¬K D) (b0:xz (xj w)<=n0) (hc:c<n0)
  (hK:∀b,K b->∃cs e fr,w.heap[b]?=xk (.cells cs e fr)) (a0:∀(b:Nat) (cs:Za) (e:Z9) (fr:Nat×Nat),w.heap[b]?=xk (Obj.cells cs e fr)->Jw n0 (Obj.cells cs e fr)) (d5:∀v∈a.tmps,FixV n0 v) (hx:∀j,j<5->FixV n0 (x j))
  (hr:∀j,j<5->Rd w K (.sl ((Zu h j).map vu)) (x j)) (a3:∀y∈fs,Rd w K (Xo y.1) y.2/\NoM (Xo y.1)) (d0:fs.map (·.2)=Wm h x 4 0) (hn:P fs<=4000000) (a9:(fs.map (·.1)).foldl Vw.put ⟨[],[],[]⟩=fin) (hs:fin.sm h.roots):
  Play Try.prog xy c K (λ_=>P3 cs (V8 (fin.gr h.roots)) (λb=>K b\/B<=b)) ((Wm h x 4 0).map .recv++[.closed zF]) (λb=>b=C\/b=D) (G ((base 15).at a [.inRegion ops4 [],.code (Yo ofC [1,1,1,1])]) cs) w:=by
 have e5:∀b,K b->b<xz (xj w):=λb H=>ZcN;have l1:=(ZdV.1 N).1;have l2:=(ZdV.1 R).1;let X:Cx:=TQ Try.prog Sol.prog n0 K (λb=>b=C\/b=D);have M:∀ρ,(X.at ρ).P=Try.prog:=λρ=>Sol.sub.same.symm;have e7:∀t,xz (xj (X.mask w t))=n0:=λt=>by simp[Cx.mask,X,TQ]
 have c8:(Wm h x 4 0).map Ev.recv=fs.map λy=>.recv y.2:=by rw[<-d0,ZfY];rfl
 have a6:∀b,(b=C\/b=D)->¬K b:=λb H=>ZcN;have hw:=Dh X (Sol.sub.ok n0 K (λb=>b=C\/b=D)) (c:=c) (es:=(Wm h x 4 0).map .recv++[.closed zF]) (fr:=(base 15).at a [.inRegion ops4 [],.code (Yo ofC [1,1,1,1])]) (cs:=[]) (ds:=cs) (main:=xy) (wc:=w)
  (λe I=>by
   obtain I|I:=Zel.1 I;obtain⟨v,hv,rfl⟩:=Ze4.1 I;obtain⟨q,o,hq,rfl⟩:=A5 hv;exact⟨Fj (hx q Z0) o,hc⟩;have:e=.closed zF:=by simpa using I
   subst this;exact⟨λρ _=>by simp_all[zF,Wz,Zt],hc⟩)
  (λρ=>by
   refine⟨⟨λi p=> ?_,λd a2=> ?_,.inl rfl,.inr (.inr ⟨_,_,Z4l,Try.func15,rfl⟩)⟩,λf hf=>by simp at hf,rfl⟩;have:i=.inRegion ops4 []\/i=.code (Yo ofC [1,1,1,1]):=by simpa[Frame.at]using p
   obtain rfl|rfl:=this;exact Z4x;exact Z6f;rw[show((base 15).at a [.inRegion ops4 [],.code (Yo ofC [1,1,1,1])]).defers=a.defers from rfl,hd]at a2;simp at a2)
  (λf hf=>by
   have:f=(base 15).at a [.inRegion ops4 [],.code (Yo ofC [1,1,1,1])]:=by simpa using hf
   subst this;intro ρ hρ;simp only[Zw,Frame.at,SM d5 ρ hρ,hd];rfl)
  (λb o J hO=>by
   obtain hO|hO:=hO;obtain rfl|rfl:=hO;rw[N]at J;cases J;exact a0 _ _ _ _ N;rw[R]at J;cases J;exact a0 _ _ _ _ R;obtain⟨cs,e,fr,I⟩:=hK b hO;rw[J]at I;cases I;exact a0 _ _ _ _ J)
  (Post:=λwl=>Dr (base 15) (λA b=>K b\/(B<=b/\b<xz (xj A))) (V8 (fin.gr h.roots)))
  (λt=>by
   rw[c8];have b3:∀ {y:V} {v:Z7},Rd w K y v->NoM y->Rd (X.mask w t) K y v:=λ{y v} h1 h2=>by
    clear a3;induction h1 with
    |int k n=>exact .int k n
    |bool b=>exact .bool b
    |str s=>exact .str s
    |nil a cap h=>exact .nil a cap h
    |sl l b o cap k vs W q2 H hf a1 _ U=>
     cases h2 with
     |sl _ S=>exact .sl l b o cap k vs W q2 H hf (λi p=>zV (λJ=>a6 b J H) (λc e fr _=>H) b0 (a1 i p)) λi c p=>U i c p (S c (JW p))
    |agg cs vs W q2 _ U=>
     cases h2 with
     |agg _ S=>exact .agg cs vs W q2 λi c p=>U i c p (S c (ZdW p))
    |tup l vs W _ U=>
     cases h2 with
     |tup _ S=>exact .tup l vs W λi c p=>U i c p (S c (ZdW p))
    |ptr cs b o vs H W a1 _ U=>
     cases h2 with
     |ptr _ S=>exact .ptr cs b o vs H W (λi p=>zV (λJ=>a6 b J H) (λc e fr _=>H) b0 (a1 i p)) λi c p=>U i c p (S c (ZdW p))
    |fn f=>exact .fn f
    |clo f cs vs W _ U=>
     cases h2 with
     |clo _ _ S=>exact .clo f cs vs W λi c p=>U i c p (S c (ZdW p))
    |nul0=>exact .nul0
    |nul1=>exact .nul1
    |nomp=>cases h2
    |mp=>cases h2
   refine LS.regEnd (Z4m (G:=K) (B:=B) (Z6b d8 hd t1 t2 t3 (Hf N (.inl rfl) (by show C<n0;omega)) (Hf R (.inr rfl) (by show D<n0;omega)) c1 c5 b9 k1 k2 (λb H=>ZcN) λj hj=>b3 (hr j hj) (yi _)) t4 rfl (λy hy=>b3 (a3 y hy).1 (a3 y hy).2) hn a9 hs))
 have hw:Play Try.prog xy c K _ ((Wm h x 4 0).map .recv++[.closed zF]) (λb=>b=C\/b=D) (G ((base 15).at a [.inRegion ops4 [],.code (Yo ofC [1,1,1,1])]) ([]++cs)) w:=(M id)▸hw;refine hw.mono λO g A ⟨ρ,t,e3,e1,Y,fc,cc,hg,hid,⟨c7,L,b7,d6,a2,v,hv,d9⟩,T⟩=> ?_;subst hg c7 d6;have u:fc=Zw ρ {(base 15).at L b7 with mode:=.returning}:=T.top;have b4:cc=cs:=T.under;subst b4;refine⟨fc,rfl,by rw[u];rfl,by rw[u];rfl,by rw[u];show L.defers.map _=_;grind,by rw[u];rfl,λd=> ?_⟩;have b5:(X.at ρ).WR Y (A.at d):=DJ T.wr d;have a4:=H9 Try.f15 (L.tmps.map (Zt ρ));have a5:Yd ((results Try.f15 (L.tmps.map (Zt ρ))).run Try.prog (A.at d))=A.at d:=a4.world _;have F:=(Ao (X:=X.at ρ) (V:=[]) Try.f15 L.tmps).run Y (A.at d) #[] b5 (λr hr=>by simp at hr)
  (λj hj=>by
   rw[M ρ]at hj;have e:(Yd ((results Try.f15 (L.tmps.map (Zt (X.at ρ).ρ))).run Try.prog (A.at d))).drawn=(A.at d).drawn:=ZeY World.drawn a5;omega)
  (λj hj=>by
   rw[M ρ]at hj;have e:xz (xj (Yd ((results Try.f15 (L.tmps.map (Zt (X.at ρ).ρ))).run Try.prog (A.at d))))=xz (xj (A.at d)):=ZeY (λw=>xz (xj w)) a5;omega)
 have c0:(results Try.f15 L.tmps).run (X.at ρ).Q Y=.ok v Y:=hv;rw[c0,M ρ]at F;obtain⟨b,b8,e2,I,c6,e6⟩:=F;have Z:(results Try.f15 (L.tmps.map (Zt ρ))).run Try.prog (A.at d)=.ok b b8:=by
  have:=ZeY Prod.fst I;rw[ZfW]at this;exact this
 have e0:b8=A.at d:=by
  have:=a5;rw[Z]at this;exact this
 subst e0;have a7:b=Zt ρ v:=c6;refine⟨b,by rw[u];exact Z,?_⟩;rw[a7];refine(Z5M (MJ b5 d9 (HU _).m) (HU _)).mono λb' a8=> ?_;obtain⟨⟨z,hz,rfl⟩,d7⟩:=a8;refine⟨?_,d7⟩;by_cases b6:z<n0;have e:(X.at ρ).ρ z=z:=hid z b6;grind;obtain hz|hz:=hz;grind;right;have:=T.new z (Nat.le_of_not_lt b6) hz.2;omega
def Ya(h:Hp)(p:Nat)(o:Ob):Fo:=⟨o,(Y4 (Zv h) ((p:Int)+1) o.at_).1,((Zu h p).drop (o.at_+1).toNat).take o.size.toNat⟩
def Xf(h:Hp):Nat->Nat->List Fo
 |0,_=>[]
 |n+1,p=>(obP h p).map (Ya h p)++Xf h n (p+1)
def Ti(h:Hp)(x:Z8):Nat->Nat->List (Fo×Value)
 |0,_=>[]
 |n+1,p=>(obP h p).map (λo=>(Ya h p o,Uo h x p o))++Ti h x n (p+1)
def A4(h:Hp)(x:Z8):∀(n p:Nat),(Ti h x n p).map (·.1)=Xf h n p
 |0,p=>rfl
 |n+1,p=>by simp_all[Ti,Xf,Zfe,ZfY,A4]
def FH(h:Hp)(x:Z8):∀(n p:Nat),(Ti h x n p).map (·.2)=Wm h x n p
 |0,p=>rfl
 |n+1,p=>by simp_all[Ti,Wm,Zfe,ZfY,FH]
def FG{h:Hp}{x:Z8}{y:Fo×Value}:∀ {n p:Nat},y∈Ti h x n p->∃q o,q<p+n/\o∈obP h q/\y=(Ya h q o,Uo h x q o)
 |0,p,a=>by simp[Ti]at a
 |n+1,p,a=>by
  simp only[Ti,Zel,Ze4]at a;obtain⟨o,f,rfl⟩|a:=a;exact⟨p,o,Z0,f,rfl⟩;obtain⟨q,o,g,d⟩:=FG a;exact⟨q,o,Z0,d⟩
def Y6(h:Hp):Vw:=(Xf h 4 0).foldl Vw.put ⟨[],[],[]⟩
def J3(h:Hp):V:=if YS h=xy then V8 ((Y6 h).gr h.roots)else .tup [Yl S9,vi 1]
structure OfOk (h:Hp):Prop where
 ob:∀p,p<4->P (obP h p)<=1000000/\∀o∈obP h p,0<=o.at_/\0<=o.size/\o.at_+1+o.size<=P (Zu h p)
 n:P (Xf h 4 0)<=4000000
 sm:(Y6 h).sm h.roots
def Z5P{w:Z3}{K:Z5}{l:Zc}{v:Z7}(h:Rd w K (.sl (l.map vu)) v){d n:Nat}(p:0<P l)(J:d+n<=P l):Rd w K (.sl (((l.drop d).take n).map vu)) (Rb v d n):=by
 generalize j:l.map vu=L at h;have q:P L=P l:=by rw[<-j,Zem]
 cases h with
 |nil a cap I=>simp_all
 |sl _ b o cap k vs D F r t H u=>
  have z:k=1:=by
   have B:vu (l[0]'p)∈L:=by rw[<-j];exact ZfO (Ze5 p)
   have:=(t _ B).1;simpa[vu,V.cells]using this.symm
  subst z;unfold Rb;dsimp only;have A:P (((l.drop d).take n).map vu)=n:=ZcP;by_cases C:n=0;subst C;simp only[Zia,Zf9];exact .nil _ _ Z0;rw[if_neg Z0];have:=Rd.sl (w:=w) (G:=K) (((l.drop d).take n).map vu) b (o+d) (cap-d) 1 (λi=>vs (d+i)) Z0 Z0 r (λx g=>ZcN)
   (λi f=>ZcN)
   (λi c f=>by
    rw[U6 λx g=>by obtain⟨y,_,rfl⟩:=Ze4.1 g;rfl,Zed,Zev]at f;split at f;rw[Zep]at f;exact u (d+i) c (by rw[<-j,U6 λx g=>by obtain⟨y,_,rfl⟩:=Ze4.1 g;rfl,Zed];exact f);cases f)
  simp_all
def Z3Z(f:Fo):NoM (Xo f):=.agg _ λc a=>by
 simp only[Zec,Zfk,ZgT]at a;obtain rfl|rfl|rfl|rfl|rfl|rfl|rfl:=a;all_goals first|exact .int _ _|exact .bool _|exact yi _
def Z1o{w:Z3}{K:Z5}{h:Hp}{x:Z8}(d:OfOk h)(g:∀j,j<5->Rd w K (.sl ((Zu h j).map vu)) (x j)):∀y∈Ti h x 4 0,Rd w K (Xo y.1) y.2/\NoM (Xo y.1):=by
 intro y k;obtain⟨q,o,r,f,rfl⟩:=FG k;refine⟨?_,Z3Z _⟩;obtain⟨l,n,p⟩:=(d.ob q Z0).2 o f;refine .agg _ _ rfl Z1 λi c a=> ?_
 match i,a with
 |0,a=>cases a;exact .int _ _
 |1,a=>cases a;exact .int _ _
 |2,a=>cases a;exact .int _ _
 |3,a=>cases a;exact .bool _
 |4,a=>cases a;exact .int _ _
 |5,a=>cases a;exact .int _ _
 |6,a=>cases a;exact Z5P (g q Z0) Z0 Z0
noncomputable def cB:Ctx:= {P:=YK Try.prog,ix:=(vf (YK Try.prog)).ix,own:=λ_=>xh,fresh,sig:=CH,tr:=[3],n:=82}
def Ez{P:Z4}:∀ {c:Code},Tc P c=xy->TN (Lg.fit (YK P)) c:=by
 intro c;induction c with
 |region id j d=>exactλh o g=>(ZfU.1 h) o g
 |seq x y a f=>intro h;simp only[Tc,ZdS]at h;exact⟨a h.1,f h.2⟩
 |cond c x y a f=>intro h;simp only[Tc,ZdS]at h;exact⟨a h.1,f h.2⟩
 |block id x a=>exact a
 |loop x a=>exact a
 |scope x a=>exact a
 |_=>intro h;first|trivial|cases h
def Fy:(YK Try.prog).follows .mixedOrders=xy:=Z2
def I4{code:Code}{S:SS}{st:Stm}{fl:Flow}{B:Nat}{G Kf:Z5}{s:St}{a:Act}{w w0:Z3}{T0:Za}{N:St->Prop}{X:Nat->St->Prop}{Rt:St->Prop}(f:Tc Try.prog code=xy)(hc:comp (vf (YK Try.prog)) code S=xk (st,fl))(j:RelS Kf [4,23] T0 cB B G w0 82 s a w S)(k:Yr (YK Try.prog) st s N X Rt):
  UY Try.prog code (Post Kf [4,23] T0 cB B G w0 82 fl N X Rt) a w:=
 letI:Lg (vf (YK Try.prog)).P:=besI Try.prog
 jy (fc:=vf (YK Try.prog)) Fy (λp g q h d=>C4 (Zfh _ g) (Zfh _ h) d) rfl rfl rfl (ZdU _) code (Ez f) hc j k
def Z4h:Try.f15.body=xk ofC:=Z2
def Z4i:ofC=.seq (Yo ofC [0]) (.seq (Yo ofC [1,0]) (.seq (Yo ofC [1,1,0]) (.seq (Yo ofC [1,1,1,0]) (Yo ofC [1,1,1,1])))):=Z2
noncomputable def ops3:Array Oper:=Kz (Yo ofC [1,1,0])
def Z5C:Yo ofC [1,1,0]=.region 3 ops3 xh:=Z2
def Z5D:Yo ofC [1,1,1,0]=.region 4 ops4 xh:=Z2
def Z4s:∃o,ops3[0]?=xk o/\o.guard=xw/\o.dst=xk 18/\o.op=.makeChan 81 (.const (.int .i64 0)):=⟨_,rfl,rfl,rfl,rfl⟩
def Z4t:∃o,ops3[1]?=xk o/\o.guard=xw/\o.dst=xk 4/\o.op=.assign (.tmp 18):=⟨_,rfl,rfl,rfl,rfl⟩
def Z4u:∃o,ops4[0]?=xk o/\o.guard=xw/\o.dst=xk 19/\o.op=.load 37 (.tmp 1):=⟨_,rfl,rfl,rfl,rfl⟩
def Z4v:∃o,ops4[1]?=xk o/\o.guard=xw/\o.dst=xk 20/\o.op=.move (.tmp 4):=⟨_,rfl,rfl,rfl,rfl⟩
def Z4w:∃o a,ops4[2]?=xk o/\o.guard=xw/\o.dst=xw/\o.op=.go ⟨.value (.func 42), #[.tmp 19,.tmp 20],a⟩:=⟨_,_,rfl,rfl,rfl,rfl⟩
def Ie:ops3.size=2/\ops4.size=3:=⟨rfl,rfl⟩
def Z0A:∃d inf,Try.prog.underlying 81=xk (.chan d 87)/\Try.prog.info? 87=xk inf:=⟨_,_,rfl,rfl⟩
def PI{B:Nat}{w w':Z3}(h:Below B w w')(d:Nat):Below B w (w'.at d):=⟨h.os,h.tape,h.output,h.size,h.block⟩
def Z1w{b:Zg}{k:Zj}{cs:Z6}{a:Act}{g:Z7}{c:Nat}(l:b.kind≠.early)(d:a.tmps[19]?=xk g)(f:a.tmps[20]?=xk (.chan (xk c)))(w:Z3):
  stepG Try.prog xy (G (b.at a (.inRegion ops4 [2]::k)) cs) w=.spawn (G (b.at a (.inRegion ops4 []::k)) cs) (born Try.prog {target:=.fn (.func 42) #[],args:=#[g,.chan (xk c)]}) w #[]:=by
 obtain⟨o,j,n,p,q,r⟩:=Z4w;have t:=Act.eval_tmp a 19 _ d;have u:=Act.eval_tmp a 20 _ f;have h:execOp a.eval o=(pure (.spawn {target:=.fn (.func 42) #[],args:=#[g,.chan (xk c)]}):Sem Next):=by
  unfold execOp;simp only[r];simp[resolve,Deferred.ofValue,Act.eval,d,f]
 have:=stepG_spawn (P:=Try.prog) (main:=xy) (b:=b) (a:=a) (k:=k) (cs:=cs) (w:=w) (i:=2) (rest:=[]) n (by simp[Region.wanted,p]) l (by rw[h];rfl) rfl;rw[q]at this;rw[this];unfold listed;rw[h];rfl
def Z4k{h:Hp}{B:Nat}{G:Z5}{s:St}{a:Act}{w w0:Z3}{T0:Za}(Q:RelS G [4,23] T0 cB B G w0 82 s a w MF)(q1:get s 1=.m [vu h.base,vi h.cap,vi h.to,.bool h.cycle,vi h.scan,.sl (h.low.map vu),.sl (h.high.map vu),.sl (h.old.map vu),.sl (h.far.map vu),.sl (h.roots.map vu)])(q3:get s 3=.v (vi 0)):
  ∃(F:Z5) (k l:Nat) (r t:Z9) (x:Z8),(∀b,F b->G b\/B<=b)/\¬F k/\¬F l/\B<=k/\B<=l/\k≠l/\B<=xz (xj w)/\a.tmps[1]?=xk (.pointer (xk ⟨k,0,xw⟩))/\a.tmps[2]?=xk (.pointer (xk ⟨l,0,xw⟩))/\a.tmps[3]?=xk (.int .i64 0)/\
   w.heap[k]?=xk (.cells #[.int .u64 h.base,.int .i64 h.cap,.int .i64 h.to,.bool h.cycle,.int .i64 h.scan,x 0,x 1,x 2,x 3,x 4] r (0,0))/\w.heap[l]?=xk (.cells #[.slice xw 0 0,.slice xw 0 0] t (0,0))/\
   (∀j,j<5->Rd w F (.sl ((Zu h j).map vu)) (x j)):=by
 obtain⟨⟨u,k1,k2⟩,k3,k4,k5,k6⟩:=Q;have T:cB.ix 1=1:=ZcQ;have U:cB.ix 3=3:=ZcQ;obtain⟨u1,t1,k,d,r,N,rfl,f3,I⟩:=k1.at_ 1 (by rw[Yu];exact VL _) ZdJ;obtain⟨u2,t2,l,f,t,g1,rfl,g3,J⟩:=k1.at_ 2 (by rw[Yu];exact VL _) ZdJ;obtain⟨u3,t3,A⟩:=k1.at_ 3 (by rw[Yu];exact VL _) ZdJ;obtain⟨y3,o,C⟩:∃y,eval s (.s (cB.ix 3))=xk y/\Rd w (u.ext []) y u3:=A;rw[U]at o;simp only[eval,q3,ZdP]at o;subst o;have K:=Sh C;subst K;have R:d.size=10:=I.1;have S:f.size=2:=J.1;have g:∀(i:Nat) (y:V),[vu h.base,vi h.cap,vi h.to,.bool h.cycle,vi h.scan,.sl (h.low.map vu),.sl (h.high.map vu),.sl (h.old.map vu),.sl (h.far.map vu),.sl (h.roots.map vu)][i]?=xk y->Rd w u.F y (d.getD i undef):=λi y n=>by
  have p:i<10:=(ZdQ.1 n).1;have:=I.2 i (.fz,.m (cB.ix 1) i) (by
   match i,p with
   |0,_=>rfl
   |1,_=>rfl
   |2,_=>rfl
   |3,_=>rfl
   |4,_=>rfl
   |5,_=>rfl
   |6,_=>rfl
   |7,_=>rfl
   |8,_=>rfl
   |9,_=>rfl
   |i+10,h=>omega)
  obtain⟨z,H,z2,z3⟩:=this;rw[T]at H;simp only[eval,q1,n,Ze0]at H;obtain⟨rfl,_⟩:=Sd H;exact z3
 have P:∀i,i<2->f.getD i undef=.slice xw 0 0:=λi n=>by
  have:=J.2 i (.nil,.m (cB.ix 2) i) (by
   grind)
  exact this.1
 have L:d=#[.int .u64 h.base,.int .i64 h.cap,.int .i64 h.to,.bool h.cycle,.int .i64 h.scan,d.getD 5 undef,d.getD 6 undef,d.getD 7 undef,d.getD 8 undef,d.getD 9 undef]:=by
  refine ZgB Z0 λi q D=> ?_;have n:i<10:=by simpa using D
  have e:d[i]=d.getD i undef:=by simp[Array.getD,q]
  rw[e]
  match i,n with
  |0,_=>exact Sh (g 0 _ rfl)
  |1,_=>exact Sh (g 1 _ rfl)
  |2,_=>exact Sh (g 2 _ rfl)
  |3,_=>exact MI (g 3 _ rfl)
  |4,_=>exact Sh (g 4 _ rfl)
  |5,_=>rfl
  |6,_=>rfl
  |7,_=>rfl
  |8,_=>rfl
  |9,_=>rfl
  |i+10,h=>omega
 have M:f=#[.slice xw 0 0,.slice xw 0 0]:=by
  refine ZgB Z0 λi q D=> ?_;have n:i<2:=by simpa using D
  have e:f[i]=f.getD i undef:=by simp[Array.getD,q]
  rw[e,P i n]
  match i,n with
  |0,_=>rfl
  |1,_=>rfl
  |i+2,h=>omega
 obtain⟨W,m2,X⟩:=k1.ok.b_lt 1 0 k N;obtain⟨Y,n2,Z⟩:=k1.ok.b_lt 2 0 l g1;refine⟨u.F,k,l,r,t,λj=>d.getD (5+j) undef,k1.ok.f_or,X,Z,W,Y,λe=> ?_,k1.ok.base,t1,t2,t3,ZcN,ZcN,λj O=> ?_⟩;grind
 match j,O with
 |0,_=>exact g 5 _ rfl
 |1,_=>exact g 6 _ rfl
 |2,_=>exact g 7 _ rfl
 |3,_=>exact g 8 _ rfl
 |4,_=>exact g 9 _ rfl
 |j+5,h=>omega
def DA{h:Hp}(hh:h.ok)(hk:YS h=xy->OfOk h):VC (YK Try.prog) 15 xh [ZQ h] (J3 h):=by
 refine⟨Z2,λw G vs hG g6 f9 q C hK=> ?_⟩;have S:VC (YK Try.prog) 25 xh [ZQ h] (.bool (YS h)):=GV Sol.sub (Lr hh) (λy hy=>by rw[ZeS.1 hy];exact J0 h) (.bool _);have d0:vs.size=1:=g6;have g8:Rd w G (ZQ h) (vs.getD 0 undef):=f9 0 _ rfl;have U:Frame.enter Try.prog 15 vs .normal=(base 15).at {tmps:=vs++Array.replicate (82-vs.size) undef,defers:=[]} [.code ofC]:=by
  rw[enter_at vs Try.func15 Z4h,Try.ntmps15]
 show Walk Try.prog C (Frame.enter Try.prog 15 vs .normal) q w;rw[U,Z4i];clear U;have i0:cB.ix 0=0:=ZcQ;generalize Y:({tmps:=vs++Array.replicate (82-vs.size) undef,defers:=[]}:Act)=a0;have t0:a0.tmps[0]?=xk (vs.getD 0 undef):=by
  rw[<-Y];simp only;rw[ZfQ Z0];simp[ZdT,d0]
 have f8:RelS G [4,23] a0.tmps cB (xz (xj w)) G w 82 [.v (ZQ h)] a0 w yU:=by
  refine⟨⟨{F:=G,bl:=λ_ _=>xw,K:=G},⟨⟨ZdU _,hG,λb a=>.inl a,λb a=>a,λt i b a=>(by cases a),λt i u j b a=>(by cases a),hG,λt i b a=>(by cases a),λb a=>.inl a⟩,λt _ hk=> ?_,λt hh=> ?_⟩,rfl⟩,λp B=> ?_,.refl _ _,by rw[<-Y];simp[d0],by rw[<-Y]⟩;rw[Yu]at hk⊢;by_cases e:t=0;subst e;exact⟨_,t0,ZQ h,by rw[i0];rfl,g8.mono λb a=>.inl a⟩;simp[yU,SS.at,ZfF e,TK.isNo]at hk;refine absurd ?_ hh;rw[Yu];split<;>exact VL _;simp only[yU,SS.at]at B;split at B<;>cases B
 refine .two (I4 Z2 r0c f8 (N:=λW=>get W 1=.m [vu h.base,vi h.cap,vi h.to,.bool h.cycle,vi h.scan,.sl (h.low.map vu),.sl (h.high.map vu),.sl (h.old.map vu),.sl (h.far.map vu),.sl (h.roots.map vu)]/\get W 2=.m [.sl [],.sl []]/\get W 3=.v (vi 0)) (X:=λ_ _=>False) (Rt:=λ_=>False) (by simp[r0]) (base 15) _ q C (by simp[base]) λe a1 w1 B=> ?_);cases e with
 |exit id=>obtain⟨_,_,_,h,_⟩:=B;exact h.elim
 |ret=>obtain⟨_,_,_,h,_⟩:=B;exact h.elim
 |normal=>
  obtain⟨s1,S1,f3,⟨q1,q2,q3⟩,c7⟩:=B;cases f3;have b4:Below (xz (xj w)) w w1:=c7.2.2.1.below;refine .two (I4 Z2 rXc c7.base (N:=λW=>YS h=xy/\get W 1=get s1 1/\get W 3=get s1 3) (X:=λ_ _=>False) (Rt:=λW=>YS h=xh/\Wg W [(2,.ag 2),(3,.v)]=xk (.tup [Yl S9,vi 1])) ?_ (base 15) _ q C (by simp[base]) λe a2 w2 B=> ?_);simp[rX,q1];refine Zz S Z1 ?_;cases i1:YS h;simp[X3,Wg,VT,UU,S9,Yl];simp[X3,q1];cases e with
  |exit id=>obtain⟨_,_,_,h,_⟩:=B;exact h.elim
  |ret=>
   obtain⟨s2,S2,I,⟨e1,e2⟩,l⟩:=B;have I:S2=Cd:=by simpa using I
   subst I;have Z:Below (xz (xj w)) w w2:=b4.trans l.2.2.1.below;intro h7;refine hK _ w2 rfl ⟨rfl,l.2.2.2.2,rfl,_,Try.func15,λd=> ?_⟩;obtain⟨⟨h2,k1,k2⟩,k3,k4,k5,k6⟩:=l.sim d;obtain⟨v,hv,a7⟩:=L3 (c:=cB) (f:=Try.f15) (D:=λb=>(xh=xh/\G b)\/(xz (xj w)<=b/\b< xz (xj (w2.at d)))) k1 k3 (λb a=>by
    obtain O|O:=k1.ok.f_or b a;exact .inl ⟨rfl,O⟩;exact .inr ⟨O,k1.ok.f_lt b a⟩) (λr hr=>⟨ZdZ.1 (Z2:(Try.f15.results.toList.all (R1 (YK Try.prog) Cd))=xy) r hr,λi b a=>.inr ⟨(k1.ok.b_lt _ _ b a).1,(k1.ok.b_lt _ _ b a).2.1⟩⟩) (x:=.tup [Yl S9,vi 1]) (by rw[<-e2];exact ZeY (Wg s2) Z2)
   refine⟨v,hv,v,rfl,PI Z d,?_⟩;unfold J3;rw[if_neg (by rw[e1];simp)];exact a7
  |normal=>
   obtain⟨s2,S2,I,⟨e1,e2,e3⟩,l⟩:=B;cases I;have Z:Below (xz (xj w)) w w2:=b4.trans l.2.2.1.below;have R:=hk e1;obtain⟨F,M,b2,T1,T2,x,hF,g9,h0,f1,f2,f0,h8,t1,t2,t3,d6,d7,g3⟩:=Z4k (h:=h) l (e2.trans q1) (e3.trans q3);have d5:a2.tmps.size=82:=l.2.2.2.1;have f5:a2.defers=[]:=l.2.2.2.2;have l1:=(ZdV.1 d6).1;have l2:=(ZdV.1 d7).1;obtain⟨o,o1,o2,o3,o4⟩:=Z4s;obtain⟨o',p1,p2,p3,p4⟩:=Z4t;obtain⟨dir,inf,g7,c0⟩:=Z0A;refine .two ?_;rw[Z5C];refine .region ?_;rw[Ie.1,show List.range 2=[0,1]from rfl];refine Walk.chan (i:=0) o1 (by simp[Region.wanted,o2]) (by simp[base]) o4 g7 c0 ?_;rw[o3];generalize hc:xz (xj w2)=c;obtain⟨w3,J⟩:∃w3,w3=w2.alloc (.chan 0 #[] xh 0 0 xh):=⟨_,rfl⟩;rw[<-J];have b0:((a2.put (xk 18) (.chan (xk c))).eval (.tmp 18))=.chan (xk c):=Act.eval_tmp _ 18 _ (Rr Z0);refine Walk.val (i:=1) (v:=.chan (xk c)) p1 (by simp[Region.wanted,p2]) (by simp[base]) (by rw[p4];rfl) (λw' _=>by unfold execOp;simp only[p4,b0];rfl) (.regEnd ?_);rw[p3];have z3:xz (xj w3)=c+1:=by rw[J,<-hc];simp
   have b5:w3.heap[c]?=xk (.chan 0 #[] xh 0 0 xh):=by rw[J,<-hc];exact Zej ..
   have Q:∀b,b<c->w3.heap[b]?=w2.heap[b]? :=λb a=>by rw[J];exact ZdY _ _ _ Z0
   have A:Below (xz (xj w)) w w3:=by rw[J];exact Z.alloc Z0 _
   have m1:w3.heap[M]?=_:=(Q M Z0).trans d6;have m2:w3.heap[b2]?=_:=(Q b2 Z0).trans d7;obtain⟨o0,d9,e0,e4,a8⟩:=Z4u;obtain⟨o9,e5,e6,e7,a9⟩:=Z4v;refine .two ?_;rw[Z5D];refine .region ?_;rw[Ie.2,show List.range 3=[0,1,2]from rfl];generalize z:(a2.put (xk 18) (.chan (xk c))).put (xk 4) (.chan (xk c))=a3;have g1:a3.tmps[1]?=xk (.pointer (xk ⟨M,0,xw⟩)):=by rw[<-z,WE Z0,WE Z0];exact t1
   have g4:a3.tmps[4]?=xk (.chan (xk c)):=by rw[<-z];exact Rr (by rw[SA];omega)
   have gs:a3.tmps.size=82:=by rw[<-z,SA,SA];exact d5
   have e8:a3.eval (.tmp 1)=.pointer (xk ⟨M,0,xw⟩):=Act.eval_tmp _ 1 _ g1;refine Walk.val (i:=0) (v:=ZN h x) d9 (by simp[Region.wanted,e0]) (by simp[base]) (by rw[a8];rfl) (λw' he=> ?_) ?_;have hl:=qo (P:=Try.prog) (w:=w') (T:=37) Z2 Z2 (b:=M) (o:=0) [.int .u64 h.base,.int .i64 h.cap,.int .i64 h.to,.bool h.cycle,.int .i64 h.scan,x 0,x 1,x 2,x 3,x 4] Z2 (λi u hi=>by
    rw[ZeC,Ze6 w' M i _ T1 (0,0) (by rw[he];exact m1)];simpa using hi)
   unfold execOp;simp only[a8,e8];rw[Zet,hl];rfl;rw[e4];have e9:(a3.put (xk 19) (ZN h x)).eval (.tmp 4)=.chan (xk c):=Act.eval_tmp _ 4 _ (by rw[WE Z0];exact g4);refine Walk.val (i:=1) (v:=.chan (xk c)) e5 (by simp[Region.wanted,e6]) (by simp[base]) (by rw[a9];rfl) (λw' _=>by unfold execOp;simp only[a9,e9];rfl) ?_;rw[e7];generalize k:(a3.put (xk 19) (ZN h x)).put (xk 20) (.chan (xk c))=L;have u1:L.tmps[1]?=xk (.pointer (xk ⟨M,0,xw⟩)):=by rw[<-k,WE Z0,WE Z0];exact g1
   have u4:L.tmps[4]?=xk (.chan (xk c)):=by rw[<-k,WE Z0,WE Z0];exact g4
   have us:L.tmps.size=82:=by rw[<-k,SA,SA];exact gs
   have u2:L.tmps[2]?=xk (.pointer (xk ⟨b2,0,xw⟩)):=by rw[<-k,WE Z0,WE Z0,<-z,WE Z0,WE Z0];exact t2
   have u3:L.tmps[3]?=xk (.int .i64 0):=by rw[<-k,WE Z0,WE Z0,<-z,WE Z0,WE Z0];exact t3
   have h5:L.tmps[19]?=xk (ZN h x):=by rw[<-k,WE Z0];exact Rr Z0
   have h6:L.tmps[20]?=xk (.chan (xk c)):=by rw[<-k];exact Rr (by rw[SA];omega)
   have ud:L.defers=[]:=by rw[<-k,<-z];exact f5
   let K:Nat->Prop:=λb=>F b/\∃q e H,w3.heap[b]?=xk (.cells q e H);have a4:∀j,j<5->Rd w3 K (.sl ((Zu h j).map vu)) (x j):=λj hj=>by
    have O:=Z5O (g3 j hj) (I0 _);refine O.keep (λb a=>Q b ?_) λb a=>⟨a.1,?_⟩;obtain⟨_,q,e,H,a⟩:=a;have:=(ZdV.1 a).1;omega;obtain⟨_,q,e,H,a⟩:=a;exact⟨q,e,H,by rw[Q b (by have:=(ZdV.1 a).1;omega)];exact a⟩
   obtain⟨n0,c5,b9,b8⟩:=Fk w3 (L.tmps++ #[x 0,x 1,x 2,x 3,x 4]);have hx:∀j,j<5->FixV n0 (x j):=λj hj=>by
    refine b9 _ (Zfs.2 (.inr ?_))
    match j,hj with
    |0,_=>simp
    |1,_=>simp
    |2,_=>simp
    |3,_=>simp
    |4,_=>simp
    |j+5,h=>omega
   have b6:c<n0:=Z0;have h3:¬K M:=λh=>g9 h.1;have h4:¬K b2:=λh=>h0 h.1;have b3:∀b,K b->b<xz (xj w3):=λb ⟨_,_,_,_,a⟩=>(ZdV.1 a).1;have d8:¬K c:=λ⟨_,_,_,_,a⟩=>by rw[b5]at a;cases a
   refine Walk.meet (KA:=K) (KB:=K) (OA0:=λb=>b=M\/b=b2) (c:=c) (λw=>Z1w (by simp[base]) h5 h6 w)
    (Z3q (fs:=Ti h x 4 0) (fin:=Y6 h) hh us ud u1 u2 u3 u4 m1 m2 Z0 f1 f2 f0 h3 h4 c5 b6 (λb a=>a.2) (λb q e H a=>b8 b q e H a) (λv hv=>b9 v (Zfs.2 (.inl hv))) hx a4 (Z1o R a4) (FH h x 4 0) (by
     have:=R.n;rw[<-A4 h x 4 0,Zem]at this;exact this) (by rw[A4];rfl) R.sm)
    (Z0B hh c5 b6 (λb a=>a.2) (λb o ho a=>by
     obtain⟨_,q,e,H,he⟩:=a;rw[ho]at he;cases he;exact b8 b q e H ho) hx a4 R.ob) b5 (λb a=>by obtain rfl|rfl:=a<;>omega) b3 b3 (λb a=>by obtain rfl|rfl:=a<;>assumption) (λa=>by obtain a|a:=a<;>omega) d8 d8 ?_
   rintro OA g w' ⟨H,rfl,b7,hm,hd,f7,c8⟩ g5 a6 c6 h9 f6;refine⟨H,q,rfl,hK H w' b7 ⟨hm,hd,f7,_,by rw[b7];exact Try.func15,λd=> ?_⟩⟩;obtain⟨v,hv,a7⟩:=c8 d;refine⟨v,hv,v,rfl,⟨(ZeY Prod.fst c6).trans A.os,a6.trans A.tape,(ZeY Prod.snd c6).trans A.output,Zes A.size g5,λb a=>(f6 b (by have:=A.size;omega) (λf4=>by obtain rfl|rfl:=f4<;>omega) Z0).trans (A.block b a)⟩,?_⟩;unfold J3;rw[if_pos e1];refine a7.mono λb a=> ?_;obtain⟨a,c1⟩:=a;obtain a|a:=a;obtain O|O:=hF b a.1;exact .inl ⟨rfl,O⟩;exact .inr ⟨O,c1⟩;exact .inr ⟨a,c1⟩
  |_=>exact B.elim
 |_=>exact B.elim
#print axioms DA
end Vm
end
section
namespace Vm
open Go Go.Proofs
def U8(l:Zn):List (Int×Int):=(l.filter λo=>o.gone).map λo=>(o.size,o.ptrs)
def Of{ws:Zc}{shs:List (Int×Int)}{old:Bool}:∀(l:Zn) (f a k:Nat) (g:Zn),Tiles ws old a l->xq ws<f+a->0<f->shs.drop k=U8 l->Xu ws shs old f a k g=(g++l,0)
 | [],f,a,k,g,D,K,I,B=>by
   obtain⟨f,rfl⟩:∃C,f=C+1:=⟨f-1,Z0⟩;have:xq ws<=a:=D;have r:xq shs<=k:=List.drop_eq_nil_iff.1 B;rw[Xu,Zf2 this];simp only;rw[if_neg Z0,Zfp]
 |o::l,f,a,k,g,D,K,I,B=>by
  obtain⟨f,rfl⟩:∃C,f=C+1:=⟨f-1,Z0⟩;obtain⟨t,r,J⟩:=D;obtain⟨w,F,j⟩:=r.word;have M:=YM.1 r.shape;have u:=r.fits;have q:=r.slots;rw[t]at F u q;simp only[Zee]at F q;have z:∀d:Nat,shs.drop d=U8 l->Xu ws shs old f (a+1+o.size.toNat) d (g++[o])=(g++o::l,0):=λd p=>by
   rw[Of l f _ d _ J Z0 Z0 p];simp
  have y:∃d,Wc shs old a k w=xk (o,d)/\shs.drop d=U8 l:=by
   unfold Wc;cases n:o.gone;rw[n]at j;simp only[Ze3,Zex]at j;rw[if_neg (λh=>j.1 h.1 h.2),j.2.1];refine⟨k,?_,?_⟩;simp only[ZeA];obtain⟨N,P,op,O,Q⟩:=o;simp only at n t j⊢;rw[n,t,j.2.2];rw[B];simp[U8,n];rw[n]at j;simp only[ZeA]at j;rw[if_pos ⟨j.1,j.2.1⟩];have A:shs.drop k=(o.size,o.ptrs)::U8 l:=by rw[B];simp[U8,n]
   have x:k<xq shs:=by
    have:=ZeY List.length A;simp at this;omega
   rw[ZeN x]at A;have G:=(List.cons.inj A).1;have H:=(List.cons.inj A).2;rw[ZdO x,G];simp only[r.shape,ZeA];refine⟨k+1,?_,H⟩;obtain⟨N,P,op,O,Q⟩:=o;simp only at n t j⊢;rw[n,t,j.2.2]
  obtain⟨d,L,p⟩:=y;rw[Xu,F];simp only;rw[L];simp only;rw[if_neg Z0,if_neg (by rw[q];simp)];exact z d p
def qQ{ws:Zc}{shs:List (Int×Int)}{old:Bool}{l:Zn}(d:Tiles ws old 0 l)(a:shs=U8 l):ZP ws shs old=(l,0):=by
 unfold ZP;rw[Of l (P ws+1) 0 0 [] d Z0 Z0 (by simpa using a),ZeR]
def Qr(h:Hp)(low l:Zn):Prop:=∀o∈l,o.gone=xy->∃q,Yx h 1 low o.target=xk q/\q.size=o.size/\q.ptrs=o.ptrs
def qy{h:Hp}{ws:Zc}{low:Zn}:∀(l:Zn) (f i:Nat) (a:List (Int×Int)),Tiles ws xy i l->P ws<f+i->0<f->Qr h low l->V5 h ws low f i a=xk (a++U8 l)
 | [],f,i,a,u,D,B,r=>by
   obtain⟨f,rfl⟩:∃n,f=n+1:=⟨f-1,Z0⟩;have:P ws<=i:=u;rw[V5,Zf2 this];simp[U8]
 |o::l,f,i,a,u,D,B,r=>by
  obtain⟨f,rfl⟩:∃n,f=n+1:=⟨f-1,Z0⟩;obtain⟨C,p,y⟩:=u;obtain⟨w,x,g⟩:=p.word;have F:=YM.1 p.shape;have j:=p.fits;rw[C]at x j;simp only[Zee]at x;have k:Qr h low l:=λq t=>r q (Zeu _ t);rw[V5,x];simp only;cases d:o.gone;rw[d]at g;simp only[Ze3,Zex,true_implies]at g;rw[if_neg g.1,g.2.1];simp only[ZeA];rw[qy l f _ a y Z0 Z0 k];simp[U8,d];rw[d]at g;simp only[ZeA,true_and]at g;rw[if_pos g.1];obtain⟨q,t,z,A⟩:=r o (.head _) d;rw[<-g.2,t];simp only;rw[z,A,qy l f _ _ y Z0 Z0 k];simp[U8,d]
def Md{h:Hp}{p:Pts}(d:Tiles h.low xh 0 p.low)(h2:Tiles h.high xh 0 p.high)(f:Tiles h.old xy 0 p.old)(g:Tiles h.far xy 0 p.far)(q:Qr h p.low p.old)(r:Qr h p.low p.far):XD h=xk p:=by
 have k:∀ {n:Zc} {a:Nat} {l:Zn},Tiles n xh a l->U8 l=[]:=λ{n a l} x=>by
  unfold U8;rw[List.map_eq_nil_iff,ZhO];intro o u t;obtain⟨w,_,j⟩:=(x.stands o u).1.word;rw[if_pos t]at j;cases j.1
 unfold XD;rw[qQ d (k d).symm,qQ h2 (k h2).symm];unfold Vy;simp only[ne_eq,ZhC,or_self,Zex];rw[qy p.old _ 0 [] f Z0 Z0 q,qy p.far _ 0 [] g Z0 Z0 r];simp only[ZeR,Zei];rw[qQ f rfl,qQ g rfl];simp
def N0{h:Hp}{p:Pts}(a:Tr h=xy)(d:XD h=xk p)(f:Sm h p=xy):YS h=xy:=by
 unfold YS;rw[a,d];simpa using f
def El{h:Hp}{k:Int}{l:Zn}{o:Ob}(a:o∈l)(f:∀q∈l,X1 h k q.at_=X1 h k o.at_->q=o):Yx h k l (X1 h k o.at_)=xk o:=by
 unfold Yx;induction l with
 |nil=>simp at a
 |cons x l j=>
  rw[Zhc];by_cases d:X1 h k x.at_=X1 h k o.at_;rw[f x (.head _) d];simp;have:(X1 h k x.at_==X1 h k o.at_)=xh:=Zd8;rw[this];obtain rfl|a:=Zec.1 a;exact absurd rfl d;exact j a λq g=>f q (Zeu _ g)
def jk{h:Hp}{k:Int}{l:Zn}{a:Int}:(Yx h k l a).isSome=xy↔ ∃o∈l,X1 h k o.at_=a:=by
 unfold Yx;rw[List.find?_isSome];simp
section
structure Tld (h:Hp) (p:Pts):Prop where
 lay:ZI (Zv h)=xy
 tiles:∀k:Int,1<=k/\k<=4->Tiles (Zx h k) (decide (2<k)) 0 (p.at k)
def X5(h:Hp)(p:Pts)(w one a:Int):Prop:=w=0\/∃k o,(k=one\/k=a)/\o∈p.at k/\w=ZT (Zv h) k o.at_
def VD(h:Hp)(p:Pts)(k:Int)(i:Nat)(w:Int):Prop:=if 2<k then X5 h p w 3 4 else if k=1/\h.scan<=i then X5 h p w 1 2\/X5 h p w 3 4 else X5 h p w 1 2
section
variable {h:Hp}{p:Pts}
def Tld.ob(t:Tld h p){k:Int}(g:1<=k/\k<=4){o:Ob}(j:o∈p.at k):∃a n m:Nat,o.at_=a/\o.size=n/\o.ptrs=m/\a+(n+1)<=P (Zx h k)/\n<=255/\m<=n:=by
 have d:=((t.tiles k g).stands o j).1;have f:=YM.1 d.shape;obtain⟨a,l⟩:=Zea d.nat;obtain⟨n,r⟩:=Zea f.1;obtain⟨m,q⟩:=Zea f.2.2.1;have:=d.fits;grind
def Tld.start(t:Tld h p){k:Int}(d:1<=k/\k<=4){o:Ob}(f:o∈p.at k):X1 h k o.at_=ZB (Zv h) k+o.at_:=by
 obtain⟨a,n,m,g,_,_,j,_⟩:=t.ob d f;unfold X1;rw[Rp t.lay d (by grind [TC])]
def Tld.same_at(t:Tld h p){k:Int}(d:1<=k/\k<=4){o q:Ob}(f:o∈p.at k)(g:q∈p.at k)(e:q.at_=o.at_):q=o:=by
 rcases(t.tiles k d).apart q g o f with a|a|a;exact a;have:=YM.1 ((t.tiles k d).stands q g).1.shape;omega;have:=YM.1 ((t.tiles k d).stands o f).1.shape;omega
def Tld.find(t:Tld h p){k:Int}(a:1<=k/\k<=4){o:Ob}(d:o∈p.at k):Yx h k (p.at k) (ZB (Zv h) k+o.at_)=xk o:=by
 rw[<-t.start a d];refine El d λq f e=>t.same_at a d f ?_;rw[t.start a d,t.start a f]at e;omega
theorem Tld.inj(t:Tld h p){k j:Int}(d:1<=k/\k<=4)(f:1<=j/\j<=4){o q:Ob}(g:o∈p.at k)(l:q∈p.at j)(e:ZT (Zv h) k o.at_=ZT (Zv h) j q.at_):k=j/\o=q:=by
 obtain⟨a,n,m,x,_,_,z,_⟩:=t.ob d g;obtain⟨b,B,A,y,_,_,w,_⟩:=t.ob f l;obtain⟨r,u⟩:=Z60 t.lay d f (by grind [TC]) (by grind [TC]) e;subst r;exact⟨rfl,t.same_at d l g u⟩
theorem Tld.adr(t:Tld h p){k:Int}(d:1<=k/\k<=4){o:Ob}(f:o∈p.at k):adr (ZT (Zv h) k o.at_)=(ZB (Zv h) k+o.at_,0):=by
 obtain⟨a,n,m,g,_⟩:=t.ob d f;exact T9 t.lay Z0
def Tld.ne0(t:Tld h p){k:Int}(d:1<=k/\k<=4){o:Ob}(f:o∈p.at k):ZT (Zv h) k o.at_≠0:=by
 obtain⟨a,n,m,g,_⟩:=t.ob d f;exact KZ t.lay Z0
def Tld.at_iff(t:Tld h p){k:Int}(d:1<=k/\k<=4){w:Int}(f:(Vm.adr w).2=0):(Yx h k (p.at k) (Vm.adr w).1).isSome=xy↔ ∃o∈p.at k,w=ZT (Zv h) k o.at_:=by
 rw[jk];constructor;rintro⟨o,a,e⟩;rw[t.start d a]at e;exact⟨o,a,Ot f e.symm⟩;rintro⟨o,a,rfl⟩;exact⟨o,a,by rw[t.adr d a,t.start d a]⟩
def Tld.goes_iff(t:Tld h p){i j:Int}(g:1<=i/\i<=4)(l:1<=j/\j<=4){w:Int}:Xz h p w i j=xy↔X5 h p w i j:=by
 unfold Xz X5;by_cases d:w=0;simp[d];by_cases a:(Vm.adr w).2=0;simp only[d,a,ZgQ,Zii,Zgl,ZhD,Ze7,false_or,t.at_iff g a,t.at_iff l a];simp;simp only[d,a,Zii,Bool.false_and,Bool.or_self,Ze3,false_or,false_iff];rintro⟨k,o,n,q,rfl⟩;have f:1<=k/\k<=4:=by obtain rfl|rfl:=n<;>assumption
 exact a (by rw[t.adr f q])
def NA:∀ {l:Zc} {a:Int} {i:Nat},XQ l xy a i=xy->∀w∈l,w=0
 | [],_,_,_,w,d=>ZdB
 |y::l,a,i,f,w,d=>by
  simp only[XQ,ZdS]at f;obtain rfl|d:=Zec.1 d;have g:=f.1;simp at g;exact g.1;exact NA f.2 w d
def Tld.slot(t:Tld h p){k:Int}(d:1<=k/\k<=4){o:Ob}(f:o∈p.at k){j:Nat}(x:(j:Int)<o.size):∃w,(Zx h k)[o.at_.toNat+1+j]?=xk w/\(o.gone=xy->w=0):=by
 obtain⟨a,n,m,l,u,z,y,_⟩:=t.ob d f;have r:a+1+j< P (Zx h k):=Z0;refine⟨(Zx h k)[a+1+j],ZcO,λq=> ?_⟩;have g:=((t.tiles k d).stands o f).1.slots;rw[q]at g;refine NA g _ ?_;rw[l,u,Zee,Zee];refine ZdW (i:=j) ?_;simp_all
end
structure Body (h:Hp) (p:Pts):Prop extends Tld h p where
 gone:∀k:Int,3<=k/\k<=4->∀o∈p.at k,o.gone=xy->∃q∈p.low,o.target=ZB (Zv h) 1+q.at_/\q.size=o.size/\q.ptrs=o.ptrs
 ptr:∀k:Int,1<=k/\k<=4->∀o∈p.at k,o.gone=xh->∀j:Nat,(j:Int)<o.ptrs->∀w,(Zx h k)[o.at_.toNat+1+j]?=xk w->VD h p k (o.at_.toNat+1+j) w
 room:(P h.low:Int)+P h.high+Wp p<=h.cap
structure Rt (h:Hp) (p:Pts):Prop extends Body h p where
 nroots:P h.roots<=16
 scan0:0<=h.scan
 scanL:h.scan<=P h.low
 cyc:h.cycle=xy->h.scan<P h.low
 rest:h.cycle=xh->h.scan=P h.low/\h.old=[]/\h.far=[]
 once:h.cycle=xy->∀o∈p.low,UB p (ZB (Zv h) 1+o.at_)=1
 roots:∀w∈h.roots,X5 h p w 1 2
section
variable {h:Hp}{p:Pts}
def DC(t:Tld h p){k:Int}{i:Nat}{w:Int}(a:(Zx h k)[i]?=xk w):Uc h p k i=xy↔VD h p k i w:=by
 unfold Uc VD;simp only[a,Zei];split;exact t.goes_iff Z0 Z0;split;rw[Ze7,t.goes_iff Z0 Z0,t.goes_iff Z0 Z0];exact t.goes_iff Z0 Z0
theorem Pm(k:Int)(i:Nat):VD h p k i 0:=by
 unfold VD;split;exact .inl rfl;split;exact .inl (.inl rfl);exact .inl rfl
def Mv(t:Tld h p){k:Int}(g:1<=k/\k<=4):Wx h p k=xy↔ ∀o∈p.at k,o.gone=xh->∀j:Nat,(j:Int)<o.ptrs->∀w,(Zx h k)[o.at_.toNat+1+j]?=xk w->VD h p k (o.at_.toNat+1+j) w:=by
 unfold Wx ym;simp only[ZdZ,Zg5];constructor;intro l o d _ j q w f;exact(DC t f).1 (l o d j Z0);intro l o d j q;obtain⟨a,n,m,r,y,x,u,_⟩:=t.ob g d;obtain⟨w,f,z⟩:=t.slot g d (j:=j) Z0;refine(DC t f).2 ?_;grind [Pm]
def RightH.tld(r:RightH h p):Tld h p:=⟨r.lay,λk a=>r.tiles a⟩
def RightH.rt(r:RightH h p):Rt h p:=by
 have t:=r.tld;have j:=r.num;have a:=r.ok;unfold Tr at j;unfold Sm at a;simp only[ZdS,Ze9]at j a;obtain⟨⟨⟨⟨G,A⟩,B⟩,C⟩,H⟩:=j;obtain⟨⟨⟨⟨⟨⟨l,D⟩,I⟩,J⟩,K⟩,L⟩,F⟩:=a;have f:∀k:Int,1<=k/\k<=4->Wx h p k=xy:=λk d=>by
  have:k=1\/k=2\/k=3\/k=4:=Z0;grind
 refine⟨⟨t,λk d o a y=> ?_,λk d=>(Mv t d).1 (f k d),F⟩,A,B,C,λg=> ?_,λg=> ?_,λg o a=> ?_,λw z=> ?_⟩;obtain⟨q,n,e,u,x⟩:=r.gone_low d a y;exact⟨q,n,by rw[<-e,t.start (k:=1) Z0 n],u,x⟩;simp_all;simp_all;rw[g]at l;simp only[ZgD,Zgl,ZdZ]at l;have:=l o a;unfold Rg at this;rw[t.start (k:=1) Z0 a]at this;simp_all;exact(t.goes_iff Z0 Z0).1 (ZdZ.1 D w z)
def Rt.parts(r:Rt h p):XD h=xk p:=by
 have g:∀k:Int,3<=k/\k<=4->Qr h p.low (p.at k):=λk j o l f=>by
  obtain⟨q,n,e,a,d⟩:=r.gone k j o l f;exact⟨q,by rw[e];exact r.toTld.find (k:=1) Z0 n,a,d⟩
 exact Md (r.tiles 1 Z0) (r.tiles 2 Z0) (r.tiles 3 Z0) (r.tiles 4 Z0) (g 3 Z0) (g 4 Z0)
theorem Rt.right(r:Rt h p):YS h=xy:=by
 have t:=r.toTld;refine N0 ?_ r.parts ?_;unfold Tr;simp only[ZdS,Ze9];refine⟨⟨⟨⟨r.lay,r.nroots⟩,r.scan0⟩,r.scanL⟩,?_⟩;cases a:h.cycle;obtain⟨l,n,q⟩:=r.rest a;simp_all;simp[r.cyc a];unfold Sm;simp only[ZdS,Ze9];have d:=λk f=>(Mv t f).2 (r.ptr k f);refine⟨⟨⟨⟨⟨⟨?_,?_⟩,d 1 Z0⟩,d 2 Z0⟩,d 3 Z0⟩,d 4 Z0⟩,r.room⟩;cases a:h.cycle;rfl;simp only[ZgD,Zgl,ZdZ];intro o g;unfold Rg;rw[t.start (k:=1) Z0 g,Ze9];exact r.once a o g;rw[ZdZ];exactλw j=>(t.goes_iff Z0 Z0).2 (r.roots w j)
def qe:YS h=xy↔ ∃p,Rt h p:=
 ⟨λa=>by obtain⟨p,r⟩:=Z6h a;exact⟨p,r.rt⟩,λ⟨p,r⟩=>r.right⟩
def Rt.objs(r:Rt h p){k:Int}(a:1<=k/\k<=4):Uu h k=(p.at k,0):=by
 unfold Uu;rw[if_pos ⟨r.right,a⟩,r.parts];rfl
def Rt.wait(r:Rt h p):Jq h=Wp p:=by
 unfold Jq;rw[if_pos r.right,r.parts];rfl
end
end
section
def TF(l:Zn):Nat:=(l.map λo=>1+o.size.toNat).sum
def Tiles.sum{ws:Zc}{old:Bool}:∀ {a:Nat} {l:Zn},Tiles ws old a l->a<=P ws->a+TF l=P ws
 |a,[],h,d=>by have:P ws<=a:=h;simp[TF];omega
 |a,o::l,h,d=>by
  have g:=YM.1 h.2.1.shape;have f:=h.2.1.fits;rw[h.1]at f;have:=Tiles.sum h.2.2 Z0;simp[TF]at this⊢;omega
def Tiles.last{ws:Zc}{old:Bool}{l:Zn}(h:Tiles ws old (P ws) l):l=[]:=by
 obtain _|⟨o,l⟩:=l;rfl;have d:=YM.1 h.2.1.shape;have a:=h.2.1.fits;rw[h.1]at a;omega
def Tiles.no_gone{ws:Zc}{a:Nat}{l:Zn}(h:Tiles ws xh a l):∀o∈l,o.gone=xh:=λo d=>by
 obtain⟨w,_,f⟩:=(h.stands o d).1.word;simp_all
def A8(l:Zn):Nat:=(l.map λo=>if o.gone then 1+o.size.toNat else 0).sum
def Z8x(l:Zn):Ys l+A8 l=TF l:=by
 induction l with
 |nil=>rfl
 |cons o l a=>
  simp only[Ys,A8,TF,Zeb,Zig,WX]at a⊢;cases o.gone<;>simp<;>omega
def Z7M{L:Zn}{f:Ob->Nat}(h:∀o∈L,f o=0):(L.map f).sum=0:=by
 induction L with
 |nil=>rfl
 |cons x L a=>simp_all
section
variable {h:Hp}{p:Pts}
def Tld.low_at(t:Tld h p){o:Ob}(d:o∈p.low):0<=o.at_/\o.at_<P h.low:=by
 obtain⟨a,n,m,f,_,_,g,_⟩:=t.ob (k:=1) Z0 d;grind [Tw]
def Tiles.pairwise{ws:Zc}{old:Bool}:∀ {a:Nat} {l:Zn},Tiles ws old a l->l.Pairwise λx y=>x.at_<y.at_
 |_,[],_=>.nil
 |a,o::l,h=>by
  have f:=YM.1 h.2.1.shape;refine .cons (λy d=> ?_) (Tiles.pairwise h.2.2);have:=(Tiles.stands h.2.2 y d).2;rw[h.1];omega
def Tiles.nil{old:Bool}{l:Zn}(h:Tiles [] old 0 l):l=[]:=Tiles.last (ws:=[]) h
end
end
section
section
variable {h:Hp}{p:Pts}
def Sg(h:Hp){q:Nat}(a:q<4):Zx h ((q:Int)+1)=Zu h q:=by
 have:q=0\/q=1\/q=2\/q=3:=Z0;obtain rfl|rfl|rfl|rfl:=this<;>rfl
def Rt.obQ(r:Rt h p){q:Nat}(a:q<4):obP h q=p.at ((q:Int)+1):=by
 unfold Vm.obP;rw[r.objs Z0]
def RJ{f:Fo}:∀ {n q:Nat},f∈Xf h n q->∃k o,q<=k/\k<q+n/\o∈obP h k/\f=Ya h k o
 |0,q,a=>by simp[Xf]at a
 |n+1,q,a=>by
  simp only[Xf,Zel,Ze4]at a;obtain⟨o,g,rfl⟩|a:=a;exact⟨q,o,Z0,Z0,g,rfl⟩;obtain⟨k,o,j,l,d⟩:=RJ a;exact⟨k,o,Z0,Z0,d⟩
def Kj{k:Nat}{o:Ob}(a:o∈obP h k):∀ {n q:Nat},q<=k->k<q+n->Ya h k o∈Xf h n q
 |0,q,d,f=>Z0
 |n+1,q,d,f=>by
  simp only[Xf,Zel,Ze4];by_cases e:k=q;subst e;exact .inl ⟨o,a,rfl⟩;exact .inr (Kj a Z0 Z0)
def Z5y(s:Vw)(f:Fo):(s.put f).ns=s.ns++if f.ob.gone then []else [f]:=by
 unfold Vw.put;split<;>simp
def Fw:∀(l:List Fo) (s:Vw),(l.foldl Vw.put s).ns=s.ns++l.filter λf=> !f.ob.gone
 | [],s=>Z1
 |f::l,s=>by
  rw[Zfj,Fw l,Z5y];cases a:f.ob.gone<;>simp[a]
def Dd(h:Hp):(Y6 h).ns=(Xf h 4 0).filter λf=> !f.ob.gone:=by
 unfold Y6;rw[Fw];rfl
def Kv(r:Rt h p){q:Nat}(a:q<4):P (obP h q)<=P (Zu h q):=by
 have t:=r.tiles ((q:Int)+1) Z0;have:=t.sum (ZeJ _);rw[Sg h a,<-r.obQ a]at this;have d:P (obP h q)<=TF (obP h q):=by
  generalize obP h q=l;induction l with
  |nil=>simp
  |cons o l f=>simp only[TF,Zeb,Zig,Zfd]at f⊢;omega
 omega
def Rt.len4(r:Rt h p){q:Nat}(l:q<4):P (Zu h q)<=4096:=by
 obtain⟨a,d,_,_,_,⟨_,_,f,g⟩,⟨_,_,j,k⟩⟩:=WB.1 r.lay;simp only[Zv]at*;have:q=0\/q=1\/q=2\/q=3:=Z0;obtain rfl|rfl|rfl|rfl:=this;show P h.low<=4096;omega;show P h.high<=4096;omega;show P h.old<=4096;omega;show P h.far<=4096;omega
def Rt.ob4(r:Rt h p){q:Nat}(f:q<4){o:Ob}(d:o∈obP h q):∃a n m:Nat,o.at_=a/\o.size=n/\o.ptrs=m/\a+(n+1)<=P (Zu h q)/\n<=255/\m<=n:=by
 rw[r.obQ f]at d;have:=r.toTld.ob Z0 d;rwa[Sg h f]at this
def lsW(a:h.ok){q:Nat}(d:q<4):∀w∈Zu h q,ZC w:=by
 have:q=0\/q=1\/q=2\/q=3:=Z0;obtain rfl|rfl|rfl|rfl:=this;exact a.lowW;exact a.highW;exact a.oldW;exact a.farW
def zl(r:Rt h p){q:Nat}(f:q<4){o:Ob}(d:o∈obP h q):(Ya h q o).sl.length=o.size.toNat:=by
 obtain⟨a,n,m,g,j,k,l,_⟩:=r.ob4 f d;simp only[Ya,ZeZ,ZfG];omega
def Rt.ofOk(r:Rt h p)(x:h.ok):OfOk h:=by
 have F:P (Xf h 4 0)<=16384:=by
  have A:=Kv r (q:=0) Z0;have j:=Kv r (q:=1) Z0;have l:=Kv r (q:=2) Z0;have t:=Kv r (q:=3) Z0;have G:=r.len4 (q:=0) Z0;have k1:=r.len4 (q:=1) Z0;have H:=r.len4 (q:=2) Z0;have I:=r.len4 (q:=3) Z0;simp only[Xf,ZeK,Zem,Zfq,ZeC,Nat.reduceAdd];omega
 refine⟨λq g=>⟨by have:=Kv r g;have:=r.len4 g;omega,λo d=> ?_⟩,Z0,⟨?_,λf u=> ?_,by have:=r.nroots;omega,x.rootsW⟩⟩;obtain⟨a,n,m,j,l,t,y,_⟩:=r.ob4 g d;omega;rw[Dd];have:=ZgV (λf:Fo=> !f.ob.gone) (Xf h 4 0);omega;rw[Dd]at u;obtain⟨k,o,_,D,d,rfl⟩:=RJ (Zg8.1 u).1;obtain⟨a,n,m,j,l,t,y,B,C⟩:=r.ob4 Z0 d;have e:=zl r Z0 d;refine⟨by show 0<=o.ptrs;omega,by show o.ptrs<=_;rw[e];omega,by rw[e];omega,λw z=>lsW x (q:=k) Z0 w ?_⟩;exact Zfn (ZeD z)
def ofOk(a:h.ok)(d:YS h=xy):OfOk h:=by
 obtain⟨p,r⟩:=qe.1 d;exact r.ofOk a
end
def Pg{h:Hp}(a:h.ok):VC (YK Try.prog) 15 xh [ZQ h] (J3 h):=DA a (ofOk a)
end
section
structure VwI (d:List Fo) (s:Vw):Prop where
 ns:s.ns=d.filter λf=> !f.ob.gone
 n1:∀a j,Y1 s.nm a=xk j->∃i:Nat,j=i/\∃f,s.ns[i]?=xk f/\f.ad=a
 n2:∀f∈s.ns,(Y1 s.nm f.ad).isSome=xy
 t1:∀a t,Y1 s.tm a=xk t->∃f∈d,f.ob.gone=xy/\f.ad=a/\f.ob.target=t
 t2:∀f∈d,f.ob.gone=xy->(Y1 s.tm f.ad).isSome=xy
def zN{α l k j}{x:α}(h:k=j\/(Y1 l j).isSome=xy):(Y1 (XO l k x) j).isSome=xy:=by
 rw[QL];split;rfl;rename_i a;obtain h|h:=h;exact absurd h a;exact h
theorem VwI.put{d s f}(i:VwI d s):VwI (d++[f]) (s.put f):=by
 cases n:f.ob.gone;have e:s.put f= {s with ns:=s.ns++[f],nm:=XO s.nm f.ad (P s.ns)}:=by simp[Vw.put,n]
 rw[e];refine⟨by simp[i.ns,n],λa j q=> ?_,λx k=> ?_,λa t o=> ?_,λx k l=> ?_⟩;simp only[QL]at q;split at q;rename_i w;exact⟨P s.ns,by simpa using q.symm,f,Z1,w⟩;have⟨m,z,g,y,A⟩:=i.n1 a j q;exact⟨m,z,g,by simp only[Zeq (ZdQ.1 y).1,y],A⟩;obtain k|k:=Zel.1 k;exact zN (.inr (i.n2 x k));rw[ZeS.1 k];exact zN (.inl rfl);have⟨g,r,u⟩:=i.t1 a t o;exact⟨g,by simp[r],u⟩;obtain k|k:=Zel.1 k;exact i.t2 x k l;rw[ZeS.1 k,n]at l;exact absurd l Z1;have e:s.put f= {s with tm:=XO s.tm f.ad f.ob.target}:=by simp[Vw.put,n]
 rw[e];refine⟨by simp[i.ns,n],i.n1,i.n2,λa t o=> ?_,λx k l=> ?_⟩;simp only[QL]at o;split at o;rename_i w;exact⟨f,Z1,n,w,by simpa using o⟩;have⟨g,r,u⟩:=i.t1 a t o;exact⟨g,by simp[r],u⟩;obtain k|k:=Zel.1 k;exact zN (.inr (i.t2 x k l));rw[ZeS.1 k];exact zN (.inl rfl)
def VwI.fold:∀ {l d} {s:Vw},VwI d s->VwI (d++l) (l.foldl Vw.put s)
 | [],d,s,i=>by simpa using i
 |f::l,d,s,i=>by
  have:=VwI.fold (l:=l) (i.put (f:=f));rwa[ZeH]at this
def Sv h:VwI (Xf h 4 0) (Y6 h):=by
 have:VwI [] ⟨[],[],[]⟩:=⟨rfl,by simp[Y1],Z1,by simp[Y1],Z1⟩;exact this.fold (l:=Xf h 4 0)
section
variable {h:Hp}{p:Pts}
def SO(r:Rt h p){q}(d:q<4){o}(f:o∈obP h q):(Ya h q o).ad=ZB (Zv h) (q+1)+o.at_:=by
 have⟨a,n,m,g,j,k,l,_⟩:=r.ob4 d f;show(Y4 (Zv h) (q+1) o.at_).1=_;rw[Rp r.lay Z0 (by rw[TC Z0,Sg h d];omega)]
def QJ(r:Rt h p){f g}(u:f∈Xf h 4 0)(w:g∈Xf h 4 0)(e:f.ad=g.ad):f=g:=by
 obtain⟨k,o,_,z,l,rfl⟩:=RJ u;obtain⟨j,q,_,y,n,rfl⟩:=RJ w;rw[SO r Z0 l,SO r Z0 n]at e;have a:=l;have d:=n;rw[r.obQ Z0]at a d;have⟨x,t⟩:=r.toTld.inj Z0 Z0 a d (by unfold ZT;omega);have:k=j:=Z0;subst this;rw[t]
def Tp{f}:f∈(Y6 h).ns↔f∈Xf h 4 0/\f.ob.gone=xh:=by
 rw[(Sv h).ns];simp
def Rt.to_nm(r:Rt h p){f}(d:f∈Xf h 4 0)(n:f.ob.gone=xh):∃i:Nat,Y1 (Y6 h).nm f.ad=xk (i:Int)/\(Y6 h).ns[i]?=xk f:=by
 have⟨j,k⟩:=ZeW.1 ((Sv h).n2 f (Tp.2 ⟨d,n⟩));obtain⟨i,rfl,g,a,l⟩:=(Sv h).n1 _ _ k;have:=QJ r (Tp.1 (ZdW a)).1 d l;subst this;exact⟨i,k,a⟩
def Rt.to_live(r:Rt h p){f}(a:f∈Xf h 4 0)(d:f.ob.gone=xh){w}(q:w≠0)(n:(adr w).1=f.ad):∃i:Nat,(Y6 h).toA w=i/\(Y6 h).ns[i]?=xk f:=by
 have⟨i,k,l⟩:=r.to_nm a d;refine⟨i,?_,l⟩;have:Y1 (Y6 h).tm f.ad=xw:=by
  cases o:Y1 (Y6 h).tm f.ad with
  |none=>rfl
  |some t=>
   have⟨g,k1,j,u,_⟩:=(Sv h).t1 _ _ o;rw[QJ r k1 a u,d]at j;exact absurd j Z1
 unfold Vw.toA;rw[if_neg q,n,this,ZhL,k,Zei]
def Rt.to_gone(r:Rt h p){f g}(a:f∈Xf h 4 0)(o:f.ob.gone=xy)(gf:g∈Xf h 4 0)(j:g.ob.gone=xh)(q:f.ob.target=g.ad){w}(u:w≠0)(n:(adr w).1=f.ad):∃i:Nat,(Y6 h).toA w=i/\(Y6 h).ns[i]?=xk g:=by
 have⟨i,k,l⟩:=r.to_nm gf j;refine⟨i,?_,l⟩;have⟨t,e⟩:=ZeW.1 ((Sv h).t2 f a o);have⟨x,k1,z,y,d⟩:=(Sv h).t1 _ _ e;rw[QJ r k1 a y,q]at d;unfold Vw.toA;rw[if_neg u,n,e,Zei,<-d,k,Zei]
def Rt.live12(r:Rt h p){q}(g:q<2){o}(a:o∈obP h q):o.gone=xh:=by
 rw[r.obQ Z0]at a;have⟨w,_,d⟩:=((r.tiles (q+1) Z0).stands o a).1.word;cases f:o.gone;rfl;rw[f,if_pos rfl]at d;have:=d.1;simp at this;omega
def Rt.gos(r:Rt h p){w i j}(t:1<=i/\i<=4)(u:1<=j/\j<=4)(n:X5 h p w i j)(g:w≠0):∃(q:Nat) (o:Ob),q<4/\((q+1=i)\/(q+1=j))/\o∈obP h q/\w=2*(Ya h q o).ad+1/\(adr w).1=(Ya h q o).ad:=by
 obtain rfl|⟨k,o,l,f,rfl⟩:=n;exact absurd rfl g;obtain⟨q,rfl,d⟩:∃q:Nat,k=q+1/\q<4:=⟨(k-1).toNat,Z0,Z0⟩;have a:o∈obP h q:=by rw[r.obQ d];exact f
 refine⟨q,o,d,l,a,?_,?_⟩;rw[SO r d a];rfl;rw[r.toTld.adr Z0 f,SO r d a]
def Rt.to_any(r:Rt h p){w i j}(B:1<=i/\i<=4)(C:1<=j/\j<=4)(H:X5 h p w i j)(k:w≠0):∃(n:Nat),(Y6 h).toA w=n/\n< (Y6 h).ns.length:=by
 have⟨q,o,F,J,x,_,y⟩:=r.gos B C H k;have z:Ya h q o∈Xf h 4 0:=Kj x Z0 Z0;cases d:o.gone;have⟨n,l,u⟩:=r.to_live z d k y;exact⟨n,l,(ZdQ.1 u).1⟩;have I:2<=q:=by
  by_cases D:q<2;rw[r.live12 D x]at d;exact absurd d Z1;omega
 have f:=x;rw[r.obQ F]at f;have⟨t,G,A,_⟩:=r.gone (q+1) Z0 o f d;have a:t∈obP h 0:=by rw[r.obQ Z0];exact G
 have⟨n,l,u⟩:=r.to_gone z d (g:=Ya h 0 t) (Kj a Z0 Z0) (r.live12 Z0 a) (by rw[SO r Z0 a];exact A) k y;exact⟨n,l,(ZdQ.1 u).1⟩
def Rt.to_in(r:Rt h p){w i j}(f:1<=i/\i<=4)(g:1<=j/\j<=4)(k:X5 h p w i j):Ua (Y6 h).ns.length ((Y6 h).toA w)=xy:=by
 by_cases a:w=0;subst a;simp[Vw.toA,Ua];omega;have⟨n,d,l⟩:=r.to_any f g k a;rw[d];simp[Ua];omega
def Rt.to_root(r:Rt h p){w}(t:X5 h p w 1 2)(a:w≠0):∃(n:Nat) (f:Fo),(Y6 h).toA w=n/\(Y6 h).ns[n]?=xk f/\w=2*f.ad+1:=by
 have⟨q,o,x,u,d,e,k⟩:=r.gos Z0 Z0 t a;have l:Ya h q o∈Xf h 4 0:=Kj d Z0 Z0;have⟨n,g,j⟩:=r.to_live l (r.live12 Z0 d) a k;exact⟨n,_,g,j,e⟩
def Rt.to_inj(r:Rt h p){w v}(t:X5 h p w 1 2)(q:X5 h p v 1 2)(e:(Y6 h).toA w=(Y6 h).toA v):w=v:=by
 have z:(Y6 h).toA 0= -1:=by simp[Vw.toA]
 by_cases j:w=0;by_cases a:v=0;rw[j,a];have⟨n,f,k,l,o⟩:=r.to_root q a;rw[j,z,k]at e;omega;have⟨n,f,k,l,o⟩:=r.to_root t j;by_cases a:v=0;rw[a,z,k]at e;omega;have⟨m,g,k1,d,u⟩:=r.to_root q a;have:n=m:=Z0;subst this;rw[l]at d;injection d with d;rw[o,u,d]
def Mu{k i w}(d:VD h p k i w):∃a b,(1<=a/\a<=4)/\(1<=b/\b<=4)/\X5 h p w a b:=by
 unfold VD at d;split at d;exact⟨3,4,Z0,Z0,d⟩;split at d;obtain d|d:=d;exact⟨1,2,Z0,Z0,d⟩;exact⟨3,4,Z0,Z0,d⟩;exact⟨1,2,Z0,Z0,d⟩
def Rt.view_right(r:Rt h p){d}(H:xq d<=16)(I:∀w∈d,X5 h p w 1 2):Vm.right ((Y6 h).gr d)=xy:=by
 simp only[Vm.right,ZdS,ZdZ,Ze9,Vw.gr,Zem,Ze4];refine⟨⟨H,?_⟩,?_⟩;rintro _ ⟨f,C,rfl⟩;have⟨u,D⟩:=Tp.1 C;obtain⟨q,o,_,P,x,rfl⟩:=RJ u;have⟨a,n,m,J,K,L,M,N,O⟩:=r.ob4 Z0 x;have e:=zl r Z0 x;simp only[Sa,Ut,ZdS,ZdZ,Ze9,Zem,ZeZ,ZfG,Ze4];refine⟨Z0,?_⟩;rintro _ ⟨w,z,rfl⟩;have⟨j,g⟩:=Zeg z;have l:=(ZdQ.1 g).1;rw[ZeZ]at l;have y:(Ya h q o).ob.ptrs=o.ptrs:=rfl;rw[y]at g l;rw[ZeQ Z0]at g;have t:=x;rw[r.obQ Z0]at t;have A:(Zx h (q+1))[o.at_.toNat+1+j]?=xk w:=by
  rw[Sg h Z0];simp only[Ya]at g;rw[ZeQ Z0,Zep]at g;rw[<-g];congr 1;omega
 have⟨i,k,F,G,B⟩:=Mu (r.ptr (q+1) Z0 o t D j Z0 w A);exact r.to_in F G B;rintro _ ⟨w,z,rfl⟩;exact r.to_in Z0 Z0 (I w z)
end
end
end Vm
end
section
namespace Vm
open Go
open Go.Proofs
def p4:Fn:=⟨16,[0,1,2,3,4,5,6,7,55,8,60,86,9,89,114,10],
pQ [pR [(1,pS 0 7),pV 2 pF],pC [pK 16 13 []] [pV 3 (.s 16)],pC [pK 17 16 [.mm 1 0 7]] [(4,pS 17 10)],pC [pK 18 20 [.mm 4 0 10]] [pV 5 (.s 18)],pC [pK 19 15 [.mm 4 0 10]] [(6,pM (.sz (.ext (.s 19) 0) 2) 2),pV 7 (.ext (.s 19) 1)],pQ [.reg ⟨[.lt 20 [] (.bin .neq (.s 7) (pI 0)),.call 21 [(20,xh)] (.id 21) xh xh [.mm 6 0 2],.lt 22 [] (.ite (.s 20) pT (.bin .neq (.s 5) (.s 21))),.lt 23 [] (.ite (.s 22) pT (.bin .lss (.s 5) (pI 0))),.call 24 [(23,xh)] (.id 22) xh xh [.mm 4 0 10],.lt 25 [] (.ite (.s 23) pT (.bin .gtr (.s 5) (.bin .add (.bin .add (.len (.m 4 5)) (.len (.m 4 6))) (.s 24))))],[([(20,xh)],.bin .neq (.s 5) (.s 21)),([(22,xh)],.bin .lss (.s 5) (pI 0)),([(23,xh)],.bin .gtr (.s 5) (.bin .add (.bin .add (.len (.m 4 5)) (.len (.m 4 6))) (.s 24))),([(25,xh)],.bin .neq (.len (.m 6 1)) (.len (.m 4 9)))],[pV 8 (.ite (.s 25) pT (.bin .neq (.len (.m 6 1)) (.len (.m 4 9))))]⟩] (.cond (.s 8) (pQ [pR [pV 2 pF]] .ret) .skip),pQ [pR [pV 9 (pI 0)]] (.block 0 (.loop [0,1,2,3,4,5,6,7,8,9] (pQ [pQ [pR [pV 10 (.bin .lss (.s 9) (.len (.m 4 9)))]] (.cond (.s 10) .skip (.exit 0)),.block 1 (pQ [pQ [.reg ⟨[.lt 26 [] (.eqv xy (.bin .eql (.fld (.idx (.m 4 9) (.s 9) 1) 0) (pU 0)) (.bin .eql (.fld (.idx (.m 6 1) (.s 9) 1) 0) (pI (-1))))],[([(26,xh)],.bin .geq (.fld (.idx (.m 6 1) (.s 9) 1) 0) (.len (.m 6 0)))],[pV 11 (.ite (.s 26) pT (.bin .geq (.fld (.idx (.m 6 1) (.s 9) 1) 0) (.len (.m 6 0))))]⟩] (.cond (.s 11) (pQ [pR [pV 2 pF]] .ret) .skip),pR [pV 12 (pI 0)]] (.block 2 (.loop [0,1,2,3,4,5,6,7,8,9,10,11,12] (pQ [pQ [pR [pV 13 (.bin .lss (.s 12) (.s 9))]] (.cond (.s 13) .skip (.exit 2)),.block 3 (pQ [pR [pV 14 (.eqv xy (.bin .eql (.fld (.idx (.m 4 9) (.s 9) 1) 0) (.fld (.idx (.m 4 9) (.s 12) 1) 0)) (.bin .eql (.fld (.idx (.m 6 1) (.s 9) 1) 0) (.fld (.idx (.m 6 1) (.s 12) 1) 0)))]] (.cond (.s 14) (pQ [pR [pV 2 pF]] .ret) .skip))] (pR [pV 12 (.bin .add (.s 12) (pI 1))])))))] (pR [pV 9 (.bin .add (.s 9) (pI 1))])))),pR [(15,pM (.mm 4 0 10) 10)],pR [(15,.m [.m 15 0,.m 15 1,.m 15 2,.m 15 3,.m 15 4,.m 15 5,.m 15 6,.m 15 7,.m 15 8,.mk (.int .u64 0) (.len (.m 4 9))])],.reg ⟨[.lt 27 [] (.s 3),.call 28 [(27,xy)] (.id 20) xh xy [.mm 15 0 10]],[([(27,xy)],.bin .eql (.s 28) (pI 0))],[pV 2 (.ite (.s 27) (.bin .eql (.s 28) (pI 0)) pF)]⟩] .ret,[(2,.v)]⟩
def c4:ZM (YK Try.prog) fresh sig [.fz] [] Try.f4=xk p4:=Z2
def p13:Fn:=⟨9,[0,1,2,3,4,5,6,7,8],
pQ [pR [pV 0 pF],.reg ⟨[],[([],.ag [pU 10,pI 5,pI 0,pF,pI 2,.lit [pU 2,pU 6],pN,pN,pN,.lit [pU 21,pU 0]])],[(1,.m [pU 10,pI 5,pI 0,pF,pI 2,.lit [pU 2,pU 6],pN,pN,pN,.lit [pU 21,pU 0]])]⟩,pC [pK 9 15 [.mm 1 0 10]] [(2,pM (.sz (.ext (.s 9) 0) 2) 2),pV 3 (.fl (.ext (.s 9) 1))],pC [pK 10 15 [pY]] [(4,pM (.sz (.ext (.s 10) 0) 2) 2),pV 5 (.ext (.s 10) 1)],.reg ⟨[],[([],.ag [pU 10,pI 5,pI 1,pT,pI 0,.lit [pU 2,pU 6],pN,.lit [pU 31,pU 0],pN,.lit [pU 31,pU 0]])],[(6,.m [pU 10,pI 5,pI 1,pT,pI 0,.lit [pU 2,pU 6],pN,.lit [pU 31,pU 0],pN,.lit [pU 31,pU 0]])]⟩,pC [pK 11 15 [.mm 6 0 10]] [(7,pM (.sz (.ext (.s 11) 0) 2) 2),pV 8 (.fl (.ext (.s 11) 1))],.reg ⟨[.lt 12 [] (.bin .eql (.s 3) (pI 0)),.call 13 [(12,xy)] (.id 18) xh xh [.mm 2 0 2,.ag [.lit [.ag [pN,.lit [pU 6]]],.lit [pI 0,pI (-1)]]],.lt 14 [] (.ite (.s 12) (.s 13) pF),.lt 15 [] (.ite (.s 14) (.bin .eql (.s 5) (pI 1)) pF),.lt 16 [] (.ite (.s 15) (.bin .eql (.s 8) (pI 0)) pF),.call 17 [(16,xy)] (.id 18) xh xh [.mm 7 0 2,.mm 2 0 2],.lt 18 [] (.ite (.s 16) (.s 17) pF),.call 19 [(18,xy)] (.id 20) xh xh [.mm 1 0 10],.lt 20 [] (.ite (.s 18) (.bin .eql (.s 19) (pI 2)) pF),.call 21 [(20,xy)] (.id 20) xh xh [pY]],[([(14,xy)],.bin .eql (.s 5) (pI 1)),([(15,xy)],.bin .eql (.s 8) (pI 0)),([(18,xy)],.bin .eql (.s 19) (pI 2)),([(20,xy)],.bin .eql (.s 21) (pI 0))],[pV 0 (.ite (.s 20) (.bin .eql (.s 21) (pI 0)) pF)]⟩] .ret,[(0,.v)]⟩
def c13:ZM (YK Try.prog) fresh sig [] [] Try.f13=xk p13:=Z2
end Vm
end
section
namespace Vm
open Go Go.Proofs
theorem zh{P:Z4}{f:Zp}{fn:Func}{c:Code}(j:P.funcs[f]?=xk fn)(h2:fn.body=xk c)(k:Tc P c=xy):FitF (YK P) f:=⟨λg d h a=>by
 have e:(YK P).funcs[f]?=P.funcs[f]? :=rfl;rw[e,j]at h;cases h;rw[h2]at a;cases a;exact Ez k⟩
def Z41(l:Zc):NoM (.sl (l.map vi)):=.sl _ λc a=>by
 have:flat (l.map vi)=l.map vi:=U6 λx d=>ZdC;rw[this]at a;obtain⟨y,_,rfl⟩:=Ze4.1 a;exact .int _ _
def Bc(g:Gr):NoM (Yl g):=(HW g).m
def yh{x:V}(h:NoM x):∀y∈[x],NoM y:=λy a=>by rw[ZeS.1 a];exact h
def Z3Y{x z:V}(h:NoM x)(k:NoM z):∀y∈[x,z],NoM y:=λy a=>by
 simp only[Zec,Zfk,ZgT]at a;obtain rfl|rfl:=a;exact h;exact k
def up{f:Zp}{args:Zr}{r:V}(g:VC Sol.prog f xh args r)(a:∀x∈args,NoM x)(d:NoM r):VC (YK Try.prog) f xh args r:=GV Sol.sub g a d
def Pn{a b:Gr}(d:a.sm):VC (YK Try.prog) 18 xh [Yl a,Yl b] (.bool (decide (a=b))):=up (Po d) (Z3Y (Bc a) (Bc b)) (.bool _)
def vg(h:Hp):Gr:=(Y6 h).gr h.roots
def ofG(h:Hp):Gr×Int:=if YS h=xy/\right (vg h)=xy then(YL (vg h),0)else(S9,1)
def Z4j(h:Hp):J3 h=.tup [Yl (ofG h).1,vi (ofG h).2]:=by
 unfold J3 ofG V8 vg;by_cases a:YS h=xy;rw[if_pos a];by_cases d:right ((Y6 h).gr h.roots)=xy;rw[if_pos d,if_pos ⟨a,d⟩];rw[if_neg d,if_neg λx=>d x.2];rw[if_neg a,if_neg λx=>a x.1]
def Dz{h:Hp}(a:h.ok):VC (YK Try.prog) 15 xh [ZQ h] (.tup [Yl (ofG h).1,vi (ofG h).2]):=by
 rw[<-Z4j];exact Pg a
instance fitLive:FitF (YK Try.prog) 20:=zh (P:=Try.prog) Try.func20 rfl Z2
instance fitAwake:FitF (YK Try.prog) 13:=zh (P:=Try.prog) Try.func13 rfl Z2
end Vm
end
section

end
section
namespace Vm
open Go Go.Proofs
def Z0n(g:Gr):(YL g).nodes.length=P (order g):=by simp[YL]
def HD:∀ {l a:Zc},(∀x∈l,x<0)->Yb a l=a
 | [],a,_=>rfl
 |x::l,a,h=>by
  have f:=h x Z1;simp only[Yb];rw[if_neg Z0];exact HD λy d=>h y (by simp[d])
def Z4E{g:Gr}(h:∀x∈g.roots,x<0):order g=[]:=by
 unfold order;rw[HD h];simp[XK]
section
def BH{h:Hp}{k j:Int}(n:1<=k/\k<=4)(g:1<=j/\j<=4)(l:Zc):Zx (Xr h k l) j=if j=k then l else Zx h j:=by
 have a:k=1\/k=2\/k=3\/k=4:=Z0;have f:j=1\/j=2\/j=3\/j=4:=Z0;obtain rfl|rfl|rfl|rfl:=a<;>obtain rfl|rfl|rfl|rfl:=f<;>rfl
def ZO(b:Bt)(i:Nat):Nd:=(b.g.nodes[i]?).getD default
def ZE(b:Bt)(i:Nat):Pl:=(b.here[i]?).getD ⟨0,0⟩
def Y7(b:Bt)(i:Nat):Pl:=(b.old[i]?).getD ⟨0,0⟩
def K1(n:Nd):Int:=(Uv ((P n.ptrs:Int)+P n.data) (P n.ptrs)).1
def XT(b:Bt)(p:Pl)(n:Nd)(tw:Int):List Int:=K1 n::(XP b p p.at_.toNat n.ptrs tw++n.data)
def VJ(b:Bt)(p:Pl)(n:Nd):List Int:=YE b.h p::List.replicate (ZJ n-1) 0
def YU(b:Bt)(x:Rw)(k:Int)(i:Nat):List Int:=
 if(ZE b i).part=k then XT b (ZE b i) (ZO b i) (IntKind.i64.wrap (x.slack+i))
 else if(Y7 b i).part=k then(if(ZE b i).part=0 then XT b (Y7 b i) (ZO b i) 0 else VJ b (ZE b i) (ZO b i))
 else []
def X6(b:Bt)(x:Rw)(k:Int)(i:Nat):List Int:=(List.range i).flatMap (YU b x k)
theorem U1(b:Bt)(x:Rw)(k:Int)(i:Nat):X6 b x k (i+1)=X6 b x k i++YU b x k i:=by
 simp_all[X6,Zg9,ZfM]
theorem Ur(b:Bt)(p:Pl)(n:Nd)(tw:Int):P (XT b p n tw)=ZJ n:=by
 grind [XT,XP,ZJ]
theorem RP(b:Bt)(p:Pl)(n:Nd):P (VJ b p n)=ZJ n:=by
 grind [VJ,ZJ]
structure Placed (b:Bt) (x:Rw):Prop where
 ok:BOk b
 here:∀i,i<P b.g.nodes->(ZE b i=⟨0,0⟩/\∃k:Int,(k=3\/k=4)/\(Y7 b i).part=k)\/(((ZE b i).part=1\/(ZE b i).part=2)/\(ZE b i).at_=(P (X6 b x (ZE b i).part i):Nat))
 old:∀i,i<P b.g.nodes->Y7 b i=⟨0,0⟩\/(((Y7 b i).part=3\/(Y7 b i).part=4)/\(Y7 b i).at_=(P (X6 b x (Y7 b i).part i):Nat)/\(ZE b i).part≠2)
 zero:∀k:Int,1<=k/\k<=4->Zx b.h k=List.replicate (P (X6 b x k (P b.g.nodes))) 0
section
variable {b d:Bt}{x:Rw}
def Cg(a:Like b d)(p:Pl):YE d.h p=YE b.h p:=by
 unfold YE;rw[a.lay]
theorem Z7i(a:Like b d)(p:Pl)(to tw:Int):Vg d p to tw=Vg b p to tw:=by
 unfold Vg;rw[a.here,a.old,a.scan,Cg a,Cg a]
def GM(a:Like b d)(p:Pl)(n:Nd)(tw:Int):XT d p n tw=XT b p n tw:=by
 grind [XT,XP,Z7i]
def AE{p:Pl}{a m:Nat}{n:Nd}{tw:Int}{F:Zc}(k:Zx d.h p.part=F++List.replicate m 0)(g:P F=a)(f:p.at_.toNat=a)(j:ZJ n<=m):S3 d p a n tw=F++XT d p n tw++List.replicate (m-ZJ n) 0:=by
 simp_all[S3,List.replicate,ZJ,ZhG,ZfC,XT,K1]
def Z6Z{F:Zc}{a m s:Nat}{w:Int}(f:P F=a)(j:1<=s)(h:s<=m):(F++List.replicate m (0:Int)).set a w=F++(w::List.replicate (s-1) 0)++List.replicate (m-s) 0:=by
 rw[<-f,Zi3 _ _ (ZdU _),ZfJ];obtain⟨m,rfl⟩:∃g,m=g+1:=⟨m-1,Z0⟩;rw[List.replicate_succ,Zg0,ZeH];congr 1;simp;omega
def JG(b:Bt)(x:Rw)(k:Int){i j:Nat}(h:i<=j):∃r,X6 b x k j=X6 b x k i++r:=by
 induction j with
 |zero=>simp_all
 |succ j f=>
  by_cases a:i=j+1;simp_all;grind [YU,U1,List.append_assoc]
def qZ(b:Bt)(x:Rw)(i:Nat)(d:Bt):Prop:=∀k:Int,1<=k/\k<=4->Zx d.h k=X6 b x k i++List.replicate (P (X6 b x k (P b.g.nodes))- P (X6 b x k i)) 0
def Co(b:Bt)(x:Rw)(k:Int){i:Nat}(a:i<P b.g.nodes):P (X6 b x k i)+P (YU b x k i)<=P (X6 b x k (P b.g.nodes)):=by
 obtain⟨r,f⟩:=JG b x k (Z0:i+1<=P b.g.nodes);grind [U1]
def Z10(C:Placed b x){i:Nat}(G:i<xq b.g.nodes)(z:Like b d)(w:qZ b x i d):qZ b x (i+1) (QD x d i):=by
 have R:(d.g.nodes[i]?).getD default=ZO b i:=by rw[z.g];rfl
 have T:(d.here[i]?).getD ⟨0,0⟩=ZE b i:=by rw[z.here];rfl
 have S:(d.old[i]?).getD ⟨0,0⟩=Y7 b i:=by rw[z.old];rfl
 unfold QD;simp only[R,T,S];have W:=C.here i G;have O:=C.old i G;have r:=λk=>Co b x k G;have j:∀k,YU b x k i=if(ZE b i).part=k then XT b (ZE b i) (ZO b i) (IntKind.i64.wrap (x.slack+i))else if(Y7 b i).part=k then(if(ZE b i).part=0 then XT b (Y7 b i) (ZO b i) 0 else VJ b (ZE b i) (ZO b i))else []:=λk=>rfl
 have P:=Ur b (ZE b i) (ZO b i) (IntKind.i64.wrap (x.slack+i));have Z:=Ur b (Y7 b i) (ZO b i) 0;have l3:=RP b (ZE b i) (ZO b i);have M:=GM z (ZE b i) (ZO b i) (IntKind.i64.wrap (x.slack+i));have Q:=GM z (Y7 b i) (ZO b i) 0;generalize ZE b i=p at*;generalize Y7 b i=o at*;generalize ZO b i=n at*;have L:1<=ZJ n:=by unfold ZJ;omega
 obtain⟨rfl,ko,a,N⟩|⟨hp,U⟩:=W
 ·
  have I:(o.part=3\/o.part=4)/\o.at_=(xq (X6 b x o.part i):Nat):=by
   obtain rfl|⟨h1,h2,_⟩:=O;grind;omega
  have D:Uj x d i n ⟨0,0⟩=d:=by unfold Uj;rw[if_neg Z1]
  have F:Uk d n ⟨0,0⟩ o=Wa d o n 0:=by unfold Uk;rw[if_pos ⟨Z0,rfl⟩]
  have A:∀q,U3 q ⟨0,0⟩ o=q:=λq=>by simp_all[U3,if_neg]
  rw[D,F,A];intro k t;have l:YU b x o.part i=XT b o n 0:=by rw[j,if_neg ZcN,if_pos rfl,if_pos rfl]
  have y:=r o.part;rw[l,Z]at y;unfold Wa;simp only;rw[BH Z0 t];by_cases a:k=o.part;rw[if_pos a,a,AE (w o.part Z0) Z0 rfl Z0,U1,l,Q];grind;rw[if_neg a,U1,j k,if_neg ZcN,if_neg (λh=>a h.symm),Zfp];exact w k t
 have J:¬p.part=0:=Z0;have D:Uj x d i n p=Wa d p n (IntKind.i64.wrap (x.slack+i)):=by unfold Uj;rw[if_pos Z0]
 have F:∀q,Uk q n p o=q:=λq=>by simp_all[Uk,if_neg]
 rw[D,F];have B:YU b x p.part i=XT b p n (IntKind.i64.wrap (x.slack+i)):=by rw[j,if_pos rfl]
 have K:=r p.part;rw[B,P]at K;have u:∀k:Int,1<=k/\k<=4->Zx (Wa d p n (IntKind.i64.wrap (x.slack+i))).h k=if k=p.part then X6 b x p.part (i+1)++List.replicate (xq (X6 b x p.part (xq b.g.nodes))- xq (X6 b x p.part (i+1))) 0 else Zx d.h k:=by
  intro k t;unfold Wa;simp only;rw[BH Z0 t];by_cases f:k=p.part;rw[if_pos f,if_pos f,AE (w p.part Z0) Z0 rfl Z0,U1,B,M];grind;simp_all
 have H:YE (Wa d p n (IntKind.i64.wrap (x.slack+i))).h p=YE b.h p:=by
  unfold YE;have:Zv (Wa d p n (IntKind.i64.wrap (x.slack+i))).h=Zv b.h:=by
   rw[<-z.lay];unfold Wa;simp only;refine Di ?_;rw[AE (w p.part Z0) Z0 rfl Z0,w p.part Z0,M];simp[P];omega
  rw[this]
 generalize Wa d p n (IntKind.i64.wrap (x.slack+i))=q at*;obtain rfl|⟨X,I,Y⟩:=O;have A:U3 q p ⟨0,0⟩=q:=by simp_all[U3,if_neg]
 rw[A];intro k t;rw[u k t];by_cases f:k=p.part;simp_all;rw[if_neg f,U1,j k,if_neg (λh=>f h.symm),if_neg ZcN,Zfp];exact w k t;have A:U3 q p o= {q with h:=Xr q.h o.part ((Zx q.h o.part).set o.at_.toNat (YE q.h p))}:=by unfold U3;rw[if_pos ⟨Z0,Z0⟩]
 rw[A];have l:YU b x o.part i=VJ b p n:=by rw[j,if_neg Z0,if_pos rfl,if_neg J]
 have y:=r o.part;rw[l,l3]at y;intro k t;simp only;rw[BH Z0 t,u o.part Z0,if_neg (Z0:¬o.part=p.part),w o.part Z0,H];by_cases a:k=o.part;rw[if_pos a,a,Z6Z Z0 L Z0,U1,l];grind [VJ];rw[if_neg a,u k t];by_cases f:k=p.part;simp_all;rw[if_neg f,U1,j k,if_neg (λh=>f h.symm),if_neg (λh=>a h.symm),Zfp];exact w k t
def Fb(a:Placed b x):∀i,i<=P b.g.nodes->qZ b x i (U4 x b i)
 |0,_=>by
  intro k f;rw[U4,a.zero k f];simp[X6]
 |i+1,h=>by
  rw[U4];exact Z10 a Z0 (Kg a.ok i Z0) (Fb a i Z0)
def Fa(a:Placed b x){k:Int}(f:1<=k/\k<=4):Zx (YH x b) k=X6 b x k (P b.g.nodes):=by
 have h:=Fb a (P b.g.nodes) (ZdU _) k f;rw[ZfJ,List.replicate_zero,Zfp]at h;rw[<-h];rfl
end
end
section
def RR(x:Rw)(c:Bool)(g:Gr)(i:Nat):Pl:=if WZ x i c=0 then⟨2,(Y3 x c g i).n2⟩else if WZ x i c=1 then⟨1,(Y3 x c g i).n1⟩else⟨0,0⟩
def J6(x:Rw)(c:Bool)(g:Gr)(i:Nat):Pl:=if(decide (0<WZ x i c)&&c)=xy then(if Wr x i then⟨4,(Y3 x c g i).n4⟩else⟨3,(Y3 x c g i).n3⟩)else⟨0,0⟩
def CR{x:Rw}{c:Bool}{g:Gr}(d:∀n∈g.nodes,ZJ n<=9):∀j,j<=P g.nodes->∀i,i<j->(Y3 x c g j).here[i]?=xk (RR x c g i)/\(Y3 x c g j).old[i]?=xk (J6 x c g i)
 |0,_,i,f=>Z0
 |j+1,l,i,f=>by
  obtain⟨_,_,h,k⟩:=Lf (x:=x) (cycle:=c) d j Z0;rw[Y3];simp only[Xc];by_cases a:i<j;have:=CR (x:=x) (c:=c) d j Z0 i a;rw[Zeq Z0,Zeq Z0];exact this;have:i=j:=Z0;subst this;rw[Zef Z0,Zef Z0,h,k,ZfJ];exact⟨rfl,rfl⟩
def nk(s:St8)(k:Int):Nat:=if k=1 then s.n1 else if k=2 then s.n2 else if k=3 then s.n3 else s.n4
section
variable {x:Rw}{c:Bool}
def CZ(x:Rw):∀n∈(ZX x.nodes x.roots).nodes,ZJ n<=9:=λn d=>by
 obtain⟨_,_,a⟩:=AZ x.nodes x.roots;have:=a n d;unfold ZJ;omega
def Rc(x:Rw)(c:Bool):(YT x c).g=ZX x.nodes x.roots:=rfl
def K3{i:Nat}(a:i< (ZX x.nodes x.roots).nodes.length):ZE (YT x c) i=RR x c (ZX x.nodes x.roots) i:=by
 unfold ZE;show((Y3 x c (ZX x.nodes x.roots) (ZX x.nodes x.roots).nodes.length).here[i]?).getD _=_;rw[(CR (CZ x) _ (ZdU _) i a).1];rfl
def yu{i:Nat}(a:i< (ZX x.nodes x.roots).nodes.length):Y7 (YT x c) i=J6 x c (ZX x.nodes x.roots) i:=by
 unfold Y7;show((Y3 x c (ZX x.nodes x.roots) (ZX x.nodes x.roots).nodes.length).old[i]?).getD _=_;rw[(CR (CZ x) _ (ZdU _) i a).2];rfl
def LN:∀i,i<=(ZX x.nodes x.roots).nodes.length->∀k:Int,1<=k/\k<=4->P (X6 (YT x c) x k i)=nk (Y3 x c (ZX x.nodes x.roots) i) k
 |0,_,k,f=>by simp[X6,Y3,nk]
 |i+1,p,k,f=>by
  have o:=LN i Z0 k f;rw[U1,ZeK,o];have l:ZO (YT x c) i=((ZX x.nodes x.roots).nodes[i]?).getD default:=rfl;unfold YU;rw[K3 (Z0:i< (ZX x.nodes x.roots).nodes.length),yu (Z0:i< (ZX x.nodes x.roots).nodes.length),l,Y3];generalize ((ZX x.nodes x.roots).nodes[i]?).getD default=n;have a:k=1\/k=2\/k=3\/k=4:=Z0;unfold RR J6;generalize Y3 x c (ZX x.nodes x.roots) i=s;obtain g|h|⟨j,rfl⟩:=SG x i c;obtain rfl|rfl|rfl|rfl:=a<;>simp[nk,Xc,g,Ur];cases c<;>cases d:Wr x i<;>obtain rfl|rfl|rfl|rfl:=a<;>simp[nk,Xc,h,d,Ur,RP]
  cases d:Wr x i<;>obtain rfl|rfl|rfl|rfl:=a<;>simp[nk,Xc,j,d,Ur,RP]
def NH(hx:x.ok):Placed (YT x c) x:=by
 refine⟨(Re hx c).1,λi a=> ?_,λi a=> ?_,λk g=> ?_⟩;rw[Rc]at a;rw[K3 a,yu a];have d:=λk g=>LN (x:=x) (c:=c) i Z0 k g;unfold RR J6;obtain j|h|⟨f,rfl⟩:=SG x i c;right;simp[j,d 2,nk];right;simp[h,d 1,nk];left;refine⟨by simp[f],?_⟩;cases n:Wr x i;exact⟨3,.inl rfl,by simp[f]⟩;exact⟨4,.inr rfl,by simp[f]⟩;rw[Rc]at a;rw[K3 a,yu a];have d:=λk g=>LN (x:=x) (c:=c) i Z0 k g;unfold RR J6;obtain j|h|⟨f,rfl⟩:=SG x i c;left;simp[j];cases c;left;simp;right;cases n:Wr x i;simp[h,d 3,nk];simp[h,d 4,nk];right;cases n:Wr x i;simp[f,d 3,nk];simp[f,d 4,nk];rw[Rc,LN _ (ZdU _) k g];have l:k=1\/k=2\/k=3\/k=4:=Z0;obtain rfl|rfl|rfl|rfl:=l<;>rfl
end
end
section
def Nv(h:Hp){k:Int}(d:1<=k/\k<=4):X0 (Zv h) k=P (Zx h k):=by
 have a:k=1\/k=2\/k=3\/k=4:=Z0;obtain rfl|rfl|rfl|rfl:=a<;>rfl
def Z7Z{s p:Int}(h:Yz s p=xy):ZS (Uv s p).1=(s,p,0):=by
 have a:=YM.1 h;unfold Uv;rw[if_pos h];unfold ZS;grind
theorem Z2U(h:Hp)(p:Pl):Uq (YE h p)=xy:=by
 unfold YE Uq;split;rfl;unfold XN;split;rfl;rename_i a;unfold adr;grind
theorem Z2V(b:Bt)(p:Pl)(to tw:Int):Uq (Vg b p to tw)=xy:=by
 unfold Vg;split;rfl;grind [Z2U]
def Qi{gone:Bool}{ptrs:Int}:∀ {l:Zc} {i:Nat},(∀(j:Nat) (w:Int),l[j]?=xk w->(gone=xy->w=0)/\(((i+j:Nat):Int)<ptrs->Uq w=xy))->XQ l gone ptrs i=xy
 | [],_,_=>rfl
 |w::l,i,h=>by
  obtain⟨f,g⟩:=h 0 w rfl;have d:XQ l gone ptrs (i+1)=xy:=Qi λj y a=>by
   have:=h (j+1) y a;grind
  rw[XQ,d];grind
theorem NI{b:Bt}{p:Pl}{n:Nd}{tw:Int}{F r:Zc}{old:Bool}(f:p.at_=(P F:Nat))(o:ZJ n<=9):Stands (F++XT b p n tw++r) old ⟨p.at_,(P n.ptrs:Int)+P n.data,P n.ptrs,xh,0⟩:=by
 have a:Yz ((P n.ptrs:Int)+P n.data) (P n.ptrs)=xy:=by
  unfold ZJ at o;exact YM.2 Z0
 have d:(F++XT b p n tw++r)[P F]?=xk (K1 n):=by
  rw[ZeH,Zef (ZdU _),ZfJ];rfl
 have t:=Z7Z a;refine⟨ZcO,a,?_,?_,K1 n,ZcO,?_⟩;grind [Ur,ZJ,List.length_append];simp only[f,Zee];have e:((F++XT b p n tw++r).drop (P F+1)).take ((P n.ptrs:Int)+P n.data).toNat=XP b p p.at_.toNat n.ptrs tw++n.data:=by
  have k:((P n.ptrs:Int)+P n.data).toNat=P (XP b p p.at_.toNat n.ptrs tw++n.data):=by simp[XP];omega
  rw[k,ZeH,ZhG,ZfC Z0,ZgJ,ZeR];have l:(XT b p n tw++r).drop 1=(XP b p p.at_.toNat n.ptrs tw++n.data)++r:=rfl;rw[l,Zgv]
 rw[e];refine Qi λj w d=>⟨Z1,λg=> ?_⟩;have h:j<P n.ptrs:=by simpa using g
 rw[Zeq (by simp_all[XP])]at d;simp only[XP,Zed,ZdR]at d;obtain⟨q,_,rfl⟩:=d;grind [Z2V];simp_all[Ze3,Zex,DO,K1,trivial]
def Z7y{b:Bt}{p o:Pl}{n:Nd}{F r:Zc}(a:o.at_=(P F:Nat))(q:ZJ n<=9)(l:(adr (YE b.h p)).2=0):Stands (F++VJ b p n++r) xy ⟨o.at_,(P n.ptrs:Int)+P n.data,P n.ptrs,xy,(adr (YE b.h p)).1⟩:=by
 have d:Yz ((P n.ptrs:Int)+P n.data) (P n.ptrs)=xy:=by
  unfold ZJ at q;exact YM.2 Z0
 have f:(F++VJ b p n++r)[P F]?=xk (YE b.h p):=by
  rw[ZeH,Zef (ZdU _),ZfJ];rfl
 refine⟨by show 0<=o.at_;omega,d,?_,?_,_,by rw[a];simpa using f,?_⟩;have:=RP b p n;unfold ZJ at this;simp only[ZeK,this,a];omega;simp only[a,Zee];have e:((F++VJ b p n++r).drop (P F+1)).take ((P n.ptrs:Int)+P n.data).toNat=List.replicate (ZJ n-1) 0:=by
  have g:((P n.ptrs:Int)+P n.data).toNat=P (List.replicate (ZJ n-1) (0:Int)):=by simp[ZJ];omega
  rw[g,ZeH,ZhG,ZfC Z0,ZgJ,ZeR];have k:(VJ b p n++r).drop 1=List.replicate (ZJ n-1) 0++r:=rfl;rw[k,Zgv]
 rw[e];refine Qi λj w f=> ?_;have:=(Zhn.1 (ZdW f)).2;subst this;exact⟨λ_=>rfl,λ_=>rfl⟩;simp only[ZeA];exact⟨trivial,l,trivial⟩
def Xj(b:Bt)(k:Int)(i:Nat):List Ob:=
 if(ZE b i).part=k then [⟨(ZE b i).at_,((ZO b i).ptrs.length:Int)+(ZO b i).data.length,(ZO b i).ptrs.length,xh,0⟩]
 else if(Y7 b i).part=k then(if(ZE b i).part=0 then [⟨(Y7 b i).at_,((ZO b i).ptrs.length:Int)+(ZO b i).data.length,(ZO b i).ptrs.length,xh,0⟩]
  else [⟨(Y7 b i).at_,((ZO b i).ptrs.length:Int)+(ZO b i).data.length,(ZO b i).ptrs.length,xy,(adr (YE b.h (ZE b i))).1⟩])
 else []
def obs(b:Bt)(k:Int):List Ob:=(List.range (P b.g.nodes)).flatMap (Xj b k)
section
variable {b:Bt}{x:Rw}
def Placed.nine(a:Placed b x)(d:∀n∈b.g.nodes,ZJ n<=9){i:Nat}(f:i<P b.g.nodes):ZJ (ZO b i)<=9:=by
 simp_all[ZO,ZdO,Ze5]
def Placed.len(a:Placed b x){k:Int}(d:1<=k/\k<=4):X0 (Zv b.h) k=(P (X6 b x k (P b.g.nodes)):Nat):=by
 rw[Nv b.h d,a.zero k d];simp
def Placed.here_in(a:Placed b x){i:Nat}(f:i<P b.g.nodes)(k:(ZE b i).part≠0):((ZE b i).part=1\/(ZE b i).part=2)/\(ZE b i).at_=(P (X6 b x (ZE b i).part i):Nat)/\(ZE b i).at_+ZJ (ZO b i)<=X0 (Zv b.h) (ZE b i).part:=by
 obtain⟨h,_⟩|⟨j,d⟩:=a.here i f;simp_all;refine⟨j,d,?_⟩;have:=Co b x (ZE b i).part f;rw[a.len Z0,d];have e:YU b x (ZE b i).part i=XT b (ZE b i) (ZO b i) (IntKind.i64.wrap (x.slack+i)):=by unfold YU;rw[if_pos rfl]
 grind [Ur]
def Placed.old_in(a:Placed b x){i:Nat}(d:i<P b.g.nodes)(o:(Y7 b i).part≠0):((Y7 b i).part=3\/(Y7 b i).part=4)/\(Y7 b i).at_=(P (X6 b x (Y7 b i).part i):Nat)/\(ZE b i).part≠2/\(Y7 b i).at_+ZJ (ZO b i)<=X0 (Zv b.h) (Y7 b i).part:=by
 obtain h|⟨k,f,l⟩:=a.old i d;simp_all;refine⟨k,f,l,?_⟩;have:=Co b x (Y7 b i).part d;rw[a.len Z0,f];have n:(ZE b i).part=0\/(ZE b i).part=1:=by
  by_cases j:(ZE b i).part=0;omega;have:=(a.here_in d j).1;omega
 have e:P (YU b x (Y7 b i).part i)=ZJ (ZO b i):=by
  unfold YU;rw[if_neg Z0,if_pos rfl];split;grind [Ur];exact RP _ _ _
 omega
def Placed.ref_here(a:Placed b x)(f:ZI (Zv b.h)=xy){i:Nat}(j:i<P b.g.nodes)(d:(ZE b i).part≠0):YE b.h (ZE b i)=ZT (Zv b.h) (ZE b i).part (ZE b i).at_:=by
 obtain⟨k,l,n⟩:=a.here_in j d;have o:1<=ZJ (ZO b i):=by grind [ZJ]
 unfold YE;rw[if_neg d,Rp f Z0 ⟨Z0,Z0⟩];have:=WG f (ZE b i).part;unfold XN ZT;grind
def Placed.ref_old(a:Placed b x)(f:ZI (Zv b.h)=xy){i:Nat}(j:i<P b.g.nodes)(d:(Y7 b i).part≠0):YE b.h (Y7 b i)=ZT (Zv b.h) (Y7 b i).part (Y7 b i).at_:=by
 obtain⟨k,l,_,n⟩:=a.old_in j d;have o:1<=ZJ (ZO b i):=by grind [ZJ]
 unfold YE;rw[if_neg d,Rp f Z0 ⟨Z0,Z0⟩];have:=WG f (Y7 b i).part;unfold XN ZT;grind
def I3(a:Placed b x)(z:ZI (Zv b.h)=xy)(C:∀n∈b.g.nodes,ZJ n<=9){k:Int}(F:1<=k/\k<=4):∀(m i:Nat),i+m=P b.g.nodes->Tiles (X6 b x k (P b.g.nodes)) (decide (2<k)) (P (X6 b x k i)) ((List.range' i m).flatMap (Xj b k))
 |0,i,D=>by
  have:i=P b.g.nodes:=Z0;subst this;exact ZdU _
 |m+1,i,D=>by
  have t:=I3 a z C F m (i+1) Z0;have d:i<P b.g.nodes:=Z0;have w:=a.nine C d;obtain⟨r,A⟩:=JG b x k (Z0:i+1<=P b.g.nodes);rw[List.range'_succ,Zhy];have B:=U1 b x k i;by_cases f:(ZE b i).part=k;have u:YU b x k i=XT b (ZE b i) (ZO b i) (IntKind.i64.wrap (x.slack+i)):=by unfold YU;rw[if_pos f]
  have q:Xj b k i=[⟨(ZE b i).at_,((ZO b i).ptrs.length:Int)+(ZO b i).data.length,(ZO b i).ptrs.length,xh,0⟩]:=by unfold Xj;rw[if_pos f]
  obtain⟨_,j,_⟩:=a.here_in d Z0;rw[f]at j;rw[q];refine⟨j,?_,?_⟩;grind [NI];rw[B,u,ZeK,Ur]at t;have:(((ZO b i).ptrs.length:Int)+(ZO b i).data.length).toNat=ZJ (ZO b i) -1:=by grind [ZJ]
  simp only[this];rw[show P (X6 b x k i)+1+(ZJ (ZO b i) -1)=P (X6 b x k i)+ZJ (ZO b i)by grind [ZJ]];exact t;by_cases l:(Y7 b i).part=k;obtain⟨G,j,H,I⟩:=a.old_in d Z0;have y:2<k:=Z0;rw[l]at j;have p:P (X6 b x k (i+1))=P (X6 b x k i)+1+(((ZO b i).ptrs.length:Int)+(ZO b i).data.length).toNat:=by
   have e:P (YU b x k i)=ZJ (ZO b i):=by
    unfold YU;rw[if_neg f,if_pos l];split;grind [Ur];exact RP _ _ _
   rw[B,ZeK,e];unfold ZJ;omega
  rw[p]at t;by_cases o:(ZE b i).part=0;have u:YU b x k i=XT b (Y7 b i) (ZO b i) 0:=by unfold YU;rw[if_neg f,if_pos l,if_pos o]
  have q:Xj b k i=[⟨(Y7 b i).at_,((ZO b i).ptrs.length:Int)+(ZO b i).data.length,(ZO b i).ptrs.length,xh,0⟩]:=by unfold Xj;rw[if_neg f,if_pos l,if_pos o]
  rw[q];refine⟨j,?_,t⟩;grind [NI];have u:YU b x k i=VJ b (ZE b i) (ZO b i):=by unfold YU;rw[if_neg f,if_pos l,if_neg o]
  have q:Xj b k i=[⟨(Y7 b i).at_,((ZO b i).ptrs.length:Int)+(ZO b i).data.length,(ZO b i).ptrs.length,xy,(adr (YE b.h (ZE b i))).1⟩]:=by unfold Xj;rw[if_neg f,if_pos l,if_neg o]
  rw[q];refine⟨j,?_,t⟩;rw[A,B,u,decide_eq_true y];refine Z7y j w ?_;obtain⟨J,K,_⟩:=a.here_in d o;rw[a.ref_here z d o,T9 z Z0];simp_all[YU,if_neg,Xj,ZeR,Zfp]
def Z4g(a:Placed b x)(j:ZI (Zv b.h)=xy)(f:∀n∈b.g.nodes,ZJ n<=9){k:Int}(d:1<=k/\k<=4):Tiles (Zx (YH x b) k) (decide (2<k)) 0 (obs b k):=by
 rw[Fa a d];have:=I3 a j f d (P b.g.nodes) 0 Z0;unfold obs;rw[List.range_eq_range'];exact this
def QX{k:Int}{o:Ob}:o∈obs b k↔ ∃i,i<P b.g.nodes/\o∈Xj b k i:=by
 grind [obs]
end
end
section
structure Made (b:Bt) (x:Rw):Prop where
 pl:Placed b x
 lay:ZI (Zv b.h)=xy
 nine:∀n∈b.g.nodes,ZJ n<=9
 cyc:b.h.cycle=xy->∀i,i<P b.g.nodes->(ZE b i).part=1->(Y7 b i).part≠0
 scan:0<=b.h.scan/\b.h.scan<=P b.h.low/\(if b.h.cycle then b.h.scan<(P b.h.low) else b.h.scan=P b.h.low/\b.h.old=[]/\b.h.far=[])
 room:(P b.h.low:Int)+P b.h.high+((Ys (obs b 3)+Ys (obs b 4):Nat):Int)<=b.h.cap
 fit:Yt b.h.scan
def Q8(b:Bt):Pts:=⟨obs b 1,obs b 2,obs b 3,obs b 4⟩
theorem C6(b:Bt){k:Int}(d:1<=k/\k<=4):(Q8 b).at k=obs b k:=by
 have a:k=1\/k=2\/k=3\/k=4:=Z0;obtain rfl|rfl|rfl|rfl:=a<;>rfl
section
variable {b:Bt}{x:Rw}
def Made.fill(m:Made b x):(YH x b).ok/\Zv (YH x b)=Zv b.h/\(YH x b).scan=b.h.scan/\(YH x b).cycle=b.h.cycle:=jL m.pl.ok m.fit
def Made.tiles(m:Made b x){k:Int}(a:1<=k/\k<=4):Tiles (Zx (YH x b) k) (decide (2<k)) 0 (obs b k):=Z4g m.pl m.lay m.nine a
def Made.start(m:Made b x){k a:Int}(f:1<=k/\k<=4)(d:0<=a/\a<X0 (Zv b.h) k):X1 (YH x b) k a=ZB (Zv b.h) k+a:=by
 unfold X1;rw[m.fill.2.1,Rp m.lay f d]
def qC(n:Nd):1<=ZJ n:=by grind [ZJ]
def Made.ob_here(m:Made b x){i:Nat}(a:i<P b.g.nodes)(d:(ZE b i).part≠0):∃o∈obs b (ZE b i).part,o.at_=(ZE b i).at_/\o.size=((ZO b i).ptrs.length:Int)+(ZO b i).data.length/\o.ptrs=(ZO b i).ptrs.length/\o.gone=xh:=
 ⟨_,QX.2 ⟨i,a,by unfold Xj;rw[if_pos rfl];exact .head _⟩,rfl,rfl,rfl,rfl⟩
def Made.ob_old(m:Made b x){i:Nat}(f:i<P b.g.nodes)(h:(Y7 b i).part≠0):∃o∈obs b (Y7 b i).part,o.at_=(Y7 b i).at_:=by
 obtain⟨j,k,l,n⟩:=m.pl.old_in f h;have a:¬(ZE b i).part=(Y7 b i).part:=by
  by_cases d:(ZE b i).part=0;omega;have:=(m.pl.here_in f d).1;omega
 by_cases d:(ZE b i).part=0;exact⟨_,QX.2 ⟨i,f,by unfold Xj;rw[if_neg a,if_pos rfl,if_pos d];exact .head _⟩,rfl⟩;exact⟨_,QX.2 ⟨i,f,by unfold Xj;rw[if_neg a,if_pos rfl,if_neg d];exact .head _⟩,rfl⟩
def Made.to_here(m:Made b x){i:Nat}(d:i<P b.g.nodes):Xz (YH x b) (Q8 b) (YE b.h (ZE b i)) 1 2=xy:=by
 by_cases a:(ZE b i).part=0;simp_all[YE,ZE,if_pos,Xz];obtain⟨k,l,n⟩:=m.pl.here_in d a;have p:=qC (ZO b i);obtain⟨o,j,f,_⟩:=m.ob_here d a;rw[m.pl.ref_here m.lay d a];unfold Xz;rw[T9 m.lay Z0];have:(Yx (YH x b) (ZE b i).part (obs b (ZE b i).part) (ZB (Zv b.h) (ZE b i).part+(ZE b i).at_)).isSome=xy:=by
  refine jk.2 ⟨o,j,?_⟩;rw[f,m.start Z0 ⟨Z0,Z0⟩]
 grind [C6]
def Made.to_old(m:Made b x){i:Nat}(d:i<P b.g.nodes):Xz (YH x b) (Q8 b) (YE b.h (Y7 b i)) 3 4=xy:=by
 by_cases a:(Y7 b i).part=0;simp_all[YE,Y7,if_pos,Xz];obtain⟨k,l,_,n⟩:=m.pl.old_in d a;have p:=qC (ZO b i);obtain⟨o,j,f⟩:=m.ob_old d a;rw[m.pl.ref_old m.lay d a];unfold Xz;rw[T9 m.lay Z0];have:(Yx (YH x b) (Y7 b i).part (obs b (Y7 b i).part) (ZB (Zv b.h) (Y7 b i).part+(Y7 b i).at_)).isSome=xy:=by
  refine jk.2 ⟨o,j,?_⟩;rw[f,m.start Z0 ⟨Z0,Z0⟩]
 grind [C6]
def Made.same_at(m:Made b x){k:Int}(j:1<=k/\k<=4){o q:Ob}(f:o∈obs b k)(g:q∈obs b k)(h:q.at_=o.at_):q=o:=by
 have d:=m.tiles j;obtain a|a|a:=d.apart q g o f;exact a;have:=YM.1 (d.stands q g).1.shape;omega;have:=YM.1 (d.stands o f).1.shape;omega
def Made.ob_in(m:Made b x){k:Int}(d:1<=k/\k<=4){o:Ob}(f:o∈obs b k):0<=o.at_/\o.at_<X0 (Zv b.h) k:=by
 have a:=((m.tiles d).stands o f).1;have g:=YM.1 a.shape;have j:=a.fits;have l:=a.nat;have:X0 (Zv b.h) k=P (Zx (YH x b) k):=by rw[<-m.fill.2.1,Nv _ d]
 omega
def Made.find(m:Made b x){k:Int}(a:1<=k/\k<=4){o:Ob}(d:o∈obs b k):Yx (YH x b) k (obs b k) (ZB (Zv b.h) k+o.at_)=xk o:=by
 rw[<-m.start a (m.ob_in a d)];refine El d λq f e=>m.same_at a d f ?_;rw[m.start a (m.ob_in a d),m.start a (m.ob_in a f)]at e;omega
def Z3y{k:Int}{i:Nat}{o:Ob}(h:o∈Xj b k i)(a:o.gone=xy):¬(ZE b i).part=k/\(Y7 b i).part=k/\¬(ZE b i).part=0/\o=⟨(Y7 b i).at_,((ZO b i).ptrs.length:Int)+(ZO b i).data.length,(ZO b i).ptrs.length,xy,(adr (YE b.h (ZE b i))).1⟩:=by
 grind [Xj]
def Made.gone(m:Made b x){k:Int}(y:3<=k/\k<=4):Qr (YH x b) (obs b 1) (obs b k):=by
 intro o n j;obtain⟨i,d,g⟩:=QX.1 n;obtain⟨u,w,f,rfl⟩:=Z3y g j;obtain⟨z,A,B⟩:=m.pl.here_in d f;have l:=(m.pl.old_in d Z0).2.2.1;have a:(ZE b i).part=1:=Z0;obtain⟨q,h,p,r,t,_⟩:=m.ob_here d f;rw[a]at h;refine⟨q,?_,r,t⟩;simp only;rw[m.pl.ref_here m.lay d f,T9 m.lay Z0,a,<-p];exact m.find Z0 h
def Made.parts(m:Made b x):XD (YH x b)=xk (Q8 b):=
 Md (m.tiles (k:=1) Z0) (m.tiles (k:=2) Z0) (m.tiles (k:=3) Z0) (m.tiles (k:=4) Z0) (m.gone Z0) (m.gone Z0)
def NP(l r:Zn)(a:Int):X2 (l++r) a=X2 l a+X2 r a:=by simp[X2]
def NS(b:Bt)(k:Int)(j:Nat)(a:Int):X2 (Xj b k j) a=if ¬(ZE b j).part=k/\(Y7 b j).part=k/\¬(ZE b j).part=0/\(adr (YE b.h (ZE b j))).1=a then 1 else 0:=by
 unfold Xj;by_cases d:(ZE b j).part=k;simp_all[if_pos,if_neg,X2];rw[if_neg d];by_cases f:(Y7 b j).part=k;rw[if_pos f];by_cases g:(ZE b j).part=0;simp_all[if_pos,if_neg,X2];rw[if_neg g];by_cases l:(adr (YE b.h (ZE b j))).1=a;simp_all[if_pos,X2];simp_all[if_neg,X2];simp_all[if_neg,X2]
def Made.once(m:Made b x)(hc:b.h.cycle=xy){i:Nat}(n:i<P b.g.nodes)(q:(ZE b i).part=1):UB (Q8 b) (ZB (Zv b.h) 1+(ZE b i).at_)=1:=by
 have key:∀j,j<=P b.g.nodes->X2 ((List.range j).flatMap (Xj b 3)) (ZB (Zv b.h) 1+(ZE b i).at_)+X2 ((List.range j).flatMap (Xj b 4)) (ZB (Zv b.h) 1+(ZE b i).at_)=if i<j then 1 else 0:=by
  intro j;induction j with
  |zero=>grind [X2]
  |succ j t=>
   intro G;have t:=t Z0;have a:j<P b.g.nodes:=Z0;rw[Zg9,ZfM,ZfM,NP,NP];simp only[Zhy,List.flatMap_nil,Zfp];have p:X2 (Xj b 3 j) (ZB (Zv b.h) 1+(ZE b i).at_)+X2 (Xj b 4 j) (ZB (Zv b.h) 1+(ZE b i).at_)=if j=i then 1 else 0:=by
    rw[NS,NS];by_cases l:(ZE b j).part=0;grind;obtain⟨H,C,I⟩:=m.pl.here_in a l;by_cases d:(ZE b j).part=1;have y:=m.cyc hc j a d;obtain⟨v1,_⟩:=m.pl.old_in a y;have B:(adr (YE b.h (ZE b j))).1=ZB (Zv b.h) 1+(ZE b j).at_:=by rw[m.pl.ref_here m.lay a l,T9 m.lay Z0,d]
    have heq:(ZB (Zv b.h) 1+(ZE b j).at_=ZB (Zv b.h) 1+(ZE b i).at_)↔j=i:=by
     constructor;intro e;obtain⟨w1,w2,w3⟩:=m.pl.here_in n Z0;rw[d]at C;rw[q]at w2;have z:=qC (ZO b i);have A:=qC (ZO b j);have D:P (YU b x 1 i)=ZJ (ZO b i):=by unfold YU;rw[if_pos q];exact Ur _ _ _ _
     have F:P (YU b x 1 j)=ZJ (ZO b j):=by unfold YU;rw[if_pos d];exact Ur _ _ _ _
     by_cases w:j<i;obtain⟨r,k⟩:=JG b x 1 (Z0:j+1<=i);rw[U1]at k;grind;by_cases u:i<j;obtain⟨r,k⟩:=JG b x 1 (Z0:i+1<=j);rw[U1]at k;grind;omega;simp_all
    grind;have f:(ZE b j).part=2:=Z0;have o:(Y7 b j).part=0:=by
     by_cases h:(Y7 b j).part=0;exact h;exact absurd f (m.pl.old_in a h).2.2.1
    grind
   grind
 have:=key (P b.g.nodes) (ZdU _);rw[if_pos n]at this;exact this
end
end
section
section
variable {b:Bt}{x:Rw}
def Made.word(m:Made b x){k:Int}(a:1<=k/\k<=4){i t:Nat}(d:i<P b.g.nodes)(h:t< P (YU b x k i)):(Zx (YH x b) k)[P (X6 b x k i)+t]?=(YU b x k i)[t]? :=by
 rw[Fa m.pl a];obtain⟨r,f⟩:=JG b x k (Z0:i+1<=P b.g.nodes);simp_all[U1,ZeH,Zef,ZgJ,Zeq]
def GN{p:Pl}{n:Nd}{tw:Int}{j:Nat}(a:j<P n.ptrs):∃q∈n.ptrs,(XT b p n tw)[1+j]?=xk (Vg b ⟨p.part,((p.at_.toNat+1+j:Nat):Int)⟩ q (IntKind.i64.wrap (tw+j))):=by
 refine⟨n.ptrs[j],Ze5 a,?_⟩;simp_all[XT,ZgY,ZgF,Zeq,XP]
theorem A9(h:Hp)(p:Pts)(k j:Int):Xz h p 0 k j=xy:=ZdJ
def Made.ptr_ok(m:Made b x)(r:∀n∈b.g.nodes,∀q∈n.ptrs,-1<=q/\q< (P b.g.nodes:Int)){i:Nat}(y:i<P b.g.nodes){k:Int}{p:Pl}(o:p.part=k){a:Nat}{d tw:Int}(f:d∈(ZO b i).ptrs)(u:((Zx (YH x b) k)[a]?).getD 0=Vg b ⟨p.part,(a:Int)⟩ d tw):Uc (YH x b) (Q8 b) k a=xy:=by
 have w:=r (ZO b i) (by simp_all[ZO,ZdO,Ze5]) d f;unfold Uc;simp only[u];unfold Vg;rw[o];by_cases l:d<0;simp_all[if_pos,A9];obtain⟨t,rfl⟩:=Zea (Z0:0<=d);have j:t<P b.g.nodes:=Z0;rw[if_neg l];have g1:=m.to_here (i:=t) j;have g2:=m.to_old (i:=t) j;unfold ZE at g1;unfold Y7 at g2;simp only[Zee];by_cases h:2<k;simp_all;rw[if_neg h,if_neg h];rw[m.fill.2.2.1];grind
def Made.ptrs(m:Made b x)(C:∀n∈b.g.nodes,∀q∈n.ptrs,-1<=q/\q< (P b.g.nodes:Int)){k:Int}(u:1<=k/\k<=4):Wx (YH x b) (Q8 b) k=xy:=by
 unfold Wx;rw[C6 b u,ZdZ];intro o D;obtain⟨i,d,a⟩:=QX.1 D;unfold ym;rw[ZdZ];intro j h;rw[Zg5]at h;unfold Xj at a;split at a;rename_i f;simp at a;subst a;simp only[Zee]at h;obtain⟨_,B,_⟩:=m.pl.here_in d Z0;rw[f]at B;have r:YU b x k i=XT b (ZE b i) (ZO b i) (IntKind.i64.wrap (x.slack+i)):=by unfold YU;rw[if_pos f]
 obtain⟨q,z,A⟩:=GN (b:=b) (p:=ZE b i) (tw:=IntKind.i64.wrap (x.slack+i)) h;have w:=m.word u d (t:=1+j) ZcN;rw[r,A]at w;simp only;refine m.ptr_ok C d f (tw:=IntKind.i64.wrap (IntKind.i64.wrap (x.slack+i)+j)) z ?_;grind;rename_i f;split at a;rename_i l;obtain⟨_,B,_⟩:=m.pl.old_in d Z0;rw[l]at B;split at a;rename_i y;simp at a;subst a;simp only[Zee]at h;have r:YU b x k i=XT b (Y7 b i) (ZO b i) 0:=by unfold YU;rw[if_neg f,if_pos l,if_pos y]
 obtain⟨q,z,A⟩:=GN (b:=b) (p:=Y7 b i) (tw:=0) h;have w:=m.word u d (t:=1+j) ZcN;rw[r,A]at w;simp only;refine m.ptr_ok C d l (tw:=IntKind.i64.wrap (0+j)) z ?_;grind;rename_i y;simp at a;subst a;simp only[Zee]at h;have r:YU b x k i=VJ b (ZE b i) (ZO b i):=by unfold YU;rw[if_neg f,if_pos l,if_neg y]
 have w:=m.word u d (t:=1+j) (by grind [RP,ZJ]);have F:(VJ b (ZE b i) (ZO b i))[1+j]?=xk 0:=by
  unfold VJ;rw[ZgY 1 j,ZgF,List.getElem?_replicate,if_pos (by grind [ZJ])]
 grind [Uc,Int.toNat_natCast,X6,A9];grind
theorem Made.right(m:Made b x)(z:∀n∈b.g.nodes,∀q∈n.ptrs,-1<=q/\q< (P b.g.nodes:Int)):YS (YH x b)=xy:=by
 have j:=m.fill.2.1;have a:(YH x b).low.length=P b.h.low:=by have:=ZeY Ly.low j;simp only[Zv]at this;omega
 have d:(YH x b).high.length=P b.h.high:=by have:=ZeY Ly.high j;simp only[Zv]at this;omega
 have u:(YH x b).old.length=P b.h.old:=by have:=ZeY Ly.old j;simp only[Zv]at this;omega
 have p:(YH x b).far.length=P b.h.far:=by have:=ZeY Ly.far j;simp only[Zv]at this;omega
 have l:(YH x b).cap=b.h.cap:=ZeY Ly.cap j;refine N0 ?_ m.parts ?_;unfold Tr;have M:=m.scan;have y:=m.pl.ok.rl;have K:(YH x b).roots.length<=5:=by simp only[YH,Zem];exact y
 rw[j,m.lay,m.fill.2.2.1,m.fill.2.2.2,a,u,p];grind;unfold Sm;simp only[ZdS,Ze9];refine⟨⟨⟨⟨⟨⟨?_,?_⟩,m.ptrs z Z0⟩,m.ptrs z Z0⟩,m.ptrs z Z0⟩,m.ptrs z Z0⟩,?_⟩;rw[m.fill.2.2.2];cases I:b.h.cycle;rfl;simp only[ZgD,Zgl,ZdZ];intro o G;obtain⟨i,F,f⟩:=QX.1 G;have D:(ZE b i).part=1/\o.at_=(ZE b i).at_:=by
  unfold Xj at f;split at f;simp_all;split at f;rename_i L;have:=(m.pl.old_in F Z0).1;omega;grind
 have A:=m.ob_in (k:=1) Z0 G;unfold Rg;rw[m.start Z0 A,D.2,Ze9];exact m.once I F D.1;rw[ZdZ];intro w H;simp only[YH,Ze4]at H;obtain⟨r,J,rfl⟩:=H;have y:=m.pl.ok.rts r J;by_cases C:0<=r;rw[if_pos C];have B:=Kg (x:=x) m.pl.ok (P b.g.nodes) (ZdU _);rw[Cg B];obtain⟨t,rfl⟩:=Zea C;exact m.to_here (i:=t) Z0;simp_all[if_neg,A9];rw[a,d,l];exact m.room
end
end
section
def OD(l r:Zn):Ys (l++r)=Ys l+Ys r:=by simp[Ys]
section
variable {x:Rw}{c:Bool}
def Z8y{b:Bt}(f:Placed b x){i:Nat}(p:i<P b.g.nodes):Ys (Xj b 3 i)+Ys (Xj b 4 i)=if(ZE b i).part=0 then ZJ (ZO b i)else 0:=by
 have q:((1:Nat)+(((ZO b i).ptrs.length:Int)+(ZO b i).data.length).toNat)=ZJ (ZO b i):=by unfold ZJ;omega
 obtain⟨l,k,a,d⟩|⟨l,_⟩:=f.here i p;have j:(ZE b i).part=0:=by rw[l]
 rw[if_pos j];obtain rfl|rfl:=a<;>simp[Xj,j,d,Ys,WX,q];have h:¬(ZE b i).part=0:=Z0;have n:¬(ZE b i).part=3:=Z0;have o:¬(ZE b i).part=4:=Z0;have:∀k:Int,¬(ZE b i).part=k->Ys (Xj b k i)=0:=λk a=>by
  unfold Xj;rw[if_neg a,if_neg h];split<;>simp[Ys,WX]
 rw[if_neg h,this 3 n,this 4 o]
def OH(hx:x.ok):∀j,j<=(ZX x.nodes x.roots).nodes.length->Ys ((List.range j).flatMap (Xj (YT x c) 3))+Ys ((List.range j).flatMap (Xj (YT x c) 4))=(Y3 x c (ZX x.nodes x.roots) j).wt
 |0,_=>rfl
 |j+1,g=>by
  have h:=OH hx j Z0;have a:=Z8y (NH (c:=c) hx) (i:=j) (by rw[Rc];omega);rw[K3 Z0]at a;have f:ZO (YT x c) j=((ZX x.nodes x.roots).nodes[j]?).getD default:=rfl;rw[f]at a;rw[Zg9,ZfM,ZfM,OD,OD,Y3];simp only[Zhy,List.flatMap_nil,Zfp];generalize ((ZX x.nodes x.roots).nodes[j]?).getD default=n at*;unfold RR at a;simp only[Xc];obtain d|d|⟨d,rfl⟩:=SG x j c;simp[d]at a⊢;omega;simp[d]at a⊢;omega;simp[d]at a⊢;omega
def Z3F(x:Rw)(c:Bool):∀n∈(YT x c).g.nodes,∀q∈n.ptrs,-1<=q/\q< ((YT x c).g.nodes.length:Int):=by
 rw[Rc];exact Hk x.nodes x.roots
def Hy(hc:c=xh):∀j,(Y3 x c (ZX x.nodes x.roots) j).n3=0/\(Y3 x c (ZX x.nodes x.roots) j).n4=0
 |0=>⟨rfl,rfl⟩
 |j+1=>by
  have:=Hy hc j;subst hc;simpa[Y3,Xc]using this
def Z3p(hx:x.ok)(hc:c=xy->(YT x xy).h.low.length≠0):Made (YT x c) x:=by
 obtain⟨k1,y,z⟩:=Re hx c;refine⟨NH hx,z,?_,?_,?_,?_,y⟩;rw[Rc];exact CZ x;intro a i l j;have k:c=xy:=a;subst k;rw[Rc]at l;rw[K3 l]at j;rw[yu l];unfold RR at j;unfold J6;obtain f|f|⟨f,_⟩:=SG x i xy;simp[f]at j;simp[f];cases Wr x i<;>simp;simp[f]at j;have d:(YT x c).h.low.length=(Y3 x c (ZX x.nodes x.roots) (ZX x.nodes x.roots).nodes.length).n1:=by simp[YT]
 cases c;obtain⟨p,q⟩:=Hy (x:=x) (c:=xh) rfl (ZX x.nodes x.roots).nodes.length;rw[d];have o:(YT x xh).h.scan=((Y3 x xh (ZX x.nodes x.roots) (ZX x.nodes x.roots).nodes.length).n1:Int):=by simp[YT]
 have a:(YT x xh).h.cycle=xh:=rfl;rw[o,a];simp only[Ze3,Zex];refine⟨Z0,Z0,trivial,?_,?_⟩<;>simp[YT,p,q];have f:=hc rfl;rw[d]at f;rw[d];have o:(YT x xy).h.scan=pick x.scan (Y3 x xy (ZX x.nodes x.roots) (ZX x.nodes x.roots).nodes.length).n1:=by
  simp only[YT];rw[if_pos ⟨trivial,Z0⟩]
 have a:(YT x xy).h.cycle=xy:=rfl;have u:=Tx (c:=x.scan) (n:=((Y3 x xy (ZX x.nodes x.roots) (ZX x.nodes x.roots).nodes.length).n1:Int)) Z0;rw[o,a];simp only[ZeA];omega;have w:=OH (c:=c) hx (ZX x.nodes x.roots).nodes.length (ZdU _);have t:(YT x c).h.low.length=(Y3 x c (ZX x.nodes x.roots) (ZX x.nodes x.roots).nodes.length).n1:=by simp[YT]
 have r:(YT x c).h.high.length=(Y3 x c (ZX x.nodes x.roots) (ZX x.nodes x.roots).nodes.length).n2:=by simp[YT]
 have g:(YT x c).h.cap=max (((Y3 x c (ZX x.nodes x.roots) (ZX x.nodes x.roots).nodes.length).n1:Int)+(Y3 x c (ZX x.nodes x.roots) (ZX x.nodes x.roots).nodes.length).n2+(Y3 x c (ZX x.nodes x.roots) (ZX x.nodes x.roots).nodes.length).wt) (((Y3 x c (ZX x.nodes x.roots) (ZX x.nodes x.roots).nodes.length).n3:Int)+(Y3 x c (ZX x.nodes x.roots) (ZX x.nodes x.roots).nodes.length).n4)+pick x.slack 12:=rfl;have u:=Tx (c:=x.slack) (n:=12) Z0;unfold obs;rw[Rc,w,t,r,g];omega
def Z7J(hx:x.ok):Made (YT x xh) x:=Z3p hx Z1
def Z7L(hx:x.ok):YS (Rf x)=xy:=(Z7J hx).right (Z3F x xh)
def Z7K(hx:x.ok):(Rf x).ok/\(Rf x).cycle=xh/\(Rf x).roots.length<=5:=
 ⟨(jL (Re hx xh).1 (Re hx xh).2.1).1,(jL (Re hx xh).1 (Re hx xh).2.1).2.2.2,by
   have:=(Re hx xh).1.rl;simp only[Rf,YH,Zem];exact this⟩
end
end
section
def Z42(l:List Nd):NoM (.sl (l.map Yj)):=by
 have h:=Bc ⟨l,[]⟩;unfold Yl at h;cases h with
 |agg _ h=>exact h _ Z1
def Z43(x:Rw):NoM (WC x):=.agg _ λc a=>by
 simp only[Zec,Zfk,ZgT]at a;obtain rfl|rfl|rfl|rfl|rfl|rfl|rfl:=a;all_goals first|exact .int _ _|exact Z42 _|exact Z41 _
def Z40(g:Hp)(e:Int):NoM (.tup [ZQ g,vi e]):=.tup _ λc a=>by
 simp only[Zec,Zfk,ZgT]at a;obtain rfl|rfl:=a;exact J0 _;exact .int _ _
def OU{h:Hp}{p:Pts}(a:h.ok)(r:Rt h p):VC (YK Try.prog) 25 xh [ZQ h] (.bool xy):=by
 have:=up (Lr a) (yh (J0 h)) (.bool _);rwa[r.right]at this
def OX{h:Hp}(a:h.ok):VC (YK Try.prog) 22 xh [ZQ h] (vi (Jq h)):=up (OY a) (yh (J0 h)) (.int _ _)
section
variable {h:Hp}{p:Pts}
def Rt.vg_right(r:Rt h p):Vm.right (vg h)=xy:=r.view_right r.nroots r.roots
def Rt.ofG(r:Rt h p):ofG h=(YL (vg h),0):=if_pos ⟨r.right,r.vg_right⟩
end
instance fitViewLive:FitF (YK Try.prog) 4:=zh (P:=Try.prog) Try.func4 rfl Z2
end
def qG{gone:Bool}{ptrs:Int}:∀ {l:Zc} {i:Nat},XQ l gone ptrs i=xy->∀(j:Nat) (w:Int),l[j]?=xk w->(gone=xy->w=0)/\(((i+j:Nat):Int)<ptrs->Uq w=xy)
 | [],_,_,j,w,a=>by simp at a
 |y::l,i,d,j,w,a=>by
  simp only[XQ,ZdS]at d;cases j with
  |zero=>
   simp at a;subst a;obtain⟨⟨f,g⟩,_⟩:=d;refine⟨λh=> ?_,λk=> ?_⟩;rw[h]at f;simpa using f;simpa[show(i:Int)<ptrs by omega]using g
  |succ j=>
   have:=qG d.2 j w (by simpa using a);rw[show i+1+j=i+(j+1)by omega]at this;exact this
def Stands.congr{ws a:Zc}{old:Bool}{o:Ob}(s:Stands ws old o)(n:P a=P ws)(k:a[o.at_.toNat]?=ws[o.at_.toNat]?)
  (g:∀j:Nat,(j:Int)<o.size->a[o.at_.toNat+1+j]?=ws[o.at_.toNat+1+j]? \/(o.gone=xh/\o.ptrs<=j)):Stands a old o:=by
 refine⟨s.nat,s.shape,by rw[n];exact s.fits,Qi λj w f=> ?_,by rw[k];exact s.word⟩;have d:j<o.size.toNat:=by
  have:=(ZdQ.1 f).1;simp at this;omega
 rw[ZeQ d,Zep]at f;obtain g|⟨l,p⟩:=g j Z0;rw[g]at f;refine qG s.slots j w ?_;rw[ZeQ d,Zep];exact f;exact⟨λh=>(by rw[l]at h;cases h),λh=>Z0⟩
section
section
variable {h:Hp}{p:Pts}
def A1(r:Rt h p){q g:Nat}(l:q<4)(f:g<4){o k:Ob}(j:o∈obP h q)(d:k∈obP h g)(a:q≠g\/o.at_≠k.at_):(Ya h q o).ad≠(Ya h g k).ad:=by
 intro e;rw[SO r l j,SO r f d]at e;rw[r.obQ l]at j;rw[r.obQ f]at d;obtain⟨t,n⟩:=r.toTld.inj Z0 Z0 j d (by unfold ZT;omega);obtain a|a:=a;omega;rw[n]at a;exact a rfl
def FA(r:Rt h p):∀n q,q+n<=4->(Xf h n q).Pairwise λf g=>f.ad≠g.ad
 |0,q,_=>.nil
 |n+1,q,A=>by
  simp only[Xf];refine List.pairwise_append.2 ⟨?_,FA r n (q+1) Z0,λf t g u=> ?_⟩;rw[ZhA];have d:=(r.tiles ((q:Int)+1) Z0).pairwise;rw[<-r.obQ Z0]at d;exact d.imp_of_mem λj l w=>A1 r Z0 Z0 j l (.inr Z0);obtain⟨o,x,rfl⟩:=Ze4.1 t;obtain⟨k,B,y,z,a,rfl⟩:=RJ u;exact A1 r Z0 Z0 x a (.inl Z0)
def Z49(r:Rt h p){i j:Nat}{f g:Fo}(q:(Y6 h).ns[i]?=xk f)(t:(Y6 h).ns[j]?=xk g)(e:f.ad=g.ad):i=j:=by
 have d:(Y6 h).ns.Pairwise λf g=>f.ad≠g.ad:=by
  rw[Dd];exact(FA r 4 0 Z0).filter _
 have d:=List.pairwise_iff_getElem.1 d;obtain⟨k,l⟩:=ZdQ.1 q;obtain⟨n,o⟩:=ZdQ.1 t;obtain a|a|a:=Nat.lt_trichotomy j i;exact(d j i n k a (by rw[l,o,e])).elim;exact a.symm;exact(d i j k n a (by rw[l,o,e])).elim
end
end
section
def TA(h:Hp)(w:Int):Int:=(Y1 (Y6 h).tm (adr w).1).getD (adr w).1
def NU(h:Hp){w:Int}(a:w≠0):(Y6 h).toA w=(Y1 (Y6 h).nm (TA h w)).getD 0:=by
 unfold Vw.toA TA;rw[if_neg a]
section
variable {h g:Hp}{p q:Pts}
def qi(r:Rt h p){f:Fo}(j:f∈Xf h 4 0)(k:f.ob.gone=xh){w:Int}(d:(adr w).1=f.ad):TA h w=f.ad:=by
 have:Y1 (Y6 h).tm f.ad=xw:=by
  cases l:Y1 (Y6 h).tm f.ad with
  |none=>rfl
  |some t=>
   obtain⟨x,k1,a,n,_⟩:=(Sv h).t1 _ _ l;rw[QJ r k1 j n,k]at a;cases a
 unfold TA;rw[d,this,ZhL]
def Cs(r:Rt h p){f:Fo}(a:f∈Xf h 4 0)(k:f.ob.gone=xy){w:Int}(j:(adr w).1=f.ad):TA h w=f.ob.target:=by
 obtain⟨t,e⟩:=ZeW.1 ((Sv h).t2 f a k);obtain⟨x,k1,n,l,d⟩:=(Sv h).t1 _ _ e;rw[QJ r k1 a l]at d;unfold TA;rw[j,e,Zei,d]
def Qn{α:Type}(R:α->α->Prop):List α->List α->Prop
 | [],[]=>True
 |a::l,b::m=>R a b/\Qn R l m
 |_,_=>False
def DP{α:Type}{R:α->α->Prop}:∀ {l m:List α},P m=P l->(∀(j:Nat) (a b:α),l[j]?=xk a->m[j]?=xk b->R a b)->Qn R l m
 | [],[],_,_=>trivial
 |a::l,b::m,d,h=>⟨h 0 a b rfl rfl,DP Zd8 λj x y f k=>h (j+1) x y Zd9 (by simpa using k)⟩
 | [],_::_,d,_=>ZdB
 |_::_,[],d,_=>ZdB
def Lv(h g:Hp)(τ:Int->Int)(w w':Int):Prop:=(w=0/\w'=0)\/(w≠0/\w'≠0/\∃f∈(Y6 h).ns,f.ad=TA h w/\TA g w'=τ f.ad)
def Du(h g:Hp)(τ:Int->Int)(f a:Fo):Prop:=a.ad=τ f.ad/\a.ob.ptrs=f.ob.ptrs/\a.sl.drop f.ob.ptrs.toNat=f.sl.drop f.ob.ptrs.toNat/\Qn (Lv h g τ) (f.sl.take f.ob.ptrs.toNat) (a.sl.take f.ob.ptrs.toNat)
def SY(h g:Hp)(τ:Int->Int)(i:Int):Int:=if 0<=i then(((Y6 h).ns[i.toNat]?).bind λf=>Y1 (Y6 g).nm (τ f.ad)).getD 0 else i
def Z7U(r:Rt h p){τ:Int->Int}{w w':Int}(t:Lv h g τ w w'):(Y6 g).toA w'=SY h g τ ((Y6 h).toA w):=by
 obtain⟨rfl,rfl⟩|⟨k,l,f,n,d,j⟩:=t;simp[Vw.toA,SY];obtain⟨a,o⟩:=Tp.1 n;obtain⟨i,k1,u⟩:=r.to_nm a o;rw[NU h k,NU g l,<-d,j,k1];simp[SY,u]
def AS(r:Rt h p){τ:Int->Int}:∀ {l f:Zc},Qn (Lv h g τ) l f->f.map (Y6 g).toA=(l.map (Y6 h).toA).map (SY h g τ)
 | [],[],_=>rfl
 |a::l,b::m,d=>by rw[Zeb,Zeb,Zeb,Z7U r d.1,AS r d.2]
 | [],_::_,d=>d.elim
 |_::_,[],d=>d.elim
def Z87(r:Rt h p)(s:Rt g q)(τ:Int->Int)(N:∀f∈(Y6 h).ns,∃a∈(Y6 g).ns,Du h g τ f a)
  (t:∀f∈(Y6 h).ns,∀a∈(Y6 h).ns,τ f.ad=τ a.ad->f.ad=a.ad) (B:Qn (Lv h g τ) h.roots g.roots):YL (vg g)=YL (vg h):=by
 have key:∀x:Int,x∈order (vg h)->∃(i n:Nat) (f a:Fo),x=i/\(Y6 h).ns[i]?=xk f/\(Y6 g).ns[n]?=xk a/\SY h g τ x=n/\Du h g τ f a:=by
  intro x l;obtain⟨R,W⟩:=(KE r.vg_right).2 x l;have G:(vg h).nodes.length=(Y6 h).ns.length:=by simp[vg,Vw.gr]
  have F:x.toNat< (Y6 h).ns.length:=Z0;have D:=ZdO F;obtain⟨a,z,d⟩:=N _ (Ze5 F);generalize (Y6 h).ns[x.toNat]=f at*;obtain⟨A,M⟩:=Tp.1 z;obtain⟨n,k1,Q⟩:=s.to_nm A M;refine⟨x.toNat,n,f,a,Z0,D,Q,?_,d⟩;unfold SY;rw[if_pos R,D,Ze0,<-d.1,k1];rfl
 refine(Z0m r.vg_right s.vg_right (SY h g τ) (by simp[SY]) (λx l y O e=> ?_) (λx l=> ?_) (AS r B) λx l=> ?_).2;obtain⟨i,n,f,a,rfl,o,u,w,C⟩:=key x l;obtain⟨j,m,k,U,rfl,H,I,T,P⟩:=key y O;have:n=m:=Z0;subst this;rw[u]at I;cases I;have:=Z49 r o H (t f (ZdW o) k (ZdW H) (C.1.symm.trans P.1));omega;obtain⟨i,n,f,a,rfl,o,u,w,C⟩:=key x l;omega;obtain⟨i,n,f,a,rfl,o,u,w,S,J,K,L⟩:=key x l;rw[w];simp only[vg,Vw.gr,outs,Zed,Zee,o,u,Ze8,Zei,Ut,J,K,AS r L]
def DQ{α:Type}{R:α->α->Prop}:∀ {l:List α},(∀a∈l,R a a)->Qn R l l
 | [],_=>trivial
 |a::l,h=>⟨h a Z1,DQ λx d=>h x (by simp[d])⟩
def T8(r:Rt h p){j:Nat}(a:j<4){x:Ob}(hx:x∈p.at ((j:Int)+1)):(Ya h j x).ad=ZB (Zv h) ((j:Int)+1)+x.at_:=SO r a (by rw[r.obQ a];exact hx)
def UL(r:Rt h p){j:Nat}(a:j<4){x:Ob}(hx:x∈p.at ((j:Int)+1)):Ya h j x∈Xf h 4 0:=Kj (by rw[r.obQ a];exact hx) Z0 Z0
end
end
section
section
variable {h:Hp}{p:Pts}
def Body.fwd_here(r:Body h p){k:Int}(d:1<=k/\k<=2){o:Ob}(f:o∈p.at k):Vm.fwd h (ZT (Zv h) k o.at_)=(ZT (Zv h) k o.at_,h,0):=by
 obtain⟨a,n,m,g,_,_,j,_⟩:=r.toTld.ob Z0 f;exact Vm.fwd_here r.lay d ⟨Z0,Z0⟩
def Body.fwd_gone(r:Body h p){k:Int}(q:3<=k/\k<=4){o:Ob}(g:o∈p.at k)(l:o.gone=xy):Vm.fwd h (ZT (Zv h) k o.at_)=(2*o.target+1,h,0):=by
 obtain⟨a,n,m,f,_,_,t,_⟩:=r.toTld.ob Z0 g;obtain⟨u,j,d⟩:=((r.tiles k Z0).stands o g).1.word;rw[if_pos l]at d;rw[f,Zee]at j;rw[f,Vm.fwd_gone r.lay q j d.2.1,Ot d.2.1 d.2.2.symm]
def Body.fwd_wait(r:Body h p){k:Int}(t:3<=k/\k<=4){o:Ob}(f:o∈p.at k)(q:o.gone=xh){a n:Nat}(j:o.at_=a)(l:o.size=n):
  Vm.fwd h (ZT (Zv h) k o.at_)=(ZT (Zv h) 1 (P h.low),YJ h k a (n+1),0)/\((n+1:Nat):Int)<=Xx (Zv h):=by
 obtain⟨z,y,m,A,B,_,C,_⟩:=r.toTld.ob Z0 f;have:z=a:=Z0;subst this;have:y=n:=Z0;subst this;obtain⟨u,x,d⟩:=((r.tiles k Z0).stands o f).1.word;rw[if_neg (by simp[q])]at d;rw[j,Zee]at x;have D:=r.room;have g:=Z8a t f;unfold WX at g;rw[q,l]at g;simp at g;have e:Xx (Zv h)=h.cap-P h.low-P h.high:=by unfold Xx;rw[if_pos r.lay];rfl
 have w:((y+1:Nat):Int)<=Xx (Zv h):=Z0;rw[j];exact⟨Vm.fwd_wait r.lay t x (d.1 (decide_eq_true Z0)) (by rw[d.2.1,l]) C w,w⟩
end
def B5(h:Hp){k:Int}(d:3<=k/\k<=4)(a n:Nat):(YJ h k a n).low=h.low++((Zx h k).take (a+n)).drop a/\(YJ h k a n).high=h.high/\Zx (YJ h k a n) k=(zr (Zx h k) a n).set a (ZT (Zv h) 1 (P h.low))/\Zx (YJ h k a n) (7-k)=Zx h (7-k)/\
  (YJ h k a n).roots=h.roots/\(YJ h k a n).scan=h.scan/\(YJ h k a n).cycle=h.cycle/\(YJ h k a n).cap=h.cap/\(YJ h k a n).base=h.base/\(YJ h k a n).to=h.to:=by
 have:k=3\/k=4:=Z0;obtain rfl|rfl:=this<;>exact⟨rfl,rfl,rfl,rfl,rfl,rfl,rfl,rfl,rfl,rfl⟩
end
end Vm
end
