/-
  The law MeasureFree holds of the given program, for every input.
-/
import Derived.Deep.OwnRows
import Derived.Test.YtaepoabdapgbdaaRows
import Derived.Conc.LeavingOf
import Derived.Test.YtaepoabdapgbdaaSMeasureFree7
set_option linter.unusedSimpArgs false
set_option linter.unusedVariables false
set_option linter.defProp false
open Option renaming some→J,none→U
open Bool renaming true→xk,false→xw
open List renaming length→I
open Array renaming size→xz
open Go.World renaming heap→xj
open List renaming length→xq
open Array renaming size→xz
open Go.World renaming heap→xj
set_option maxHeartbeats 40000000
set_option maxRecDepth 100000
section
namespace Vm
open Go Go.Proofs Go.RowKit
def Z2g{W:Z3}{G:Z4}{g:Hp}{e:Int}{v:Ze}(r:Rd W G (.am [ZE g,vi e]) v):∃x,v=.tuple #[ZA g x,.int .i64 e]/\∀j,j<5->Rd W G (.sl<|(Zu g j).map vu) (x j):=by
 cases r with
 |am _ vs l h=>
  obtain⟨x,d,n⟩:=zW<|h 0 _ rfl;have f:=Sp<|h 1 _ rfl;refine⟨x,?_,n⟩;congr 1;have a:vs.size=2:=ZeI;apply Zhc;simp[a];intro i o p;have k:i<2:=Z0
  match i,k with
  |0,_=>simp[Array.getD,a]at d;simpa using d
  |1,_=>simp[Array.getD,a]at f;simpa using f
def PU(G:Z4)(W:Z3)(r:Hp×Int)(e:Ending)(W':Z3):Prop:=
 ∃x,e=.returned (.tuple #[ZA r.1 x,.int .i64 r.2])/\Below (xz<|xj W) W W'/\∀j,j<5->Rd W' (λc=>G c\/(xz (xj W)<=c/\c<xz (xj W'))) (.sl<|(Zu r.1 j).map vu) (x j)
def Z2f{f:Zq}{h g:Hp}{k n:Int}(l:VC Sol.prog f xw [ZE h,vi k]<|.am [ZE g,vi n]){W:Z3}{G:Z4}{x:Z5}(o:∀b,G b->b<xz (xj W))(r:∀j,j<5->Rd W G (.sl<|(Zu h j).map vu) (x j)):
  Calls Sol.prog f #[ZA h x,.int .i64 k] W (PU G W (g,n)):=by
 refine Zhj (l.2 W G _ o rfl ?_) ?_;intro i y a
 match i,a with
 |0,a=>cases a;exact J8 r
 |1,a=>cases a;exact .int _ _
 rintro e w ⟨v,rfl,p,l⟩;obtain⟨u,rfl,t⟩:=Z2g l;exact⟨u,rfl,p,λj q=>(t j q).mono λb d=>Ze3⟩
def Nx{h:Hp}(k:h.ok){p:Pts}(r:Rt h p){n:Int}(l:0<=n/\n<=1000){W:Z3}{G:Z4}{x:Z5}(f:∀b,G b->b<xz (xj W))(o:∀j,j<5->Rd W G (.sl<|(Zu h j).map vu) (x j)):
  Calls Sol.prog 24 #[ZA h x,.int .i64 n] W λe d=>e=.returned (.bool<|Xk h p n)/\Below (xz<|xj W) W d:=by
 refine Zhj ((Z76 k r l).2 W G _ f rfl ?_) ?_;intro i y a
 match i,a with
 |0,a=>cases a;exact J8 o
 |1,a=>cases a;exact .int _ _
 rintro e d ⟨v,rfl,g,q⟩;exact⟨by rw[Ct q],g⟩
def Mx{s p:Int}(w:Z3):Calls Sol.prog 22 #[.agg #[.int .i64 s,.int .i64 p]] w λe a=>e=.returned (.tuple #[.int .u64 (Xp s p).1,.int .i64 (Xp s p).2])/\Below (xz<|xj w) w a:=
 Tt (Z27 (s:=s) (p:=p)) rfl rfl w
def VD(g:Hp)(x:Z5):Array Value:=#[.int .u64 g.base,.int .i64 g.cap,.int .i64 g.to,.bool g.Y,.int .i64 g.Z,x 0,x 1,x 2,x 3,x 4]
structure PSt (w W:World) (nb:Nat) (g:Hp) (x:Nat->Value) (Q:Prop):Prop where
 da:W.heap[xz (xj w)+2]?=J (.cells ZN 30 (0,0))
 br:W.heap[nb]?=J (.cells (VD g x) 30 (0,0))
 rd:∀j,j<5->Rd W (λc=>xz (xj w)+3<=c/\c<xz (xj W)/\c≠nb) (.sl<|(Zu g j).map vu) (x j)
 cx:Below (xz<|xj w) w W
 nB:xz (xj w)+3<=nb
 own:Q->HOwn (xz (xj w)+3) W g x/\∀j,j<5->∀c,(x j).ownBlock=J c->c≠nb
def PSt.below{w W W':Z3}{h:Nat}{g:Hp}{x:Z5}{Q:Prop}(s:PSt w W h g x Q)(a:Below (xz<|xj W) W W'):PSt w W' h g x Q:=by
 have k:=Y9 s.br;have l:=Y9 s.da;have o:=a.size;refine⟨(a.block _ l).trans s.da,(a.block _ k).trans s.br,λj d=>((s.rd j d).keep (λb f=>a.block b f.2.1) λ_ q=>q).mono λb q=>⟨q.1,Z0,q.2.2⟩,s.cx.trans<|a.mono s.cx.size,s.nB,λq=>⟨⟨λj d=>Xo ((s.own q).1.own j d) λc n=>a.block _ (((s.own q).1.own j d).lt c n).2,(s.own q).1.apart⟩,(s.own q).2⟩⟩
def PSt.F{w W:Z3}{a:Nat}{g:Hp}{x:Z5}{Q:Prop}(s:PSt w W a g x Q):(∀j,W.cell? ⟨a,j,U⟩=(#[.int .u64 g.base,.int .i64 g.cap,.int .i64 g.to,.bool g.Y,.int .i64 g.Z,x 0,x 1,x 2,x 3,x 4]:Array Value)[j]?)/\∀j,W.frozen? ⟨a,j,U⟩=xw:=
 ⟨λj=>ZeU _ _ _ _ _ _ s.br,λj=>Yd s.br⟩
def PSt.R{w W:Z3}{a:Nat}{g:Hp}{x:Z5}{Q:Prop}(s:PSt w W a g x Q):(∀j,W.cell? ⟨xz (xj w)+1+1,j,U⟩=(#[.int .u64 0,.int .i64 0,.int .i64 0,.bool xw,.int .i64 0,.slice U 0 0,.slice U 0 0,.slice U 0 0,.slice U 0 0,.slice U 0 0]:Array Value)[j]?)/\∀j,W.frozen? ⟨xz (xj w)+1+1,j,U⟩=xw:=
 ⟨λj=>ZeU _ _ _ _ _ _ s.da,λj=>Yd s.da⟩
def UG(W:Z3)(b:Nat)(v0 v1 a d v4 f v6 g h j:Ze):World:=(((((((((W.setCell ⟨b,0,U⟩ v0).setCell ⟨b,1,U⟩ v1).setCell ⟨b,2,U⟩ a).setCell ⟨b,3,U⟩ d).setCell ⟨b,4,U⟩ v4).setCell ⟨b,5,U⟩ f).setCell ⟨b,6,U⟩ v6).setCell ⟨b,7,U⟩ g).setCell ⟨b,8,U⟩ h).setCell ⟨b,9,U⟩ j
def Z6e{W:Z3}{a:Nat}{g:Hp}{x:Z5}{T:Zh}(d:W.heap[a]?=J (.cells (VD g x) T (0,0)))(v0 v1 f h v4 j v6 k l n:Ze):(UG W a v0 v1 f h v4 j v6 k l n).heap[a]?=J (.cells #[v0,v1,f,h,v4,j,v6,k,l,n] T (0,0)):=by
 unfold VD at d;unfold UG;simp[World.setCell,Zfm,d]
def MV(W:Z3)(a:Nat)(v0 v1 d f v4 g v6 h j k:Ze):xz (xj<|UG W a v0 v1 d f v4 g v6 h j k)=xz (xj W):=by
 unfold UG;simp[World.setCell]
def PSt.store{w W d:Z3}{f:Nat}{g g2:Hp}{x a:Z5}{Q:Prop}(s:PSt w W f g x Q)(l:Below (xz<|xj W) W d)
  (p:∀j,j<5->Rd d (λc=>(xz (xj w)+3<=c/\c<xz (xj W)/\c≠f)\/(xz (xj W)<=c/\c<xz (xj d))) (.sl<|(Zu g2 j).map vu) (a j)):
  PSt w (UG d f (.int .u64 g2.base) (.int .i64 g2.cap) (.int .i64 g2.to) (.bool g2.Y) (.int .i64 g2.Z) (a 0) (a 1) (a 2) (a 3)<|a 4) f g2 a False:=by
 have k:=s.below l;have t:=Y9 s.br;have u:=l.size;have r:=s.cx.size;have o:=s.nB;refine⟨(UH Z0 _ _ _ _ _ _ _ _ _ _).trans k.da,Z6e k.br _ _ _ _ _ _ _ _ _ _,λj n=>((p j n).keep (λb h=> ?_) λ_ q=>q).mono λb q=> ?_,XT k.cx Z0 _ _ _ _ _ _ _ _ _ _,o,λq=>q.elim⟩;exact UH (by obtain q|q:=h<;>omega) _ _ _ _ _ _ _ _ _ _;rw[MV];obtain q|q:=q;exact⟨q.1,Z0,q.2.2⟩;exact⟨Z0,q.2,Z0⟩
def SI(w:Z3)(r:Int×Hp×Int)(Q:Prop)(e:Ending)(w':Z3):Prop:=
 ∃x,e=.returned (.tuple #[.int .u64 r.1,ZA r.2.1 x,.int .i64 r.2.2])/\Below (xz<|xj w) w w'/\(∀j,j<5->Rd w' (λc=>xz (xj w)<=c/\c<xz (xj w')) (.sl<|(Zu r.2.1 j).map vu) (x j))/\(Q->HOwn (xz<|xj w) w' r.2.1 x)
def Vl(g:Hp)(wd:Int)(n:Nat):Hp:= {g with ab:=(wd::List.replicate n 0)++g.ab}
structure Tri (w W:World) (o0 o1:Obj):Prop where
 b0:W.heap[xz<|xj w]?=J o0
 b1:W.heap[xz (xj w)+1]?=J o1
 b2:W.heap[xz (xj w)+2]?=J (.cells ZN 30 (0,0))
 cx:Below (xz<|xj w) w W
def Oy(w:Z3)(a d:Obj):∃W,((w.alloc a).alloc d).alloc (.cells #[.int .u64 0,.int .i64 0,.int .i64 0,.bool xw,.int .i64 0,.slice U 0 0,.slice U 0 0,.slice U 0 0,.slice U 0 0,.slice U 0 0] 30)=W/\xz (xj W)=xz (xj w)+3/\Tri w W a d:=by
 refine⟨_,rfl,Z1,?_,?_,?_,(((Zf3 _ _).alloc (ZeQ _) _).alloc Z1 _).alloc ZdP _⟩;rw[ZeR _ _ _ ZdP,ZeR _ _ _ Z1];exact Zf5 _ _;rw[ZeR _ _ _ Z1];exact Z8E _ _ _;have:=Zf5 ((w.alloc a).alloc d)<|.cells ZN 30;simpa[ZN]using this
def Tri.below{w W W':Z3}{d f:Obj}(s:Tri w W d f)(a:Below (xz<|xj W) W W'):Tri w W' d f:=
 ⟨(a.block _<|Y9 s.b0).trans s.b0,(a.block _<|Y9 s.b1).trans s.b1,(a.block _<|Y9 s.b2).trans s.b2,s.cx.trans<|a.mono s.cx.size⟩
def Tri.F{w W:Z3}{c0 a:Zd}{t0 d:Zh}(s:Tri w W (.cells c0 t0)<|.cells a d):(∀j,W.cell? ⟨xz<|xj w,j,U⟩=c0[j]?)/\(∀j,W.cell? ⟨xz (xj w)+1,j,U⟩=a[j]?)/\(∀j,W.cell? ⟨xz (xj w)+1+1,j,U⟩=ZN[j]?)/\∀j,W.frozen? ⟨xz (xj w)+1+1,j,U⟩=xw:=
 ⟨λj=>ZeU _ _ _ _ _ _ s.b0,λj=>ZeU _ _ _ _ _ _ s.b1,λj=>ZeU _ _ _ _ _ _ s.b2,λj=>Yd s.b2⟩
def Z67{w w2 d l:Z3}{C D:Obj}{h:Hp}{y:Z5}(s:Tri w w2 C D)(A:xz (xj w)+3<=xz (xj w2))(z:Below (xz<|xj w2) w2 d)
  (o:HOwn (xz<|xj w2) d h y) (f:d.alloc (.cells (VD h y) 30)=l):PSt w l (xz<|xj d) h y True:=by
 have p:=s.below z;have F:=z.size;have x:∀j,j<5->∀c,(y j).ownBlock=J c->xz (xj w2)<=c/\c<xz (xj d):=λj a c g=>((o.own j a).lt c g);have B:xz (xj l)=xz (xj d)+1:=by rw[<-f];simp
 have n:=Y9 s.b2;have t:HOwn (xz (xj w)+3) l h y:=⟨λj a=>Rb (Xo (o.own j a) λc g=>by rw[<-f];exact ZeR _ _ _ (x j a c g).2) λc u n=>⟨Z0,n⟩,o.apart⟩;refine⟨by rw[<-f];exact(ZeR _ _ _<|Y9 p.b2).trans p.b2,by rw[<-f];exact Zf5 _ _,λj a=> ?_,by rw[<-f];exact p.cx.alloc p.cx.size _,Z0,λ_=>⟨t,λj a c g=>by have:=(x j a c g).2;omega⟩⟩;refine((R9 (k:=.u64) (o.own j a) (G:=λc=>xz (xj w2)<=c/\c<xz (xj d)) λc u n=>⟨u,n⟩).keep (λb r=>by rw[<-f];exact ZeR _ _ _ r.2) λ_ q=>q).mono λb q=>⟨Z0,Z0,Z0⟩
def VE{W:Z3}{G:Z4}{l:Z8}{y:Ze}(h:Rd W G (.sl<|l.map vu) y):∃a c,y=.slice a (I l) c:=by
 generalize g:l.map vu=L at h;have d:I L=I l:=by rw[<-g,Zfc]
 cases h with
 |nil a c f=>exact⟨_,_,by rw[<-d];rfl⟩
 |sl _ b o cap k vs f j=>exact⟨_,_,by rw[d]⟩
def PSt.imp{w W:Z3}{a:Nat}{g:Hp}{x:Z5}{Q Q':Prop}(s:PSt w W a g x Q)(h:Q'->Q):PSt w W a g x Q':=⟨s.da,s.br,s.rd,s.cx,s.nB,λq=>s.own<|h q⟩
def PSt.place{w W W':Z3}{t:Nat}{g:Hp}{x:Z5}{Q:Prop}(s:PSt w W t g x Q){l:Z8}{v:Ze}(F:xz (xj W)<=xz (xj W'))(y:∀b,b<xz (xj W)->b≠t->W'.heap[b]?=W.heap[b]?)
  (B:W'.heap[t]?=J (.cells (VD {g with ab:=l}<|λj=>if j=1 then v else x j) 30 (0,0))) (r:W'.ownsRow (xz<|xj W) 24 1 v (I l)<|Yg .u64 l) (o:Below (xz<|xj w) w W'):PSt w W' t {g with ab:=l} (λj=>if j=1 then v else x j) Q:=by
 have C:=s.cx.size;have z:=s.nB;have p:∀j,j<5->j≠1->Zu {g with ab:=l} j=Zu g j:=λj h a=>by
  have:j=0\/j=2\/j=3\/j=4:=Z0;obtain rfl|rfl|rfl|rfl:=this<;>rfl
 have D:xz (xj w)+3<=xz (xj W):=by have:=Y9 s.br;omega
 refine⟨(y _ (Y9 s.da) Z0).trans s.da,B,λj h=> ?_,o,z,λq=>⟨⟨λj h=> ?_,λi j u h c d f=> ?_⟩,λj h c d=> ?_⟩⟩;by_cases a:j=1;subst a;rw[if_pos rfl];exact R9 (k:=.u64) r λc a n=>⟨Z0,n,by have:=Y9 s.br;omega⟩;rw[if_neg a,p j h a];exact((s.rd j h).keep (λb A=>y b A.2.1 A.2.2) λ_ q=>q).mono λb q=>⟨q.1,Z0,q.2.2⟩;by_cases a:j=1;subst a;rw[if_pos rfl];exact Rb r λc a n=>⟨Z0,n⟩;rw[if_neg a,p j h a];exact Xo ((s.own q).1.own j h) λc d=>y c (((s.own q).1.own j h).lt c d).2<|(s.own q).2 j h c d;by_cases a:i=1;subst a;rw[if_pos rfl]at d;rw[if_neg Z0]at f;have:=(r.lt c d).1;have:=(((s.own q).1.own j h).lt c f).2;omega;rw[if_neg a]at d;by_cases n:j=1;subst n;rw[if_pos rfl]at f;have:=(r.lt c f).1;have:=(((s.own q).1.own i Z0).lt c d).2;omega;rw[if_neg n]at f;exact(s.own q).1.apart i j u h c d f;by_cases a:j=1;subst a;rw[if_pos rfl]at d;have:=(r.lt c d).1;have:=Y9 s.br;omega;rw[if_neg a]at d;exact(s.own q).2 j h c d
def Z5Y{W:Z3}{G:Z4}{B p n K:Nat}{l h:Z8}{y:Ze}(w:B<=xz (xj W))(o:W.ownsRow B 24 1 (.slice (J ⟨p,0,U⟩) n K) n<|Yg .u64 l)(z:Rd W G (.sl<|h.map vu) y)(A:n+I h<=2000000)(ty:Zh):
  ∃a c g,(Builtin.append_ #[28,28] ty #[.slice (J ⟨p,0,U⟩) n K,y]).run Sol.prog W=.ok (.slice a (n+I h) c) g/\g.ownsRow B 24 1 (.slice a (n+I h) c) (I<|l++h) (Yg .u64<|l++h)/\W.grownBy g (J p):=by
 have x:=Sol.underlying28;rw[<-US]at o;obtain⟨C,g,f,q,d,r,_,_,t⟩:=Ls (P:=Sol.prog) (ty:=ty) x QT o w z (by rw[US];exact LB _) (by simp only[Y3,Zfc];omega);rw[US]at d;have k:I l=n:=by have:=o.1;rw[US]at this;simpa[Yg]using this
 have j:I f=I h:=by have:=d.1;simp[Yg]at this;omega
 have u:=yH t j;obtain⟨a,c,e⟩:=Yi d;subst e;rw[u]at d;simp only[Zfc]at d q;refine⟨a,c,g,q,?_,r⟩;rw[Zfx,k];simpa[Yg]using d
def Z42{m K:Nat}(l:m<=K)(k:K<=4096)(W:Z3):(Instr.makeSlice 28 (.int .i64 (m:Int))<|.int .i64 (K:Int)).run Sol.prog W=.ok (.slice (J ⟨xz<|xj W,0,U⟩) m K) (W.alloc<|.cells (madeCells #[.int .u64 0] K) 24):=by
 have a:(Sol.prog.info? 24).map (λi=>(i.zero,i.size,i.bytes))=J (J<|.int .u64 0,1,8):=Z2;obtain⟨i,g,d⟩:=ZeN.1 a;simp only[ZeZ]at d;obtain⟨j,h,f⟩:=d;have:=run_make (P:=Sol.prog) (w:=W) 28 24 i (.int .u64 0) Sol.underlying28 g j .i64 .i64 m K Z0 Z0 (by rw[f];omega) Z0;simpa[h,Value.cells]using this
def Z41{W:Z3}{B m K:Nat}(d:B<=xz (xj W))(a:m<=K)(f:K<=4096):(W.alloc<|.cells (madeCells #[.int .u64 0] K) 24).ownsRow B 24 1 (.slice (J ⟨xz<|xj W,0,U⟩) m K) m<|Yg .u64<|List.replicate m 0:=by
 refine⟨by simp[Yg],.inr ⟨_,K,_,rfl,d,Zf5 _ _,a,Ze5,by rw[size_madeCells];simp,?_⟩⟩;rw[toList_madeCells_one];simp[Yg,List.take_replicate,Zi9 a]
def Z60{g:Hp}{wd:Int}{n m:Nat}(p:ZJ (Zv g)=xk)(u:n+1=m)(t:(I g.H:Int)+I g.ab+m<=g.cap):ZJ (Zv<|Vl g wd n)=xk:=by
 obtain⟨d,f,h,j,k,⟨l,q,o,r⟩,a⟩:=XK.1 p;refine XK.2 ⟨d,f,h,j,k,⟨l,?_,o,?_⟩,a⟩;show(0:Int)<=(I ((wd::List.replicate n 0)++g.ab):Nat);omega;show((I ((wd::List.replicate n 0)++g.ab):Nat):Int)<=g.cap-I g.H;simp;omega
def Z5W{g:Hp}{wd:Int}{n:Nat}(a:g.ok)(f:ZC wd)(h:n+1+I g.ab<=1000000):(Vl g wd n).ok:=by
 refine⟨a.base,a.cap,a.to,a.Z,a.H,?_,a.ah,a.ak,a.E,a.fm,λx d=> ?_,a.kh,a.iz,a.di⟩;simp[Vl];omega;simp only[Vl,Zg6,Zfb,Zfg,List.mem_replicate]at d;obtain rfl|⟨_,rfl⟩|d:=d;exact f;unfold ZC;omega;exact a.fq x d
def Z61{g:Hp}{wd:Int}{n:Nat}(d:ZJ (Zv<|Vl g wd n)=xk):Y2 (Zv<|Vl g wd n) 2 0=(ZD (Zv<|Vl g wd n) 2,0)/\ZC (ZD (Zv<|Vl g wd n) 2)/\Xj (ZD (Zv<|Vl g wd n) 2)=(Y6 (Zv<|Vl g wd n) 2 0,0):=by
 have f:YO (Zv<|Vl g wd n) 2=(n+1+I g.ab:Nat):=by
  show((I ((wd::List.replicate n 0)++g.ab):Nat):Int)=_;simp;omega
 obtain⟨h,j,l,o⟩:=V4 d 2;refine⟨?_,⟨Z0,Z0⟩,?_⟩;have:=SK d (k:=2) (a:=0) Z0 Z0;simpa using this;unfold Xj Y6;rw[if_neg Z0,Int.add_zero]
def Z5Z{w W:Z3}{u:Nat}{g:Hp}{x:Z5}{Q:Prop}(s:PSt w W u g x Q)(v:Int)(v0 v1 f h v4 k v6 l n o:Ze):SI w (v,g,0) Q (.returned<|.tuple #[.int .u64 v,ZA g x,.int .i64 0]) ((((((((((W.setCell ⟨xz (xj w)+1+1,0,U⟩ v0).setCell ⟨xz (xj w)+1+1,1,U⟩ v1).setCell ⟨xz (xj w)+1+1,2,U⟩ f).setCell ⟨xz (xj w)+1+1,3,U⟩ h).setCell ⟨xz (xj w)+1+1,4,U⟩ v4).setCell ⟨xz (xj w)+1+1,5,U⟩ k).setCell ⟨xz (xj w)+1+1,6,U⟩ v6).setCell ⟨xz (xj w)+1+1,7,U⟩ l).setCell ⟨xz (xj w)+1+1,8,U⟩ n).setCell ⟨xz (xj w)+1+1,9,U⟩ o).drew:=by
 have r:=MV W (xz (xj w)+1+1) v0 v1 f h v4 k v6 l n o;have p:∀c,c≠xz (xj w)+1+1->_:=λc d=>qr (w2:=W) (b:=xz (xj w)+1+1) d v0 v1 f h v4 k v6 l n o;unfold UG at r;refine⟨x,rfl,(XT s.cx Z0 _ _ _ _ _ _ _ _ _ _).drew,λj a=>((s.rd j a).keep (λb z=>p b Z0) λ_ q=>q).mono λb q=>⟨Z0,?_⟩,λq=>⟨λj a=>Rb (Xo ((s.own q).1.own j a) λc d=>p c ?_) λc y t=>⟨Z0,t⟩,(s.own q).1.apart⟩⟩;rw[F6,r];exact q.2.1;have:=(((s.own q).1.own j a).lt c d).1;omega
def Z02(w:Z3)(G:Z4)(hG:∀b,G b->b<xz (xj w))(h:Hp)(hh:h.ok)(d7:Z5)(hs:∀j,j<5->Rd w G (.sl<|(Zu h j).map vu) (d7 j))(n m:Nat)(pt wd:Int)(hn:n<=255)(hm:n+1=m)(n3:Xp n pt=(wd,0)){p q p8:Pts}(r:Rt h p){g h8:Hp}(hg:g.ok)(rg:Rt g q)(q6:h8.ok)(r8:Rt h8 p8)
  (hd:(h.Y=xk/\h8=h)\/(h.Y=xw/\Xk h p m=xk/\h8=h)\/(h.Y=xw/\Xk h p m=xw/\h8=X0 h)) (n2:g=ZR h8 m)
  {i3:Int×Hp×Int} (j5:i3=if Xk g q m then(Y6 (Zv<|Vl g wd n) 2 0,Vl g wd n,0)else(0,Hp.zero,7)) {Q:Prop} (hQ:Q->h.Y=xw/\Xk h p m=xk):
  Calls Sol.prog 12 #[ZA h d7,.agg #[.int .i64 (n:Nat),.int .i64 pt]] w (SI w i3 Q):=by
 have HS:=ZeP hs;have HH:=ZeP hh;have s6:1<=m/\m<=256:=Z0;have HD:=ZeP hd;have i5:=ZeP j5;have HQ:=ZeP hQ;have HR:∀W,Below (xz<|xj w) w W->Calls Sol.prog 17 #[ZA h d7] W λe w'=>e=.returned (.bool<|Yt h)/\Below (xz<|xj W) W w':=λW C=>
  Lr (w:=W) (G:=G) (x:=d7) hh (λb A=>ZeV (hG b A) C.size) (λj hj=>(hs j hj).keep (λb A=>C.block b<|hG b A) λ_ q=>q)
 rw[r.right]at HR;have l7:=ZeP<|Mx (s:=(n:Int)) (p:=pt);have o0:=ZeP HR;have wn:IntKind.i64.wrap ((n:Int)+1)=(m:Int):=Ze0;have HN:=ZeP<|And.intro hm n2;obtain⟨W0,j8,s7,l0⟩:=Oy w (.cells (VD h d7) 30)<|.cells #[.int .i64 (n:Nat),.int .i64 pt] 43;have o1:=ZeP l0;have s4:=ZeP j8;obtain⟨p0,s0,_,_⟩:=l0.F;unfold VD at j8 p0;clear hs HR hd j5 hQ l0 n2;unfold ZA;go_enter Sol.func12,Try.ntmps12
 go_upto_region 6 with (first
  |(go_at_call 22;go_loud (refine(l7.out W0).mono ?_;rintro e w1 ⟨rfl,k5⟩;rw[n3];dsimp only;have l1:=o1.out.below k5;have s8:=k5.size;obtain⟨p1,s1,_,_⟩:=l1.F;unfold VD at p1;have l8:=ZeP l1;clear k5 l1 j8 l7 p0 s0))
  |(go_at_call 17;go_loud (refine(o0.out _ l8.out.cx).mono ?_;rintro e w2 ⟨rfl,k6⟩;have l2:=l8.out.below k6;have s9:=k6.size;obtain⟨p2,s2,_,_⟩:=l2.F;unfold VD at p2;have m0:=ZeP l2;clear k6 l2 p1 s1))
  |(go_at_call 23;go_loud (refine(JY _ G (λb C=>by have:=hG b C;omega) h HH.out d7<|λj hj=>(HS.out j hj).keep (λb C=>m0.out.cx.block b<|hG b C)<|λ_ h=>h).mono ?_;rintro e Z ⟨y,rfl,m8,a6⟩;obtain⟨a0,q0,e0⟩:=Yi<|a6.own 0 Z0;obtain⟨a1,q1,e1⟩:=Yi<|a6.own 1 Z0;obtain⟨a2,q2,e2⟩:=Yi<|a6.own 2 Z0;obtain⟨a3,q3,e3⟩:=Yi<|a6.own 3 Z0;obtain⟨a4,q4,e4⟩:=Yi<|a6.own 4 Z0;have l6:=ZeP<|And.intro m8 a6;clear m8 a6;unfold ZA;rw[e0,e1,e2,e3,e4])))
 obtain⟨W6,j9⟩:∃W6,Z.alloc (.cells #[.int .u64 h.base,.int .i64 h.cap,.int .i64 h.to,.bool h.Y,.int .i64 h.Z,.slice a0 (I<|Zu h 0) q0,.slice a1 (I<|Zu h 1) q1,.slice a2 (I<|Zu h 2) q2,.slice a3 (I<|Zu h 3) q3,.slice a4 (I<|Zu h 4) q4] 30)=W6:=⟨_,rfl⟩;have i4:PSt w W6 (xz<|xj Z) h y True:=Z67 m0.out Z0 l6.out.1 l6.out.2 (by unfold VD;rw[e0,e1,e2,e3,e4];exact j9);rw[j9];obtain⟨y6,f6⟩:=i4.F;rw[e0,e1,e2,e3,e4]at y6;have a5:=ZeP i4;have m6:∀W,Below (xz<|xj W6) W6 W->Calls Sol.prog 24 #[.agg #[.int .u64 h.base,.int .i64 h.cap,.int .i64 h.to,.bool h.Y,.int .i64 h.Z,.slice a0 (I<|Zu h 0) q0,.slice a1 (I<|Zu h 1) q1,.slice a2 (I<|Zu h 2) q2,.slice a3 (I<|Zu h 3) q3,.slice a4 (I<|Zu h 4) q4],.int .i64 (m:Nat)] W λe w'=>e=.returned (.bool<|Xk h p m)/\Below (xz<|xj W) W w':=λW C=>by
  have:=Nx hh r (n:=(m:Int)) Z0 (W:=W) (λb A=>A.2.1) (i4.below C).rd;unfold ZA at this;rw[e0,e1,e2,e3,e4]at this;exact this
 have t:=ZeP m6;have E:=ZeP<|And.intro e0<|And.intro e1<|And.intro e2<|And.intro e3 e4;clear i4 m6 p2 s2 j9 e0 e1 e2 e3 e4 wn;have m5:∀(W2:Z3) (x2:Z5) (W7:Z3),PSt w W7 (xz<|xj Z) h y True->Below (xz<|xj W7) W7 W2->(∀j,j<5->Rd W2 (λc=>(xz (xj w)+3<=c/\c<xz (xj W7)/\c≠xz (xj Z))\/(xz (xj W7)<=c/\c<xz (xj W2))) (.sl<|(Zu (X0 h) j).map vu) (x2 j))->PSt w (UG W2 (xz<|xj Z) (.int .u64 (X0 h).base) (.int .i64 (X0 h).cap) (.int .i64 (X0 h).to) (.bool (X0 h).Y) (.int .i64 (X0 h).Z) (x2 0) (x2 1) (x2 2) (x2 3)<|x2 4) (xz<|xj Z) (X0 h) x2 False:=λW2 x2 W7 s C hr=>s.store C hr;have n9:=ZeP m5;clear m5;obtain⟨hc,rfl⟩|⟨hc,f9,rfl⟩|⟨hc,f9,rfl⟩:=HD.out;all_goals have HC:=ZeP hc
 case' inl=>
  go_upto_region 10 with fail;have o:=ZeP (a5.out.imp (Q':=Q) λq=>trivial);have u:=ZeP E.out
 case' inr.inl=>
  have t:=t.out;rw[hc]at t;have t:=ZeP t
  go_upto_region 10 with (first
   |(go_at_call 24;go_loud (refine(t.out _<|Zf3 _ _).mono ?_;rintro e w7 ⟨rfl,e8⟩;rw[f9];have a9:=a5.out.below e8;obtain⟨y7,f7⟩:=a9.F;rw[E.out.1,E.out.2.1,E.out.2.2.1,E.out.2.2.2.1,E.out.2.2.2.2]at y7;have o:=ZeP (a9.imp (Q':=Q) λq=>trivial);clear e8 a9)))
  have u:=ZeP E.out
 case' inr.inr=>
  have t:=t.out;rw[hc]at t;have t:=ZeP t
  go_upto_region 10 with (first
   |(go_at_call 24;go_loud (refine(t.out _<|Zf3 _ _).mono ?_;rintro e w7 ⟨rfl,e8⟩;rw[f9];have a9:=a5.out.below e8;obtain⟨y7,f7⟩:=a9.F;rw[E.out.1,E.out.2.1,E.out.2.2.1,E.out.2.2.2.1,E.out.2.2.2.2]at y7;have j7:=ZeP a9;clear e8 a9))
   |(go_at_call 25;go_loud (have h4:=PM w7 _ (λb A=>A.2.1) h HH.out y j7.out.rd;unfold ZA at h4;rw[hc,E.out.1,E.out.2.1,E.out.2.2.1,E.out.2.2.2.1,E.out.2.2.2.2,show S6 h=(X0 h,0)by unfold S6;rw[if_neg (by rw[r.right];simp),if_neg (by rw[HC.out];simp)]]at h4;refine h4.mono ?_;clear h4;rintro e w8 ⟨x8,rfl,k7,a7⟩;obtain⟨v8,g8⟩:=(j7.out.below k7).F;rw[E.out.1,E.out.2.1,E.out.2.2.1,E.out.2.2.2.1,E.out.2.2.2.2]at v8;have b5:=n9.out w8 x8 w7 j7.out k7 (λj hj=>(a7 j hj).mono λb q=>.inr q);obtain⟨b0,k0,f0⟩:=VE<|a7 0 (by omega);obtain⟨b1,k1,f1⟩:=VE<|a7 1 (by omega);obtain⟨b2,k2,f2⟩:=VE<|a7 2 (by omega);obtain⟨b3,k3,f3⟩:=VE<|a7 3 (by omega);obtain⟨b4,k4,f4⟩:=VE<|a7 4 (by omega);unfold ZA;rw[f0,f1,f2,f3,f4];have z8:=b5.F.1;unfold UG at z8;rw[f0,f1,f2,f3,f4]at z8;have o2:=ZeP b5;have u:=ZeP<|And.intro f0<|And.intro f1<|And.intro f2<|And.intro f3 f4;clear k7 a7 b5 f0 f1 f2 f3 f4)))
 case' inl=>
  obtain⟨W8,rfl⟩:∃W8,W8=W6:=⟨_,rfl⟩;have d9:=HC;have h3:=hc;clear y6
 case' inr.inl=>
  obtain⟨W8,rfl⟩:∃W8,W8=w7:=⟨_,rfl⟩;have d9:=HC;have h3:=hc;clear y6 y7
 case' inr.inr=>
  obtain⟨W8,g6⟩:∃W8,UG w8 (xz<|xj Z) (.int .u64 (X0 h).base) (.int .i64 (X0 h).cap) (.int .i64 (X0 h).to) (.bool (X0 h).Y) (.int .i64 (X0 h).Z) (.slice b0 (I<|Zu (X0 h) 0) k0) (.slice b1 (I<|Zu (X0 h) 1) k1) (.slice b2 (I<|Zu (X0 h) 2) k2) (.slice b3 (I<|Zu (X0 h) 3) k3) (.slice b4 (I<|Zu (X0 h) 4) k4)=W8:=⟨_,rfl⟩;have b5:=o2.out;rw[u.out.1,u.out.2.1,u.out.2.2.1,u.out.2.2.2.1,u.out.2.2.2.2,g6]at b5;have o:=ZeP (b5.imp (Q':=Q) λq=>by have:=(HQ.out q).2;rw[f9]at this;cases this);unfold UG at g6;rw[g6];clear y6 y7 z8 g6 b5 v8 g8;cases h3:(X0 h).Y;all_goals have d9:=ZeP h3
 all_goals
  obtain⟨y8,f8⟩:=o.out.F;rw[u.out.1,u.out.2.1,u.out.2.2.1,u.out.2.2.2.1,u.out.2.2.2.2]at y8;first
  | (have f5:=Z2f (DY NO q6 (k:=(m:Int)) ⟨by omega,by omega⟩) (λb A=>A.2.1) o.out.rd
     rw[MZ r8,<-HN.out.2]at f5;unfold ZA at f5;rw[u.out.1,u.out.2.1,u.out.2.2.1,u.out.2.2.2.1,u.out.2.2.2.2,show _=xk from d9.out]at f5
     go_upto_region 14 with (first
      |(go_at_call 9;go_loud (refine f5.mono ?_;clear f5;rintro e w9 ⟨x9,rfl,k8,a8⟩;obtain⟨v9,g9⟩:=(o.out.below k8).F;rw[u.out.1,u.out.2.1,u.out.2.2.1,u.out.2.2.2.1,u.out.2.2.2.2]at v9;have b6:=o.out.store k8 a8;obtain⟨b0,k0,f0⟩:=VE<|a8 0 (by omega);obtain⟨b1,k1,f1⟩:=VE<|a8 1 (by omega);obtain⟨b2,k2,f2⟩:=VE<|a8 2 (by omega);obtain⟨b3,k3,f3⟩:=VE<|a8 3 (by omega);obtain⟨b4,k4,f4⟩:=VE<|a8 4 (by omega);unfold ZA;rw[f0,f1,f2,f3,f4];rw[f0,f1,f2,f3,f4]at b6;have m1:=ZeP b6;clear k8 a8 b6 f0 f1 f2 f3 f4))))
  |go_upto_region 14 with fail
 all_goals
  first
  | (obtain⟨W9,g7⟩:∃W9,UG w9 (xz<|xj Z) (.int .u64 g.base) (.int .i64 g.cap) (.int .i64 g.to) (.bool g.Y) (.int .i64 g.Z) (.slice b0 (I<|Zu g 0) k0) (.slice b1 (I<|Zu g 1) k1) (.slice b2 (I<|Zu g 2) k2) (.slice b3 (I<|Zu g 3) k3) (.slice b4 (I<|Zu g 4) k4)=W9:=⟨_,rfl⟩
     have b6:=m1.out;rw[g7]at b6;have d8:=ZeP (b6.imp (Q':=Q) λq=>by have h1:=(HQ.out q).1;have h2:=(HQ.out q).2;first|(rw[HC.out]at h1;cases h1;done)|(rw[f9]at h2;cases h2;done));unfold UG at g7;rw[g7];clear y8 v9 g9 g7 b6 m1)
  | (obtain⟨W9,rfl⟩:∃W9,W9=W8:=⟨_,rfl⟩
     have n1:=HN.out.2.trans<|Qu d9.out m;have d:=o.out;rw[<-n1]at d;have d8:=ZeP d;clear y8 d n1)
 all_goals
  clear o u a5 E d9 HC h3 hc;obtain⟨x9,d⟩:∃x9,PSt w W9 (xz<|xj Z) g x9 Q:=⟨_,d8.out⟩;obtain⟨c0,d0,e0⟩:=VE<|d.rd 0 Z0;obtain⟨c1,d1,e1⟩:=VE<|d.rd 1 Z0;obtain⟨c2,d2,e2⟩:=VE<|d.rd 2 Z0;obtain⟨c3,d3,e3⟩:=VE<|d.rd 3 Z0;obtain⟨c4,d4,e4⟩:=VE<|d.rd 4 Z0;obtain⟨y9,o4⟩:=d.F;rw[e0,e1,e2,e3,e4]at y9;have Y:=Nx hg rg (n:=(m:Int)) Z0 (W:=W9) (λb A=>A.2.1) d.rd;unfold ZA at Y;rw[e0,e1,e2,e3,e4]at Y;have E:=ZeP<|And.intro e0<|And.intro e1<|And.intro e2<|And.intro e3 e4;have a5:=ZeP d;clear d8 d e0 e1 e2 e3 e4;cases g3:Xk g q m;case false=>
   have k9:i3=(0,Hp.zero,7):=by rw[i5.out,g3];rfl
   rw[g3]at Y;subst k9
   go_wp2_with (first
    |(go_at_call 24;go_loud (refine Y.mono ?_;clear Y;rintro e f ⟨rfl,S⟩;have B:=a5.out.below S;obtain⟨t0,r9⟩:=B.R;have a:=ZeP B;clear S B)))
   have r3:=WU a.out.da (.int .u64 0) (.int .i64 0) (.int .i64 0) (.bool xw) (.int .i64 0) (.slice U 0 0) (.slice U 0 0) (.slice U 0 0) (.slice U 0 0)<|.slice U 0 0;refine Zfp (v:=.tuple #[.int .u64 0,.agg ZN,.int .i64 7]) ?_ rfl ?_
   .simp[results,Try.results12,go_sem,r3,ZN]
   exact⟨λ_=>.slice U 0 0,rfl,XT a.out.cx Z0 _ _ _ _ _ _ _ _ _ _,jo _ _,λ_=>RD _ _⟩
  case true=>
   have o8:I (Zu g 1)=I g.ab:=rfl;have h0:(I g.H:Int)+I g.ab+Yu q+m<=g.cap:=by simpa[Xk]using g3
   have j2:=rg.ml;obtain⟨K,hK⟩:∃K,m+I (Zu g 1)=K:=⟨_,rfl⟩;have m4:K<=4096:=Z0;have wk:IntKind.i64.wrap ((m:Int)+(I (Zu g 1):Int))=(K:Int):=Ze0;have o9:=Z42 (m:=m) (K:=K) Z0 Z0;have s5:((0:Int)< (m:Int))=True:=Zhi Z0;have HB:=ZeP<|And.intro h0<|And.intro j2<|And.intro hK m4;rw[g3]at Y;clear h0 j2 hK m4 o8
   go_upto_region 17 with (first
    |(go_at_call 24;go_loud (refine Y.mono ?_;clear Y;rintro e f ⟨rfl,S⟩;have B:=a5.out.below S;obtain⟨n7,m2⟩:=B.F;rw[E.out.1,E.out.2.1,E.out.2.2.1,E.out.2.2.2.1,E.out.2.2.2.2]at n7;have a:=ZeP B;clear S B y9 o4)))
   obtain⟨O,D⟩:∃O,f.alloc (.cells (madeCells #[.int .u64 0] K) 24)=O:=⟨_,rfl⟩;rw[D];have b8:O.ownsRow (xz<|xj f) 24 1 (.slice (J ⟨xz<|xj f,0,U⟩) m K) m<|Yg .u64<|List.replicate m 0:=by rw[<-D];exact Z41 (ZeQ _) (by have:=HB.out.2.2.1;omega) HB.out.2.2.2
   have j6:xz (xj O)=xz (xj f)+1:=by rw[<-D];simp
   have j3:∀b,b<xz (xj f)->O.heap[b]?=f.heap[b]? :=λb C=>by rw[<-D];exact ZeR _ _ _ C
   have m9:O.cell? ⟨xz<|xj f,0,U⟩=J (.int .u64 0):=by rw[b8.cellAt 0 Z0];simp[Yg,show 0<m by omega]
   have n0:=Z5m b8 (i:=0) Z0;have X:=(b8.stored 0<|.int .u64 wd).1;have i8:Below (xz<|xj w) w O:=by rw[<-D];exact a.out.cx.alloc a.out.cx.size _
   have HO:=ZeP<|And.intro X<|And.intro j6<|And.intro j3 i8;clear b8 X j3 i8 D n7 m2 o9 wk j6;go_upto_region 18 with fail;obtain⟨P,H⟩:∃P,O.setCell ⟨xz<|xj f,0,U⟩ (.int .u64 wd)=P:=⟨_,rfl⟩;rw[H];have n5:xz (xj P)=xz (xj f)+1:=by rw[<-H];simpa[World.setCell]using HO.out.2.1
   have b7:∀b,b<xz (xj f)->P.heap[b]?=f.heap[b]? :=λb C=>by rw[<-H];exact(Zf4 _ _ _ _ (by show b≠xz (xj f);omega)).trans (HO.out.2.2.1 b C)
   have e7:Below (xz<|xj w) w P:=by rw[<-H];exact HO.out.2.2.2.setCell (by have:=a.out.cx.size;exact this) _
   have q5:=Y9 a.out.br;have g4:=(b7 _ q5).trans a.out.br;unfold VD at g4;rw[E.out.1,E.out.2.1,E.out.2.2.1,E.out.2.2.2.1,E.out.2.2.2.2]at g4;have q9:∀j,P.cell? ⟨xz<|xj Z,j,U⟩=(#[.int .u64 g.base,.int .i64 g.cap,.int .i64 g.to,.bool g.Y,.int .i64 g.Z,.slice c0 (I<|Zu g 0) d0,.slice c1 (I<|Zu g 1) d1,.slice c2 (I<|Zu g 2) d2,.slice c3 (I<|Zu g 3) d3,.slice c4 (I<|Zu g 4) d4]:Array Value)[j]? :=λj=>ZeU _ _ _ _ _ _ g4;have j4:Rd P (λc=>xz (xj w)+3<=c/\c<xz (xj f)/\c≠xz (xj Z)) (.sl<|g.ab.map vu)<|.slice c1 (I<|Zu g 1) d1:=by
    have:=a.out.rd 1 Z0;rw[E.out.2.1]at this;exact this.keep (λb C=>b7 b C.2.1) λ_ q=>q
   have X:P.ownsRow (xz<|xj f) 24 1 (.slice (J ⟨xz<|xj f,0,U⟩) m K) m<|Yg .u64<|wd::List.replicate n 0:=by
    have:=HO.out.1;rw[H,<-KW]at this;rw[show wd::List.replicate n 0=(List.replicate m 0).set 0 wd by rw[<-hm,List.replicate_succ];rfl];exact this
   obtain⟨e6,g5,l3,m7,e9,T⟩:=Z5Y Z0 X j4 (by have:=HB.out;have:I (Zu g 1)=I g.ab:=rfl;omega) 28;obtain⟨M,d6⟩:∃M,Vl g wd n=M:=⟨_,rfl⟩;obtain⟨N,hx⟩:∃N:Z5,(λj=>if j=1 then .slice e6 (m+I g.ab) g5 else x9 j)=N:=⟨_,rfl⟩;have i2:=(T.block _ Z0 ZdP).trans g4;have r1:∀j,l3.cell? ⟨xz<|xj Z,j,U⟩=(#[.int .u64 g.base,.int .i64 g.cap,.int .i64 g.to,.bool g.Y,.int .i64 g.Z,.slice c0 (I<|Zu g 0) d0,.slice c1 (I<|Zu g 1) d1,.slice c2 (I<|Zu g 2) d2,.slice c3 (I<|Zu g 3) d3,.slice c4 (I<|Zu g 4) d4]:Array Value)[j]? :=λj=>ZeU _ _ _ _ _ _ i2;have o3:∀j,l3.frozen? ⟨xz<|xj Z,j,U⟩=xw:=λj=>Yd i2;obtain⟨e5,L⟩:∃e5,l3.setCell ⟨xz<|xj Z,6,U⟩ (.slice e6 (m+I g.ab) g5)=e5:=⟨_,rfl⟩;have h6:N 0=.slice c0 (I<|Zu g 0) d0:=by rw[<-hx];exact E.out.1
   have h7:N 1=.slice e6 (m+I g.ab) g5:=by rw[<-hx];rfl
   have h9:N 2=.slice c2 (I<|Zu g 2) d2:=by rw[<-hx];exact E.out.2.2.1
   have i0:N 3=.slice c3 (I<|Zu g 3) d3:=by rw[<-hx];exact E.out.2.2.2.1
   have i1:N 4=.slice c4 (I<|Zu g 4) d4:=by rw[<-hx];exact E.out.2.2.2.2
   have n6:=T.size;have b9:PSt w e5 (xz<|xj Z) M N Q:=by
    have:=a.out.place (W':=e5) (l:=(wd::List.replicate n 0)++g.ab) (v:=.slice e6 (m+I g.ab) g5) ?_ ?_ ?_ ?_ ?_;rw[<-d6,<-hx];exact this;rw[<-L];simp[World.setCell];omega;intro b C o6;rw[<-L];exact(Zf4 _ _ _ _ o6).trans ((T.block _ Z0 ZdP).trans<|b7 b C);rw[<-L];unfold VD;have e0:=E.out.1;have e2:=E.out.2.2.1;have e3:=E.out.2.2.2.1;have e4:=E.out.2.2.2.2;simp[World.setCell,Zfm,i2,e0,e2,e3,e4];rw[<-L];refine Xo e9 λb C=>Zf4 _ _ _ _ ?_;have:=(e9.lt b C).1;show b≠xz (xj Z);omega;rw[<-L];exact(Below.grown e7 T e7.size (λr hr=>by cases hr;have:=a.out.cx.size;omega)).setCell (by show xz (xj w)<=xz (xj Z);have:=a.out.nB;omega) _
   go_upto_region 19 with (at_builtin;refine Lib.wpList_append_run _ rfl _ _ 28 28 rfl _ _ rfl rfl _ _ m7 ?_);have h0:(I g.H:Int)+I g.ab+m<=g.cap:=by have:=HB.out.1;omega
   have o7:ZJ (Zv M)=xk:=by rw[<-d6];exact Z60 rg.bb hm h0
   have hu:ZC wd:=by
    have:=Mw n pt;rw[n3]at this;unfold ZC;dsimp only at this;omega
   have o5:M.ok:=by rw[<-d6];exact Z5W hg hu (by have:=HB.out;have:I (Zu g 1)=I g.ab:=rfl;omega)
   have n4:Y2 (Zv M) 2 0=(ZD (Zv M) 2,0)/\ZC (ZD (Zv M) 2)/\Xj (ZD (Zv M) 2)=(Y6 (Zv M) 2 0,0):=by
    have:=Z61 (g:=g) (wd:=wd) (n:=n) (by rw[d6];exact o7);rw[d6]at this;exact this
   obtain⟨n8,m3⟩:=b9.F;rw[h6,h7,h9,i0,i1]at n8;have h5:=Tn (w:=e5) (λb C=>C.2.1) b9.rd;unfold ZA at h5;rw[h6,h7,h9,i0,i1]at h5;have l9:=ZeP b9;have HX:=ZeP<|And.intro h6<|And.intro h7<|And.intro h9<|And.intro i0 i1;have HP:=ZeP<|And.intro n4 o5;clear g4 q9 j4 X m7 e9 T i2 r1 o3 L b9 h6 h7 h9 i0 i1 n4 n6 H b7 e7 n5 m9 n0 hx
   go_upto_region 25 with (first
    |(go_at_call 27;go_loud (refine h5.mono ?_;clear h5;rintro e q7 ⟨rfl,i9⟩;unfold Vi;have l4:=ZeP i9;clear i9))
    |(go_at_call 26;go_loud (refine(jw HP.out.2.bb 2 0 q7).mono ?_;rintro e q8 ⟨rfl,j0⟩;rw[HP.out.1.1];dsimp only;have l5:=ZeP j0;clear j0))
    |(go_at_call 28;go_loud (refine(MR HP.out.1.2.1 q8).mono ?_;rintro e t2 ⟨rfl,j1⟩;rw[HP.out.1.2.2];dsimp only;have d5:=((l9.out.below l4.out).below l5.out).below j1;obtain⟨r2,r4⟩:=d5.F;rw[HX.out.1,HX.out.2.1,HX.out.2.2.1,HX.out.2.2.2.1,HX.out.2.2.2.2]at r2;obtain⟨t1,s3⟩:=d5.R;have i6:=ZeP d5;clear j1 d5 n8 m3)))
   have k9:i3=(Y6 (Zv M) 2 0,M,0):=by rw[i5.out,g3,d6];rfl
   subst k9;go_region;all_goals
    go_wp2;try simp only[Exit.inBlock,Exit.then]
    have z:=WU i6.out.da (.int .u64 M.base) (.int .i64 M.cap) (.int .i64 M.to) (.bool M.Y) (.int .i64 M.Z) (.slice c0 (I<|Zu g 0) d0) (.slice e6 (m+I g.ab) g5) (.slice c2 (I<|Zu g 2) d2) (.slice c3 (I<|Zu g 3) d3)<|.slice c4 (I<|Zu g 4) d4;refine Zfp (v:=.tuple #[.int .u64<|Y6 (Zv M) 2 0,ZA M N,.int .i64 0]) ?_ rfl ?_
    .unfold ZA;rw[HX.out.1,HX.out.2.1,HX.out.2.2.1,HX.out.2.2.2.1,HX.out.2.2.2.2];simp[results,Try.results12,go_sem,z]
    exact Z5Z i6.out _ _ _ _ _ _ _ _ _ _ _
end Vm
end
section
namespace Vm
open Go Go.Proofs
def FJ{h:Hp}(y:h.ok)(z:h.to=0\/h.to=1):(X0 h).ok:=by
 have:=Ad y z<|I h.E;unfold X0 TA;obtain⟨d,f,g,j,k,l,r,t,n,o,p,u,x,q⟩:=this;split;exact⟨d,f,g,j,k,l,r,t,n,o,p,u,x,q⟩;exact⟨d,f,g,j,k,l,ZfO _,ZfO _,n,o,p,λw a=>(by cases a),λw a=>(by cases a),q⟩
end Vm
end
section
namespace Vm
open Go Go.Proofs Go.RowKit
def Z01(w:Z3)(G:Z4)(H:∀b,G b->b<xz (xj w))(h:Hp)(S:h.ok)(d:Z5)(M:∀j,j<5->Rd w G (.sl<|(Zu h j).map vu) (d j))(n pt:Int)(L:(Xp n pt).2=1\/((Xp n pt).2=0/\Yt h=xw))(Q:Prop):
  Calls Sol.prog 12 #[ZA h d,.agg #[.int .i64 n,.int .i64 pt]] w (SI w (0,Hp.zero,1) Q):=by
 have C:∀W,Below (xz<|xj w) w W->Calls Sol.prog 17 #[ZA h d] W λe w'=>e=.returned (.bool<|Yt h)/\Below (xz<|xj W) W w':=λW K=>
  Lr (w:=W) (G:=G) (x:=d) S (λb f=>ZeV (H b f) K.size) (λj T=>(M j T).keep (λb f=>K.block b<|H b f) λ_ q=>q)
 have o:=ZeP<|Mx (s:=n) (p:=pt);have r:=ZeP C;obtain⟨R,A,Y,g⟩:=Oy w (.cells (VD h d) 30)<|.cells #[.int .i64 n,.int .i64 pt] 43;have z:=ZeP g;obtain⟨N,Z,_,_⟩:=g.F;obtain⟨P,D,y⟩:∃P D,Xp n pt=(P,D):=⟨_,_,rfl⟩;rw[y]at L;unfold VD at A N;clear M C g;unfold ZA;have key:∀W,SI w (0,Hp.zero,1) Q (.returned<|.tuple #[.int .u64 0,.agg ZN,.int .i64 1]) W=SI w (0,Hp.zero,1) Q (.returned<|.tuple #[.int .u64 0,ZA Hp.zero (λ_=>.slice U 0 0),.int .i64 1]) W:=λ_=>rfl;obtain rfl|⟨rfl,X⟩:=L;case' inr=>rw[X]at r
 all_goals
  go_enter Sol.func12,Try.ntmps12
  go_wp2_with (first
   |(go_at_call 22;go_loud (refine(o.out R).mono ?_;rintro e w1 ⟨rfl,t⟩;rw[y];dsimp only;have k:=z.out.below t;obtain⟨O,s1,z1,f1⟩:=k.F;unfold VD at O;unfold ZN at z1;have a:=ZeP k;clear t k o N Z))
   |(go_at_call 17;go_loud (refine(r.out _ a.out.cx).mono ?_;rintro e w2 ⟨rfl,u⟩;have l:=a.out.below u;obtain⟨p2,s2,z2,f2⟩:=l.F;unfold ZN at z2;have a:=ZeP l;clear u l O s1)))
  have B:=WU a.out.b2 (.int .u64 0) (.int .i64 0) (.int .i64 0) (.bool xw) (.int .i64 0) (.slice U 0 0) (.slice U 0 0) (.slice U 0 0) (.slice U 0 0)<|.slice U 0 0;refine Zfp (v:=.tuple #[.int .u64 0,.agg ZN,.int .i64 1]) ?_ rfl ?_
  .simp[results,Try.results12,go_sem,B,ZN]
  exact⟨λ_=>.slice U 0 0,rfl,XT a.out.cx Z0 _ _ _ _ _ _ _ _ _ _,jo _ _,λ_=>RD _ _⟩
def XA(h:Hp)(p:Pts)(n:Nat):Hp:=ZR (if h.Y=xw/\Xk h p (n+1:Nat)=xw then X0 h else h)<|n+1
def Ql(h:Hp)(p q:Pts)(n:Nat)(wd:Int):Int×Hp×Int:=if Xk (XA h p n) q (n+1:Nat)then(Y6 (Zv<|Vl (XA h p n) wd n) 2 0,Vl (XA h p n) wd n,0)else(0,Hp.zero,7)
def FM{h:Hp}{p:Pts}(r:Rt h p)(hc:h.Y=xw):∃q,Rt (X0 h) q:=by
 obtain⟨g,q,_,e,a,_⟩:=Z1N r hc;exact⟨_,by rw[e];exact a⟩
def Z00(w:Z3)(G:Z4)(z:∀b,G b->b<xz (xj w))(h:Hp)(t:h.ok)(a:Z5)(C:∀j,j<5->Rd w G (.sl<|(Zu h j).map vu) (a j))(n:Nat)(pt wd:Int)(B:n<=255)(x:Xp n pt=(wd,0)){p:Pts}(r:Rt h p):
  ∃q,Rt (XA h p n) q/\(XA h p n).ok/\Calls Sol.prog 12 #[ZA h a,.agg #[.int .i64 (n:Nat),.int .i64 pt]] w (SI w (Ql h p q n wd)<|h.Y=xw/\Xk h p (n+1:Nat)=xk):=by
 have key:∀d p8,d.ok->Rt d p8->(if h.Y=xw/\Xk h p (n+1:Nat)=xw then X0 h else h)=d->((h.Y=xk/\d=h)\/(h.Y=xw/\Xk h p (n+1:Nat)=xk/\d=h)\/(h.Y=xw/\Xk h p (n+1:Nat)=xw/\d=X0 h))->∃q,Rt (XA h p n) q/\(XA h p n).ok/\Calls Sol.prog 12 #[ZA h a,.agg #[.int .i64 (n:Nat),.int .i64 pt]] w (SI w (Ql h p q n wd)<|h.Y=xw/\Xk h p (n+1:Nat)=xk):=by
  intro d p8 o y e A;obtain⟨q,sc⟩:=y.dg<|n+1;have u:XA h p n=ZR d (n+1):=by unfold XA;rw[e]
  have k:(XA h p n).ok:=by rw[u];exact TP o y _
  have l:Rt (XA h p n) q:=by rw[u];exact sc.rt
  exact⟨q,l,k,Z02 w G z h t a C n (n+1) pt wd B rfl x r k l o y A u rfl<|λq=>q⟩
 by_cases f:h.Y=xk;exact key h p t r (by rw[f];simp)<|.inl ⟨f,rfl⟩;have f:h.Y=xw:=Ze6;by_cases g:Xk h p (n+1:Nat)=xk;exact key h p t r (by rw[g];simp)<|.inr<|.inl ⟨f,g,rfl⟩;have g:Xk h p (n+1:Nat)=xw:=by simpa using g
 obtain⟨q,F⟩:=FM r f;have D:h.to=0\/h.to=1:=(XK.1 r.bb).2.2.2.2.1;exact key (X0 h) q (FJ t D) F (by rw[g,f];simp)<|.inr<|.inr ⟨f,g,rfl⟩
end Vm
end
section
namespace Vm
open Go Go.Proofs
section
section
variable {h:Hp}{p:Pts}
def V9(h:Hp)(p:Pts):Int:=I h.H+I h.ab+Yu p
def Rt.ir(r:Rt h p)(n:Nat){q:Pts}(s:Rt (ZR h n) q):V9 (ZR h n) q<=V9 h p/\((ZR h n).Y=xk->V9 (ZR h n) q=V9 h p):=by
 obtain⟨g,a⟩:=r.dg n;rw[s.gz a.rt]at a;have d:=a.ab;unfold V9;cases f:(ZR h n).Y;have:=a.oz;rw[s.rf f,d];exact⟨Z0,λh=>Ze2⟩;have:=(a.kw f).2.2;rw[d];exact⟨Z0,λ_=>Z0⟩
end
end
end Vm
end
section
namespace Vm
open Go Go.Proofs Go.RowKit
def PE(G:Z4)(w:Z3)(r:Int×Hp×Int)(e:Ending)(w':Z3):Prop:=
 ∃x,e=.returned (.tuple #[.int .u64 r.1,ZA r.2.1 x,.int .i64 r.2.2])/\Below (xz<|xj w) w w'/\∀j,j<5->Rd w' (λc=>G c\/(xz (xj w)<=c/\c<xz (xj w'))) (.sl<|(Zu r.2.1 j).map vu) (x j)
def Z8Q{f:Zq}(n:Vv Sol.prog f=xk){h:Hp}{y:V}(a:Uw y=xk){r:Int×Hp×Int}
  (hc:∀(w:Z3) (G:Z4) (d:Z5),(∀b,G b->b<xz (xj w))->(∀j,j<5->Rd w G (.sl<|(Zu h j).map vu) (d j))->Calls Sol.prog f #[ZA h d,Tv y] w (PE G w r)):
  VC Sol.prog f xw [ZE h,y] (.am [vu r.1,ZE r.2.1,vi r.2.2]):=by
 refine⟨n,λw G vs q o k=> ?_⟩;have r0:=k 0 _ rfl;have C:=jU a<|k 1 _ rfl;have t:vs=#[vs.getD 0 undef,vs.getD 1 undef]:=by
  have g:vs.size=2:=o;apply Zhc;simp[g];intro i D F;have u:i<2:=Z0
  match i,u with
  |0,_=>simp[Array.getD,g]
  |1,_=>simp[Array.getD,g]
 obtain⟨d,p,B⟩:=zW r0;rw[t,p,C];refine(hc w G d q B).mono ?_;rintro e H ⟨x,rfl,l,A⟩;refine⟨_,rfl,l,.am _ _ rfl ?_⟩;intro i y a
 match i,a with
 |0,a=>cases a;exact .int _ _
 |1,a=>cases a;exact J8 λj z=>(A j z).mono λb l=>ZeI
 |2,a=>cases a;exact .int _ _
def OO{f:Zq}(g:Vv Sol.prog f=xk){h:Hp}{y:V}(q:Uw y=xk){r:Int×Hp×Int}{Q:Prop}
  (hc:∀(w:Z3) (G:Z4) (a:Z5),(∀b,G b->b<xz (xj w))->(∀j,j<5->Rd w G (.sl<|(Zu h j).map vu) (a j))->Calls Sol.prog f #[ZA h a,Tv y] w (SI w r Q)):
  VC Sol.prog f xw [ZE h,y] (.am [vu r.1,ZE r.2.1,vi r.2.2]):=by
 refine Z8Q g q λw G a l p=>(hc w G a l p).mono ?_;rintro e t ⟨x,k,d,o,_⟩;exact⟨x,k,d,λj n=>(o j n).mono λb d=>.inr d⟩
def Z03{h:Hp}(g:h.ok){p:Pts}(r:Rt h p){n:Nat}{pt wd:Int}(z:n<=255)(j:Xp n pt=(wd,0)):∃q,Rt (XA h p n) q/\(XA h p n).ok/\VC Sol.prog 12 xw [ZE h,WW n pt] (.am [vu (Ql h p q n wd).1,ZE (Ql h p q n wd).2.1,vi (Ql h p q n wd).2.2]):=by
 obtain⟨t,x⟩:∃t,XA h p n=t:=⟨_,rfl⟩;have key:∃q,Rt (XA h p n) q/\(XA h p n).ok:=by
  by_cases a:h.Y=xw/\Xk h p (n+1:Nat)=xw;obtain⟨q,d⟩:=FM r a.1;have B:h.to=0\/h.to=1:=(XK.1 r.bb).2.2.2.2.1;obtain⟨f,sc⟩:=d.dg<|n+1;unfold XA;rw[if_pos a];exact⟨f,sc.rt,TP (FJ g B) d _⟩;obtain⟨f,sc⟩:=r.dg<|n+1;unfold XA;rw[if_neg a];exact⟨f,sc.rt,TP g r _⟩
 obtain⟨q,d,k⟩:=key;refine⟨q,d,k,OO Z2 (y:=WW n pt) rfl (Q:=h.Y=xw/\Xk h p (n+1:Nat)=xk) λw G o u A=> ?_⟩;obtain⟨f,l,_,a⟩:=Z00 w G u h g o A n pt wd z j r;rw[d.gz l]at a;exact a
def Ar:Hp:=⟨10,5,0,xw,0,[],[],[],[],[0]⟩
def Nw{h:Hp}{p:Pts}(r:Rt h p)(n:Int):Xk h p n=decide ((I h.H:Int)+I h.ab+Ru h+n<=h.cap):=by unfold Xk;rw[r.na]
end Vm
end
section
namespace Vm
open Go
open Go.Proofs
def BK:Fn:=⟨4,[0,1,4,6],pQ [pR [pV 2<|pI 0],pi 3 (pl (.s 0)<|pI 0)<|pR [pV 0<|.un .neg<|pa (.s 0)<|pI 1]]<|px [pV 2<|.bp .rem (.s 0)<|.s 1],[(2,.v)]⟩
def EN:ZM Sol.prog fresh sig [.fz,.fz] [] Try.f10=J BK:=Z2
def IJ:Fn:=⟨8,[0,1,2,3,4,6,5,7],pQ [pR [(2,pS 0 10),(3,pS 1 2),pV 4 pF],pC [pK 8 12 [.mm 2 0 10,.mm 3 0 2]] [(5,pM (.sz (.ext (.s 8) 1) 10) 10),pV 6<|.ext (.s 8) 0,pV 7<|.ext (.s 8) 2]]<|px [pV 4<|pe (.s 7)<|pI 0],[(4,.v)]⟩
def c13:ZM Sol.prog fresh sig [.fz,.fz] [] Try.f13=J IJ:=Z2
def IP:Fn:=⟨8,[0,2,3,8,7,9,5,6],pQ [pR [pV 1<|pI 0],pR [pV 2<|pI 0],pQ [pR [pV 3<|pI 0,pV 4<|.len<|.s 0,pV 7<|.s 0]]<|po [0,1,2,3,4,7] 5 (pl (.s 3)<|.s 4) (pQ [pR [pV 6<|.ae (.ba (.s 7) (.s 3) 1) 0]]<|pR [pV 2<|pa (.s 2)<|.s 6])<|pc 3]<|px [pV 1<|.s 2],[(1,.v)]⟩
def c19:ZM Sol.prog fresh sig [.fz] [] Try.f19=J IP:=Z2
def p3:Fn:=⟨20,[0,1,2,4,5,6,7,8,53,9,10,11,12,13,14,15,104,107,16,17],pQ [pR [(2,pS 0 7),pV 3 pF],pC [pK 20 6 []] [pV 4<|.s 20],pC [pK 21 7 [.mm 2 0 7]] [(5,pS 21 10)],pC [.call 22 [] (.id 8) xk xw [.mm 5 0 10]] [(6,pM (.sz (.ext (.s 22) 0) 5) 5),pV 7<|.ext (.s 22) 1],pQ [.ao ⟨[.lt 23 []<|pn (.s 7)<|pI 0,.lt 24 []<|.ite (.s 23) pT<|pl (.m 6 4)<|.m 6 0,.lt 25 []<|.ite (.s 24) pT<|pj (.m 6 4)<|pa (.m 6 0)<|.m 6 1],[([(23,xw)],pl (.m 6 4)<|.m 6 0),([(24,xw)],pj (.m 6 4)<|pa (.m 6 0)<|.m 6 1),([(25,xw)],.ed xk (pe (.m 6 4)<|pI 0)<|.un .not<|.m 5 3)],[pV 8<|.ite (.s 25) pT<|.ed xk (pe (.m 6 4)<|pI 0)<|.un .not<|.m 5 3]⟩]<|pw (.s 8)<|px [pV 3 pF],pC [pK 26 9 [.mm 5 0 10,.m 6 4]] [(9,pM (.sz (.ext (.s 26) 0) 10) 10),pV 10<|.ext (.s 26) 1],pC [pK 27 10 [.s 1,pI 40]] [pV 11<|.s 27],pC [pK 28 9 [.mm 5 0 10,.s 11]] [(12,pM (.sz (.ext (.s 28) 0) 10) 10),pV 13<|.ext (.s 28) 1],pC [.call 29 [] (.id 8) xk xw [.mm 12 0 10]] [(14,pM (.sz (.ext (.s 29) 0) 5) 5),pV 15<|.ext (.s 29) 1],pQ [.ao ⟨[.lt 30 []<|pn (.s 10)<|pI 0,.lt 31 []<|.ite (.s 30) pT<|.m 9 3,.lt 32 []<|.ite (.s 31) pT<|pn (.s 13)<|pI 0,.lt 33 []<|.ite (.s 32) pT<|pn (.s 15)<|pI 0,.lt 34 []<|.ite (.s 33) pT<|pn (.m 14 4)<|.mx (pb (.m 6 4)<|.s 11)<|pI 0],[([(30,xw)],.m 9 3),([(31,xw)],pn (.s 13)<|pI 0),([(32,xw)],pn (.s 15)<|pI 0),([(33,xw)],pn (.m 14 4)<|.mx (pb (.m 6 4)<|.s 11)<|pI 0),([(34,xw)],pn (.m 14 3)<|.m 6 3)],[pV 16<|.ite (.s 34) pT<|pn (.m 14 3)<|.m 6 3]⟩]<|pw (.s 16)<|px [pV 3 pF],pi 17 (pe (.m 6 4)<|pI 0)<|px [pV 3<|.s 4],pC [pK 35 9 [.mm 5 0 10,pb (.m 6 4)<|pI 1]] [(18,pM (.sz (.ext (.s 35) 0) 10) 10),pV 19<|.ext (.s 35) 1],.ao ⟨[.lt 36 []<|.s 4,.lt 37 []<|.ite (.s 36) (pe (.s 19)<|pI 0) pF],[([(36,xk)],pe (.s 19)<|pI 0),([(37,xk)],.m 18 3)],[pV 3<|.ite (.s 37) (.m 18 3) pF]⟩] .ret,[(3,.v)]⟩
def c3:ZM (Yc Try.prog) fresh sig [.fz,.fz] [] Try.f3=J p3:=Z2
def p4:Fn:=⟨16,[0,1,2,4,5,6,7,8,9,10,11,12,13,14,15,16],pQ [pR [(2,pS 0 7),pV 3 pF],pC [pK 16 6 []] [pV 4<|.s 16],pC [pK 17 7 [.mm 2 0 7]] [(5,pS 17 10)],pC [.call 18 [] (.id 8) xk xw [.mm 5 0 10]] [(6,pM (.sz (.ext (.s 18) 0) 5) 5),pV 7<|.ext (.s 18) 1],pC [pK 19 10 [.s 1,pI 40],pK 20 9 [.mm 5 0 10,.s 19]] [(8,pM (.sz (.ext (.s 20) 0) 10) 10),pV 9<|.ext (.s 20) 1],pC [.call 21 [] (.id 8) xk xw [.mm 8 0 10]] [(10,pM (.sz (.ext (.s 21) 0) 5) 5),pV 11<|.ext (.s 21) 1],pC [pK 22 11 [.mm 5 0 10]] [(12,pM (.sz (.ext (.s 22) 0) 10) 10),pV 13<|.ext (.s 22) 1],pC [.call 23 [] (.id 8) xk xw [.mm 12 0 10]] [(14,pM (.sz (.ext (.s 23) 0) 5) 5),pV 15<|.ext (.s 23) 1],.ao ⟨[.lt 24 []<|.s 4,.lt 25 []<|.ite (.s 24) (pe (.s 7)<|pI 0) pF,.lt 26 []<|.ite (.s 25) (pe (.s 9)<|pI 0) pF,.lt 27 []<|.ite (.s 26) (pe (.s 11)<|pI 0) pF,.lt 28 []<|.ite (.s 27) (pe (.s 13)<|pI 0) pF,.lt 29 []<|.ite (.s 28) (pe (.s 15)<|pI 0) pF,.lt 30 []<|.ite (.s 29) (pg (.m 6 2)<|pI 0) pF,.lt 31 []<|.ite (.s 30) (pL (pa (.m 6 3)<|.m 6 2)<|.m 5 1) pF,.lt 32 []<|.ite (.s 31) (pg (.m 10 2)<|.m 6 2) pF,.lt 33 []<|.ite (.s 32) (pg (.m 14 2)<|.m 10 2) pF,.lt 34 []<|.ite (.s 33) (pe (.m 14 2)<|pb (pb (.m 5 1)<|.len<|.m 12 5)<|.len<|.m 12 6) pF,.lt 35 []<|.ite (.s 34) (pe (.m 14 1)<|pI 0) pF,.lt 36 []<|.ite (.s 35) (pe (.m 14 0)<|pI 0) pF,.lt 37 [(36,xk)]<|pe (.m 10 2)<|.m 6 2],[([(24,xk)],pe (.s 7)<|pI 0),([(25,xk)],pe (.s 9)<|pI 0),([(26,xk)],pe (.s 11)<|pI 0),([(27,xk)],pe (.s 13)<|pI 0),([(28,xk)],pe (.s 15)<|pI 0),([(29,xk)],pg (.m 6 2)<|pI 0),([(30,xk)],pL (pa (.m 6 3)<|.m 6 2)<|.m 5 1),([(31,xk)],pg (.m 10 2)<|.m 6 2),([(32,xk)],pg (.m 14 2)<|.m 10 2),([(33,xk)],pe (.m 14 2)<|pb (pb (.m 5 1)<|.len<|.m 12 5)<|.len<|.m 12 6),([(34,xk)],pe (.m 14 1)<|pI 0),([(35,xk)],pe (.m 14 0)<|pI 0),([(36,xk),(37,xw)],.un .not<|.m 8 3),([(36,xk)],.ite (.s 37) pT<|.un .not<|.m 8 3)],[pV 3<|.ite (.s 36) (.ite (.s 37) pT<|.un .not<|.m 8 3) pF]⟩] .ret,[(3,.v)]⟩
def c4:ZM (Yc Try.prog) fresh sig [.fz,.fz] [] Try.f4=J p4:=Z2
def p5:Fn:=⟨14,[0,1,2,3,6,7,8,9,10,11,13,12,14,15],pQ [pR [(3,pS 0 7),pV 4 pF],pC [pK 14 6 []] [pV 5<|.s 14],pC [pK 15 7 [.mm 3 0 7]] [(6,pS 15 10)],pC [.call 16 [] (.id 8) xk xw [.mm 6 0 10]] [(7,pM (.sz (.ext (.s 16) 0) 5) 5),pV 8<|.ext (.s 16) 1],pC [pK 17 10 [.s 1,pI 60]] [(9,pM (.ag [.one<|.s 17,pI 0]) 2)],pC [pK 18 10 [.s 2,pa (.m 9 0)<|pI 1]] [(9,.m [.m 9 0,.one<|.s 18])],pC [pK 19 12 [.mm 6 0 10,.mm 9 0 2]] [(10,pM (.sz (.ext (.s 19) 1) 10) 10),pV 11<|.ext (.s 19) 0,pV 12<|.ext (.s 19) 2],pC [pK 20 13 [.mm 6 0 10,.mm 9 0 2]] [pV 13<|.s 20],.ao ⟨[.lt 21 []<|.s 5,.lt 22 []<|.ite (.s 21) (pe (.s 8)<|pI 0) pF,.lt 23 []<|.ite (.s 22) (.ed xw (.s 13)<|pe (.s 12)<|pI 0) pF,.lt 24 [(23,xk)]<|pl (.m 7 2)<|pa (pI 1)<|.m 9 0,.lt 25 []<|.ite (.s 23) (.ite (.s 24) pT<|.s 13) pF,.lt 26 [(25,xk)]<|pL (pa (pI 1)<|.m 9 0)<|.m 6 1,.lt 27 []<|.ite (.s 25) (.ite (.s 26) pT<|.un .not<|.s 13) pF,.call 28 [(27,xk)] (.id 13) xw xw [.mm 6 0 10,.ag [.m 9 0,pI 0]],.lt 29 []<|.ite (.s 27) (.ed xw (.s 13)<|.s 28) pF,.lt 30 [(29,xk)]<|pL (pa (pa (.m 7 3)<|pI 1)<|.m 9 0)<|.m 6 1],[([(21,xk)],pe (.s 8)<|pI 0),([(22,xk)],.ed xw (.s 13)<|pe (.s 12)<|pI 0),([(23,xk)],.ite (.s 24) pT<|.s 13),([(25,xk),(26,xw)],.un .not<|.s 13),([(25,xk)],.ite (.s 26) pT<|.un .not<|.s 13),([(27,xk)],.ed xw (.s 13)<|.s 28),([(29,xk),(30,xw)],.un .not<|.s 13),([(29,xk)],.ite (.s 30) pT<|.un .not<|.s 13)],[pV 4<|.ite (.s 29) (.ite (.s 30) pT<|.un .not<|.s 13) pF]⟩] .ret,[(4,.v)]⟩
def c5:ZM (Yc Try.prog) fresh sig [.fz,.fz,.fz] [] Try.f5=J p5:=Z2
def p6:Fn:=⟨6,[0,1,2,3,4,5],pQ [pR [pV 0 pF],.ao ⟨[],[([],.ag [pU 10,pI 5,pI 1,pT,pI 0,.lit [pU 2,pU 6],pN,.lit [pU 31,pU 0],pN,.lit [pU 31]])],[(1,.m [pU 10,pI 5,pI 1,pT,pI 0,.lit [pU 2,pU 6],pN,.lit [pU 31,pU 0],pN,.lit [pU 31]])]⟩,pC [.call 6 [] (.id 8) xk xw [.mm 1 0 10]] [(2,pM (.sz (.ext (.s 6) 0) 5) 5),pV 3<|.ext (.s 6) 1],pC [.call 7 [] (.id 8) xk xw [pY]] [(4,pM (.sz (.ext (.s 7) 0) 5) 5),pV 5<|.ext (.s 7) 1],.ao ⟨[.lt 8 []<|pe (.s 3)<|pI 0,.lt 9 []<|.ite (.s 8) (.ite (pe (.ae (.sz (.bn<|.mm 2 0 5) 5) 0)<|.ae (.sz (.bn<|.ag [pI 2,pI 0,pI 3,pI 2,pI 2]) 5) 0) (.ite (pe (.ae (.sz (.bn<|.mm 2 0 5) 5) 1)<|.ae (.sz (.bn<|.ag [pI 2,pI 0,pI 3,pI 2,pI 2]) 5) 1) (.ite (pe (.ae (.sz (.bn<|.mm 2 0 5) 5) 2)<|.ae (.sz (.bn<|.ag [pI 2,pI 0,pI 3,pI 2,pI 2]) 5) 2) (.ite (pe (.ae (.sz (.bn<|.mm 2 0 5) 5) 3)<|.ae (.sz (.bn<|.ag [pI 2,pI 0,pI 3,pI 2,pI 2]) 5) 3) (.ite (pe (.ae (.sz (.bn<|.mm 2 0 5) 5) 4)<|.ae (.sz (.bn<|.ag [pI 2,pI 0,pI 3,pI 2,pI 2]) 5) 4) pT pF) pF) pF) pF) pF) pF,.lt 10 []<|.ite (.s 9) (pe (.s 5)<|pI 1) pF,.call 11 [(10,xk)] (.id 13) xw xk [.mm 1 0 10,.ag [pI 2,pI 0]],.lt 12 []<|.ite (.s 10) (.s 11) pF,.call 13 [(12,xk)] (.id 13) xw xk [.mm 1 0 10,.ag [pI 3,pI 0]],.lt 14 []<|.ite (.s 12) (.un .not<|.s 13) pF,.call 15 [(14,xk)] (.id 13) xw xw [pY,.ag [pI 0,pI 0]]],[([(8,xk)],.ite (pe (.ae (.sz (.bn<|.mm 2 0 5) 5) 0)<|.ae (.sz (.bn<|.ag [pI 2,pI 0,pI 3,pI 2,pI 2]) 5) 0) (.ite (pe (.ae (.sz (.bn<|.mm 2 0 5) 5) 1)<|.ae (.sz (.bn<|.ag [pI 2,pI 0,pI 3,pI 2,pI 2]) 5) 1) (.ite (pe (.ae (.sz (.bn<|.mm 2 0 5) 5) 2)<|.ae (.sz (.bn<|.ag [pI 2,pI 0,pI 3,pI 2,pI 2]) 5) 2) (.ite (pe (.ae (.sz (.bn<|.mm 2 0 5) 5) 3)<|.ae (.sz (.bn<|.ag [pI 2,pI 0,pI 3,pI 2,pI 2]) 5) 3) (.ite (pe (.ae (.sz (.bn<|.mm 2 0 5) 5) 4)<|.ae (.sz (.bn<|.ag [pI 2,pI 0,pI 3,pI 2,pI 2]) 5) 4) pT pF) pF) pF) pF) pF),([(9,xk)],pe (.s 5)<|pI 1),([(12,xk)],.un .not<|.s 13),([(14,xk)],.un .not<|.s 15)],[pV 0<|.ite (.s 14) (.un .not<|.s 15) pF]⟩] .ret,[(0,.v)]⟩
def c6:ZM (Yc Try.prog) fresh sig [] [] Try.f6=J p6:=Z2
def p8:Fn:=⟨9,[0,1,2,3,9,4,5,17,6],pQ [pR [(1,pS 0 10),(2,.m [pI 0,pI 0,pI 0,pI 0,pI 0]),pV 3<|pI 0],pQ [pC [pK 9 17 [.mm 1 0 10]] [pV 4<|.un .not<|.s 9]]<|pw (.s 4)<|px [(2,pM (.ag [pI 0,pI 0,pI 0,pI 0,pI 0]) 5),pV 3<|pI 1],pC [pK 10 11 [.mm 1 0 10]] [(5,pM (.sz (.ext (.s 10) 0) 10) 10),pV 6<|.ext (.s 10) 1],pi 7 (pn (.s 6)<|pI 0)<|px [(2,pM (.ag [pI 0,pI 0,pI 0,pI 0,pI 0]) 5),pV 3<|.s 6],pC [pK 11 18 [.mm 1 0 10]] [pV 8<|.s 11],pC [pK 12 19 [.lit [.len<|.m 1 5,.len<|.m 1 6,.one<|.s 8]],pK 13 20 [.mm 1 0 10]] [(2,pM (.ag [pb (.len<|.m 1 5)<|.m 1 4,.one<|.s 8,pb (.m 1 1)<|.s 12,.one<|.s 13,pb (.m 5 4)<|.m 1 4]) 5),pV 3<|pI 0]] .ret,[(2,(.ag 5)),(3,.v)]⟩
def c8:ZM (Yc Try.prog) fresh sig [.fz] [] Try.f8=J p8:=Z2
end Vm
end
section
namespace Vm
open Go Go.Proofs
def Z5z{c n:Int}(hc:Yp c)(f:0<n):VC Sol.prog 10 xw [vi c,vi n]<|vi<|pick c n:=by
 refine ZS Sol.func10 follows Z2 EN rfl ?_;obtain⟨a,d⟩:=hc;by_cases h:c<0;simp[BK,h];simp(disch:=omega) only[Zy];refine⟨Z0,?_⟩;unfold pick;rw[if_pos h,ZfM Z0];simp[BK,h];refine⟨Z0,?_⟩;unfold pick;rw[if_neg h,ZfM Z0]
def x3{h:Hp}(g:h.ok)(j:Yt h=xw){n pt wd:Int}(a:Xp n pt=(wd,0)):VC Sol.prog 12 xw [ZE h,WW n pt]<|.am [vu 0,ZE Hp.zero,vi 1]:=
 OO Z2 (y:=WW n pt) rfl (r:=(0,Hp.zero,1)) (Q:=False) λw G d f k=>Z01 w G f h g d k n pt (.inr ⟨by rw[a],j⟩) _
def DK{h g:Hp}{n m x e:Int}(k:VC Sol.prog 12 xw [ZE h,WW n m]<|.am [vu x,ZE g,vi e]):VC Sol.prog 13 xw [ZE h,WW n m]<|.bool<|decide (e=0):=by
 refine ZS Sol.func13 follows Z2 c13 rfl ?_;simp only[ZE,WW]at k⊢;simp[IJ];refine Zz k Z1 ?_;simp
def Z8v{a b c:Int}(y:0<=a/\a<=100000)(r:0<=b/\b<=100000)(hc:0<=c/\c<=100000):VC Sol.prog 19 xw [.sl [vi a,vi b,vi c]]<|vi<|a+b+c:=by
 refine ZS Sol.func19 follows Z2 c19 rfl ?_;obtain⟨l,d⟩:∃l,l=[a,b,c]:=⟨_,rfl⟩;rw[show [vi a,vi b,vi c]=l.map vi by rw[d];rfl];have o:l[0]?=J a:=by rw[d];rfl
 have p:l[1]?=J b:=by rw[d];rfl
 have q:l[2]?=J c:=by rw[d];rfl
 have h:I l=3:=by rw[d];rfl
 obtain⟨F,k,w,x,n⟩:∃F:Nat->Int,F 0=0/\F 1=a/\F 2=a+b/\F 3=a+b+c:=⟨λi=>if i=0 then 0 else if i=1 then a else if i=2 then a+b else a+b+c,rfl,rfl,rfl,rfl⟩;simp[IP,h];refine VI 3 3 (λi=>[(2,.v<|vi<|F i),(3,.v<|vi i)]) (λ_=>True) (by simp[k]) Z1 trivial ?_;intro i z _;by_cases g:i<3;obtain⟨u,j,t,r⟩:∃u,l[i]?=J u/\F i+u=F (i+1)/\0<=F i+u/\F i+u<=300000:=by
  rcases(Z0:i=0\/i=1\/i=2)with rfl|rfl|rfl;exact⟨a,o,by show F 0+a=F 1;omega,Z0⟩;exact⟨b,p,by show F 1+b=F 2;omega,Z0⟩;exact⟨c,q,by show F 2+c=F 3;omega,Z0⟩
 have w1:=Zy (F<|i+1) Z0 Z0;have w2:=Zy ((i:Int)+1) Z0 Z0;have f:(i:Int)<3:=Z0;simp[h,g,f,j,Yl j,w1,w2,t];have:i=3:=Z0;subst this;simp[h,n]
def Bw(n m:Int):NoM<|WW n m:=.agg _ λc a=>by
 simp only[Zfb,Zgj,Zhu]at a;obtain rfl|rfl:=a<;>exact .int _ _
def Z4C(u:Int)(g:Hp)(e:Int):NoM<|.am [vu u,ZE g,vi e]:=.am _ λc a=>by
 simp only[Zfb,Zgj,Zhu]at a;obtain rfl|rfl|rfl:=a;exact .int _ _;exact UE _;exact .int _ _
def DV{h:Hp}{p:Pts}(j:h.ok)(r:Rt h p){n:Nat}{m:Int}(d:YA n m=xk):∃q,Rt (XA h p n) q/\(∃(w:Int) (g:Hp),VC (Yc Try.prog) 12 xw [ZE h,WW n m]<|.am [vu w,ZE g,vi (if Xk (XA h p n) q (n+1:Nat)then 0 else 7)])/\VC (Yc Try.prog) 13 xw [ZE h,WW n m] (.bool<|Xk (XA h p n) q (n+1:Nat)):=by
 have a:Xp n m=(2*((n:Int)+65536*m),0):=by unfold Xp;rw[if_pos d]
 obtain⟨q,l,_,k⟩:=Z03 j r (n:=n) (by have:=YB.1 d;omega) a;have e:(Ql h p q n<|2*((n:Int)+65536*m)).2.2=if Xk (XA h p n) q (n+1:Nat)then 0 else 7:=by unfold Ql;split<;>rfl
 have f:=DK k;rw[e]at k f;refine⟨q,l,⟨_,_,up k (KQ (UE h)<|Bw _ _)<|Z4C _ _ _⟩,?_⟩;have:=up f (KQ (UE h)<|Bw _ _)<|.bool _;rwa[show decide ((if Xk (XA h p n) q (n+1:Nat)=xk then(0:Int)else 7)=0)=Xk (XA h p n) q (n+1:Nat)by split<;>simp_all]at this
def Sk(a b c d e:Int):V:=.agg [vi a,vi b,vi c,vi d,vi e]
def ON{P:Z6} [Lg P]{f:Zq}{xs:Zr}{r:V}(h:VC P f xw xs r)(l:∀ {w:Z3} {G a:Z4} {v:Ze},Rd w G r v->Rd w a r v):VC P f xk xs r:=
 ⟨h.1,λw G vs d n o=>Lg.du (h.2 w G vs d n o) λ_ _ ⟨v,j,g,k⟩=>⟨v,j,g,l k⟩⟩
def Nb{w:Z3}{G G':Z4}{v:Ze}{a b c d e k:Int}(h:Rd w G (.am [Sk a b c d e,vi k]) v):Rd w G' (.am [Sk a b c d e,vi k]) v:=by
 cases h with
 |am _ vs g j=>
  refine .am _ _ g λi y f=> ?_
  match i,f with
  |0,f=>cases f;exact(j 0 _ rfl).gc (λy f=>by simp[Sk,V.cells]at f;obtain rfl|rfl|rfl|rfl|rfl:=f<;>rfl) λl g=>by cases g
  |1,f=>cases f;exact(j 1 _ rfl).gc (λy f=>by simp[V.cells]at f;subst f;rfl) λl g=>by cases g
instance fitOfM:FitF (Yc Try.prog) 8:=J2 (P:=Try.prog) Try.func8 rfl Z2
def LW(n:SJ){h:Hp}{p:Pts}(d:h.ok)(r:Rt h p):VC (Yc Try.prog) 8 xk [ZE h]<|.am [Sk ((I h.H:Int) -h.Z) (Yu p) (h.cap-V9 h p) (words<|V1<|vg h)<|(ZR h 9223372036854775807).Z-h.Z,vi 0]:=by
 refine ON ?_ Nb;refine ZS (P:=Yc Try.prog) Try.func8 J4 Z2 c8 rfl ?_;have k1:=Pw d r;have k:=DJ n d r;have f:=Pz d;rw[r.na]at f;have u:=r.room;have t:=r.ml;have l:=up (Z8v (a:=I h.H) (b:=I h.ab) (c:=Yu p) Z0 Z0 Z0) (Qe<|Ib [_,_,_])<|.int _ _;have j:=PV d;rw[r.om]at j;obtain⟨q,s⟩:=r.dg 9223372036854775807;have o:=TP d r 9223372036854775807;have:=o.H;have:=s.rt.iq;have:=s.rt.fu;have:=r.iq;have:=r.fu;unfold V9;generalize ZR h 9223372036854775807=g at*;have w1:=Zy ((I h.H:Int) -h.Z) Z0 Z0;have w2:=Zy (h.cap- ((I h.H:Int)+I h.ab+Yu p)) Z0 Z0;have w3:=Zy (g.Z-h.Z) Z0 Z0;simp only[ZE]at k1 k f l j⊢;simp[p8];refine Zz k1 Z1 ?_;simp;refine Zz k Z1 ?_;simp;refine Zz f Z1 ?_;simp;refine Zz l Z1 ?_;simp;refine Zz j Z1 ?_;simp[w1,w2,w3,Sk]
def PX{h:Hp}(a:h.ok)(d:Yt h=xw):VC (Yc Try.prog) 8 xk [ZE h]<|.am [Sk 0 0 0 0 0,vi 1]:=by
 refine ON ?_ Nb;refine ZS (P:=Yc Try.prog) Try.func8 J4 Z2 c8 rfl ?_;have k1:=up (QD a) (Qe<|UE h)<|.bool _;rw[d]at k1;simp only[ZE]at k1⊢;simp[p8];refine Zz k1 Z1 ?_;simp[Sk]
def Z5y{c n:Int}(hc:Yp c)(a:0<n):VC (Yc Try.prog) 10 xw [vi c,vi n]<|vi<|pick c n:=up (Z5z hc a) (KQ (.int _ _)<|.int _ _)<|.int _ _
instance fitAwake17:FitF (Yc Try.prog) 6:=J2 (P:=Try.prog) Try.func6 rfl Z2
def Z0q(w:SJ):VC (Yc Try.prog) 6 xw []<|.bool xk:=by
 refine ZS (P:=Yc Try.prog) Try.func6 J4 Z2 c6 rfl ?_;obtain⟨p,r⟩:=JC.1 (ZdQ:Yt Tx=xk);have o:Yt Hp.zero=xw:=ZdQ;have k1:=LW w A4 r;have q:ZR Tx 9223372036854775807=QW:=by
  rw[show(9223372036854775807:Nat)=2+9223372036854775805 from rfl,JF,show ZR Tx 2=QW by decide+kernel,Qu rfl]
 have t:(Yu p:Int)=0:=by rw[<-r.na];decide+kernel
 have u:words (V1<|vg Tx)=2:=ZdQ;have h:∀n:Nat,2<=n->XA Tx p n=QW:=λn x=>by
  unfold XA;rw[if_neg (by simp[Tx]),show n+1=2+(n-1)by omega,JF,show ZR Tx 2=QW by decide+kernel,Qu rfl]
 have j:Ru QW=0:=ZdQ;obtain⟨y,k,_,a⟩:=DV A4 r (n:=2) (m:=0) Ze4;obtain⟨z,l,_,d⟩:=DV A4 r (n:=3) (m:=0) Ze4;rw[h 2 Z0]at k a;rw[h 3 Z0]at l d;rw[Nw k,j]at a;rw[Nw l,j]at d;have f:=PX Pn o;have g:=up (DK<|x3 Pn o (n:=0) (pt:=0) (wd:=0) Ze4) (KQ (UE _)<|Bw _ _)<|.bool _;rw[q,u]at k1;unfold V9 at k1;rw[t]at k1;simp only[ZE,WW,Sk,Tx,QW,Hp.zero,Zfi,Zgb]at k1 a d f g;simp at k1 a d f g;simp[p6];refine Zz k1 Z1 ?_;simp;refine Zz f Z1 ?_;simp;refine Zz a (λ_=>rfl) ?_;simp;refine Zz d (λ_=>rfl) ?_;simp;refine Zz g Z1 ?_;simp
instance fitM17:FitF (Yc Try.prog) 5:=J2 (P:=Try.prog) Try.func5 rfl Z2
instance fitM17e:FitF (Yc Try.prog) 4:=J2 (P:=Try.prog) Try.func4 rfl Z2
def Z3B(j:SJ){x:Rw}(hx:x.ok){n:Int}(Y:Yp n):VC (Yc Try.prog) 4 xw [Wo x,vi n]<|.bool xk:=by
 refine ZS (P:=Yc Try.prog) Try.func4 J4 Z2 c4 rfl ?_;simp[p4];refine Zz (Z0q j) Z1 ?_;simp;have L:=PS hx;unfold Wo at L;refine Zz L Z1 ?_;obtain⟨f,hl,Z⟩:=Z29 hx;obtain⟨p,r⟩:=JC.1<|Z2a hx;generalize UZ x=h at*;have k1:=LW j f r;have l:=Tc (c:=n) (n:=40) Z0;have G:=Z5y Y (n:=40) Z0;obtain⟨a,T⟩:=Zf0 l.1;rw[T]at l G;have H:=Z05 j f r (k:=a) Z0;obtain⟨q,s⟩:=r.dg a;have o1:=TP f r a;have B:=LW j o1 s.rt;have K:=DJ j f r
 have d:(ZR h 9223372036854775807).Y=xw:=r.uc (by
  have:=Z8U<|Z5v f r.ei;have:=f.H;have:=r.fu;omega)
 obtain⟨t,u⟩:=r.dg 9223372036854775807;have o2:=TP f r 9223372036854775807;have o:=LW j o2 u.rt;have D:=r.ir a s.rt;have y:ZR h 9223372036854775807=ZR (ZR h a) 9223372036854775807:=by
  rw[<-JF,Zhx,JF,Qu d]
 have R:V9 (ZR h 9223372036854775807) t<=V9 (ZR h a) q:=by
  have:=s.rt.ir 9223372036854775807 (q:=t) (by rw[<-y];exact u.rt);rw[<-y]at this;exact this.1
 have F:=u.rt.rf d;have S:=u.rt.rest d;have e6:=r.oo;have e7:=r.ml;have e8:=r.room;have e9:=u.ab;obtain⟨_,n1,_⟩:=s.num;obtain⟨_,M,_⟩:=u.num;rw[n1]at B;rw[M]at o;have w:V9 (ZR h 9223372036854775807) t=(ZR h 9223372036854775807).H.length+(ZR h 9223372036854775807).ab.length:=by unfold V9;rw[F];omega
 rw[w]at o R;rw[F,S.1]at o;clear y;have O:0<=V9 (ZR h a) q:=by unfold V9;omega
 have Q:V9 h p=I h.H+I h.ab+Yu p:=rfl;have z:=D.2;have X:=D.1;rw[M]at*;generalize V9 (ZR h a) q=V at*;generalize V9 h p=q0 at*;generalize words (V1<|vg h)=W at*;generalize ZR h 9223372036854775807=E at*;generalize ZR h a=g at*;have w1:=Zy ((W:Int)+(h.cap-q0)) Z0 Z0;have w2:=Zy (h.cap- (I E.H:Int)) Z0 Z0;have w3:=Zy (h.cap- (I E.H:Int) -I E.ab) Z0 Z0;simp only[ZE,Sk]at k1 H B K o;simp;refine Zz k1 Z1 ?_;simp;refine Zz G Z1 ?_;simp;refine Zz H Z1 ?_;simp;refine Zz B Z1 ?_;simp;refine Zz K Z1 ?_;simp;refine Zz o Z1 ?_;have d1:0<=h.cap-q0:=Z0;have d2:(W:Int)+(h.cap-q0)<=h.cap:=Z0;have d3:h.cap-q0<=h.cap-V:=Z0;have d4:h.cap-V<=h.cap- ((I E.H:Int)+I E.ab):=Z0;have C:h.cap- ((I E.H:Int)+I E.ab)=h.cap- (I E.H:Int) -I E.ab:=Z0;cases A:g.Y;simp[w1,w2,w3,d1,d2,d3,d4,C,A];omega;have N:V=q0:=z A;simp[w1,w2,w3,d1,d2,d3,d4,C,N,A];omega
instance fitM17l:FitF (Yc Try.prog) 3:=J2 (P:=Try.prog) Try.func3 rfl Z2
end Vm
end
section
namespace Go.Proofs.Ytaepoabdapgbdaa
open Vm Go.ChangeShapes Go.WideShapes Go.ChangeAt Go.RowKit
def measureFree_law(xs:List V)(d:I xs=Try.f4.params.toList.length)(a:∀(i:Nat) (t:TypeId) (x:V),Try.f4.params.toList[i]?=J t->xs[i]?=J x->Xf Try.prog 8 t x):
  VC (Yc Try.prog) 4 xw xs (.bool xk):=by
 rw[Try.params4]at d a
 match xs,d with
 | [h,j],_=>
   obtain⟨x,rfl,g⟩:=Z8H<|a 0 _ h rfl rfl;obtain⟨k,rfl,f⟩:=LM<|a 1 _ j rfl rfl;exact Z3B NO g f
def measureFree_lifted(j:Os)(a:j.Started)(H:Type)(enc:TypeId×Value->H):
  ReturnsInLeavingWide {} Try.checked j 4 .any (Rows.measureFreeSpec.pre6 enc Try.prog Try.f4 Rows.measureFreeRow.domain xw) (Rows.measureFreeSpec.post enc Try.prog Try.f4 xw xk xw xw):=by
 refine returnsInLeavingWide_of_change_sized (C:=Try.checked) own a Try.func4
  (ChangeSpec.witness6 (enc:=enc) (C:=Try.checked) xw ⟨#[], #[.agg #[.slice U 0 0,.slice U 0 0,.slice U 0 0,.int .u64 0,.int .i64 0,.int .i64 0,.int .i64 0],.int .i64 0],[]⟩ 8 Z2 Z2 Z2 Z2) ?_
 intro W base args g gs d f k _ _ _
 exact Z23 (P:=Try.prog) Z2 (Z3C (P:=Yc Try.prog) (tb:=4) 8 laidOut Z2 Z2 rfl Z2 Try.underlying4 (λH g h=>by
  rw[Try.params4]at h
  match g,h with
  | [_,_],_=>rfl) measureFree_law H enc W base args g gs d f k)
theorem measureFree_holds:Rows.MeasureFreeSaid:=
 OpenClaim.holds_of_wide_leaving 4 Try.f4 rfl rfl rfl rfl rfl rfl rfl ⟨rfl,rfl,rfl,rfl,rfl⟩ rfl rfl rfl rfl rfl Z2 Try.func4 Z2
  (Zhn Z2) (by unfold Func.isWrapper;first|(rw[if_pos ZdQ];kernel_rfl)|(rw[if_neg ZdQ];exact⟨rfl,rfl⟩))
  (λf a H d _=>measureFree_lifted f a H d)
#print axioms measureFree_holds
end Go.Proofs.Ytaepoabdapgbdaa
end
