/-
  The law MoveGoes holds of the given program, for every input.
-/
import Derived.Test.YtlnhjkejgijgaaaGreatRows
import Derived.Test.YtlnhjkejgijgaaaGreatSMoveGoes5
set_option linter.unusedSimpArgs false
set_option linter.unusedVariables false
set_option linter.defProp false
open Option renaming some→J,none→U
open Bool renaming true→xk,false→xw
open Go renaming undef→xy
open List renaming length→I
open Array renaming size→xz
open Go.World renaming heap→xj
open List renaming length→xq
open Array renaming size→xz
open Go.World renaming heap→xj
set_option maxHeartbeats 40000000
set_option maxRecDepth 100000
theorem Z5z{p:Prop}(h:p:=by rw[cell_of_row _ _ _ _ _ _ l];rfl):p:=h
section
namespace Vm
open Go Go.Proofs
section
section
variable {h g:Hp}{p q:Pts}
def Alike(g x y:Hp):Prop:=x.ok/\∃q,Rt x q/\Mvd x q y/\y.V=g.V/\y.cap=g.cap
def TE(h g:Hp)(a:V):Prop:=∃(t e:Int) (x y:Hp),VC Tryz.prog 12 xw [ZF h,a] (.am [vu t,ZF x,vi e])/\VC Tryz.prog 12 xw [ZF g,a] (.am [vu t,ZF y,vi e])/\(e=0->x.cap=h.cap/\Alike g x y)
def Rt.gi(r:Rt h p)(j:Nat){v:Int}(d:Gos h p v 1 2):Rt (ZM h 4 j v) p:=by
 have e:ZM h 4 j v= {h with E:=h.E.set j v}:=rfl;rw[e];refine⟨r.toBody.E _,by simp only[Z7g];exact r.dj,r.dq,r.cz,r.fq,r.df,r.dt,λw a=> ?_⟩;obtain a|rfl:=Z6Z a;exact r.E w a;exact d
def Mvd.gi(m:Mvd h p g)(j:Nat)(v:Int):Mvd (ZM h 4 j v) p<|ZM g 4 j<|mu h g v:=by
 have e:ZM g 4 j (mu h g v)= {g with E:=(h.E.set j v).map (mu h g)}:=by
  show {g with E:=g.E.set j (mu h g v)}=_;rw[m.E,Z8j]
 rw[e];exact m.pq _
def R9(h:Hp){j:Nat}(a:j=0\/j=1)(i:Nat)(v:Int):ZM h j i v=Yr h ((j:Int)+1) ((Zw h<|(j:Int)+1).set i v):=by obtain rfl|rfl:=a<;>rfl
def Mvd.dz(m:Mvd h p g):I g.E=I h.E:=by rw[m.E,Z6D]
def Mvd.root(m:Mvd h p g){s:Nat}{w:Int}(a:h.E[s]?=J w):g.E[s]?=J (mu h g w):=by rw[m.E,Z6G,a];rfl
def FG{h:Hp}(a:h.ok){s:Nat}{w:Int}(d:h.E[s]?=J w):Zy w:=a.cg w<|Z6n d
def MB(f:h.ok)(k:g.ok)(r:Rt h p)(m:Mvd h p g)(ok:MvOk h g.V g.cap)(j:0<=g.V){a:Nat}(d:a<I h.E){s i z pp v:Int}:TE h g<|YI 7 a s i z pp v:=by
 have l:=m.rt r ok j;have M:=m.gi a 0;rw[m.ky r.al]at M;exact⟨0,0,_,_,B7 f r.right d,B7 k l.right (by rw[m.dz];exact d),λ_=>⟨rfl,Ra f Z0 a (by unfold Zy;omega),p,r.gi a<|.inl rfl,M,rfl,rfl⟩⟩
def MA(f:h.ok)(l:g.ok)(r:Rt h p)(m:Mvd h p g)(ok:MvOk h g.V g.cap)(k:0<=g.V){a s:Nat}(j:a<I h.E)(n:s<I h.E){i z pp v:Int}:TE h g<|YI 6 a s i z pp v:=by
 have o:=m.rt r ok k;obtain⟨w,d⟩:∃w,h.E[s]?=J w:=⟨_,Z6b n⟩;exact⟨0,0,_,_,B6 f r.right j d,B6 l o.right (by rw[m.dz];exact j)<|m.root d,λ_=>⟨rfl,Ra f Z0 a<|FG f d,p,r.gi a<|r.E w<|Z6n d,m.gi a w,rfl,rfl⟩⟩
def Mvd.ob(m:Mvd h p g)(r:Rt h p)(rg:Rt g q)(hq:∀k,q.at k=(p.at k).map (Xm (Zv h)<|Zv {h with V:=g.V,cap:=g.cap})){k:Int}(M:k=1\/k=2){o:Ob}(z:o∈p.at k):∃j a n mm u,(j=0\/j=1)/\k=(j:Nat)+1/\o.Y=(a:Nat)/\o.size=(n:Nat)/\o.Z=(mm:Nat)/\ObAt h (ZG (Zv h) k o.Y) j a n mm u/\ObAt g (mu h g<|ZG (Zv h) k o.Y) j a n mm u:=by
 obtain⟨j,a,n,mm,u,F,l,T,Y,em,O⟩:=D0 r.toTld M z;obtain⟨j',y,n',H,u',a0,N,B,D,C,A⟩:=D0 rg.toTld M (o:=Xm (Zv h) (Zv {h with V:=g.V,cap:=g.cap}) o) (by rw[hq];exact Z74 z);obtain⟨Q,R,S,e4⟩:=V7 (f:=Zv h) (t:=Zv {h with V:=g.V,cap:=g.cap}) o;rw[Q]at B A;rw[R]at D;rw[S]at C;have:j'=j:=Z0;subst this;have:y=a:=Z0;subst this;have:n'=n:=Z0;subst this;have:H=mm:=Z0;subst this;have d:1<=k/\k<=4:=Z0;obtain⟨b,bn,bm,eb,X,W,Z,_⟩:=r.toTld.ob d z;have G:∀x∈p.at k,¬Xk x y:=λx P L=>by
  have:=RN r.toTld d z P L Z0 Z0;subst this;have hg:x.gone=xw:=by
   have:=r.af k d;rw[show decide (2<k)=xw by simp;omega]at this;exact this.bi x P
  obtain⟨w,_⟩|⟨_,w,_⟩:=L;rw[hg]at w;cases w;omega
 have hu:u'=u:=by
  have w:=O.Y;have K:=A.Y;rw[Un h F,<-l]at w;rw[Un g F,<-l,m.fj k d y G,w]at K;exact(Z8s K).symm
 subst hu;refine⟨_,y,_,_,_,F,l,T,Y,em,O,?_⟩;rw[m.ld r.al d ⟨Z0,Z0⟩];exact A
def CX(r:Body h p){k:Int}(g:1<=k/\k<=4){o:Ob}(j:o∈p.at k)(q:o.gone=xw){i:Nat}(z:o.Y+1+o.Z<=i)(h2:i<o.Y+1+o.size):∀x∈p.at k,¬Xk x i:=λx u f=>by
 obtain⟨a,n,mm,w,y,em,l,_,t⟩:=r.toTld.ob g j;have:=RN r.toTld g j u f Z0 Z0;subst this;obtain⟨d,_⟩|⟨_,_,d⟩:=f;rw[q]at d;cases d;omega
def B8{h:Hp}(g:h.ok)(k:Yp h=xk){l z pp v i w0 u:Int}{s j a n mm:Nat}(d:h.E[s]?=J w0)(O:ObAt h w0 j a n mm u)(q:¬(0<=i/\i< (n-mm:Nat))):VC Tryz.prog 12 xw [ZF h,YI 3 l s i z pp v]<|.am [vu 0,ZF Hp.zero,vi 1]:=by
 obtain⟨p,r⟩:=Sa.1 k;have t:=(Z6d.1 d).1;exact TC g k Z0 (λu y=>by simp[Xf]at y;omega) (F:=117) Z2 Ct (λw G f o x=>BT (a:=YI 3 l s i z pp v) (r:=(Hp.zero,1)) rfl (BM g r.al d (res:=(Hp.zero,1))<|.inr ⟨j,a,n,mm,u,O,.inr ⟨q,rfl⟩⟩) w G f o x)<|.inl ⟨Z5q,rfl,rfl⟩
def MC(t:h.ok)(A:g.ok)(r:Rt h p)(m:Mvd h p g)(ok:MvOk h g.V g.cap)(L:0<=g.V){s c:Nat}(Q:s<I h.E){R z pp v:Int}:TE h g<|YI 3 R s c z pp v:=by
 have y:=m.rt r ok L;obtain⟨w,q⟩:∃w,h.E[s]?=J w:=⟨_,Z6b Q⟩;have d:=m.root q;obtain rfl|⟨k,o,N,B,rfl⟩:=r.E w<|Z6n q;rw[m.ky r.al]at d;exact⟨0,6,Hp.zero,Hp.zero,Ky t r.right q (res:=(Hp.zero,6))<|.inl ⟨rfl,rfl,rfl⟩,Ky A y.right d (res:=(Hp.zero,6))<|.inl ⟨rfl,rfl,rfl⟩,λh=>Z5u⟩;obtain⟨j,a,n,mm,u,H,l,S,T,em,O,F⟩:=m.ob r y Tm N B;have f:1<=k/\k<=4:=Z0;have P:=O.mn;have M:=O.ah;by_cases G:c<n-mm;obtain⟨x,K⟩:∃x,(Zu h j)[a+1+mm+c]?=J x:=⟨_,Z6b Z0⟩;have C:o.gone=xw:=by
  have:=r.af k f;rw[show decide (2<k)=xw by simp;omega]at this;exact this.bi o B
 have D:(Zu g j)[a+1+mm+c]?=J x:=by
  rw[Un g H,<-l,m.fj k f _<|CX r.toBody f B C Z0 Z0,l,<-Un h H];exact K
 exact⟨x,0,h,g,Ky t r.right q (res:=(h,0))<|.inr ⟨c,j,a,n,mm,u,rfl,O,G,K,rfl⟩,Ky A y.right d (res:=(g,0))<|.inr ⟨c,j,a,n,mm,u,rfl,F,G,D,rfl⟩,λ_=>⟨rfl,t,p,r,m,rfl,rfl⟩⟩;exact⟨0,1,Hp.zero,Hp.zero,B8 t r.right q O Z0,B8 A y.right d F Z0,λh=>Z5u⟩
def MF(t:h.ok)(D:g.ok)(r:Rt h p)(m:Mvd h p g)(ok:MvOk h g.V g.cap)(H:0<=g.V){s c:Nat}(N:s<I h.E)(d:ZP c){W z pp v:Int}(q:Zy v):TE h g<|YI 5 W s c z pp v:=by
 have C:=m.rt r ok H;obtain⟨w,A⟩:∃w,h.E[s]?=J w:=⟨_,Z6b N⟩;have l:=m.root A;obtain rfl|⟨k,o,K,B,rfl⟩:=r.E w<|Z6n A;rw[m.ky r.al]at l;exact⟨0,6,Hp.zero,Hp.zero,RC t r.right A q d (res:=(Hp.zero,6))<|.inl ⟨rfl,rfl⟩,RC D C.right l q d (res:=(Hp.zero,6))<|.inl ⟨rfl,rfl⟩,λh=>Z5u⟩;obtain⟨j,a,n,mm,u,F,x,X,Y,em,O,G⟩:=m.ob r C Tm K B;have f:1<=k/\k<=4:=Z0;have L:=O.mn;by_cases Z:c<n-mm;have y:o.gone=xw:=by
  have:=r.af k f;rw[show decide (2<k)=xw by simp;omega]at this;exact this.bi o B
 have P:=CX r.toBody f B y (i:=a+1+mm+c) Z0 Z0;have sc:Scal h p k<|Zw h k:=⟨rfl,(X0 t k).1,λ_=>.inl rfl⟩;have R:=r.sb f<|sc.set B y (i:=a+1+mm+c) Z0 Z0 q;have M:=m.mj f (i:=a+1+mm+c) (v:=v) (v':=v)<|.inr ⟨P,rfl⟩;rw[x,<-R9 h F]at R;rw[x,<-R9 h F,<-R9 g F]at M;obtain⟨q1,Q,_⟩:=Wq h j (a+1+mm+c) v;obtain⟨S,T,_⟩:=Wq g j (a+1+mm+c) v;exact⟨0,0,_,_,RC t r.right A q d<|.inr ⟨j,a,n,mm,u,O,.inl ⟨Z0,Z0,by rw[Z6p]⟩⟩,RC D C.right l q d<|.inr ⟨j,a,n,mm,u,G,.inl ⟨Z0,Z0,by rw[Z6p]⟩⟩,λ_=>⟨Q,Ra t Z0 _ q,p,R,M,S,T⟩⟩;exact⟨0,1,Hp.zero,Hp.zero,RC t r.right A q d (res:=(Hp.zero,1))<|.inr ⟨j,a,n,mm,u,O,.inr ⟨Z0,rfl⟩⟩,RC D C.right l q d (res:=(Hp.zero,1))<|.inr ⟨j,a,n,mm,u,G,.inr ⟨Z0,rfl⟩⟩,λh=>Z5u⟩
def Rt.ri(r:Rt h p){j:Nat}(k:j=0\/j=1){o:Ob}(d:o∈p.at ((j:Int)+1)){c:Nat}(l:(c:Int)<o.Z){v:Int}(n:Gos h p v 1 2):Rt (ZM h j (o.Y.toNat+1+c) v) p:=by
 have b:=r.toBody.km k d l n;have f:=J4 h (j:=j) Z0 (o.Y.toNat+1+c) v;generalize o.Y.toNat+1+c=i at*;obtain rfl|rfl:=k;exact⟨b,r.dj,r.dq,by show h.O<=(I (h.H.set i v):Nat);rw[Z7g];exact r.cz,λa=>by show h.O< (I (h.H.set i v):Nat);rw[Z7g];exact r.fq a,λa=>by obtain⟨q,t⟩:=r.df a;exact⟨by show h.O=(I (h.H.set i v):Nat);rw[Z7g];exact q,t⟩,λa o d=>by rw[f];exact r.dt a o d,λw g=>(UD f).2<|r.E w g⟩;exact⟨b,r.dj,r.dq,r.cz,r.fq,r.df,λa o d=>by rw[f];exact r.dt a o d,λw g=>(UD f).2<|r.E w g⟩
def MG(t:h.ok)(G:g.ok)(r:Rt h p)(m:Mvd h p g)(ok:MvOk h g.V g.cap)(Q:0<=g.V){a' s c:Nat}(P:a'<I h.E)(T:s<I h.E)(d:ZP c){z pp v:Int}:TE h g<|YI 4 a' s c z pp v:=by
 have D:=m.rt r ok Q;obtain⟨w,B⟩:∃w,h.E[s]?=J w:=⟨_,Z6b T⟩;obtain⟨x,q⟩:∃x,h.E[a']?=J x:=⟨_,Z6b P⟩;have f:=m.root B;have l:=m.root q;obtain rfl|⟨k,o,S,C,rfl⟩:=r.E w<|Z6n B;rw[m.ky r.al]at f;exact⟨0,6,Hp.zero,Hp.zero,RD t r.right B q d (res:=(Hp.zero,6))<|.inl ⟨rfl,rfl⟩,RD G D.right f l d (res:=(Hp.zero,6))<|.inl ⟨rfl,rfl⟩,λh=>Z5u⟩;obtain⟨j,a,n,mm,u,H,A,N,Z,em,O,L⟩:=m.ob r D Tm S C;have y:1<=k/\k<=4:=Z0;by_cases hc:c<mm;have K:o.gone=xw:=by
  have:=r.af k y;rw[show decide (2<k)=xw by simp;omega]at this;exact this.bi o C
 have F:o.Y.toNat=a:=by rw[N];rfl
 have R:=r.ri H (o:=o) (by rw[<-A];exact C) (c:=c) Z0<|r.E x<|Z6n q;have M:=m.mj y (i:=a+1+c) (v:=x) (v':=mu h g x)<|.inl ⟨⟨o,C,.inr ⟨K,Z0,Z0⟩⟩,rfl⟩;rw[F]at R;rw[A,<-R9 h H,<-R9 g H]at M;obtain⟨q1,W,_⟩:=Wq h j (a+1+c) x;obtain⟨X,Y,_⟩:=Wq g j (a+1+c)<|mu h g x;exact⟨0,0,_,_,RD t r.right B q d<|.inr ⟨j,a,n,mm,u,O,.inl ⟨Z0,Z0,by rw[Z6p]⟩⟩,RD G D.right f l d<|.inr ⟨j,a,n,mm,u,L,.inl ⟨Z0,Z0,by rw[Z6p]⟩⟩,λ_=>⟨W,Ra t Z0 _<|FG t q,p,R,M,X,Y⟩⟩;exact⟨0,1,Hp.zero,Hp.zero,RD t r.right B q d (res:=(Hp.zero,1))<|.inr ⟨j,a,n,mm,u,O,.inr ⟨Z0,rfl⟩⟩,RD G D.right f l d (res:=(Hp.zero,1))<|.inr ⟨j,a,n,mm,u,L,.inr ⟨Z0,rfl⟩⟩,λh=>Z5u⟩
def Ci(B:h.ok)(r:Rt h p){k:Int}(K:k=1\/k=2){o:Ob}(M:o∈p.at k){j a n mm:Nat}{u:Int}(l:j=0\/j=1)(y:k=(j:Nat)+1)(S:o.Y=(a:Nat))(em:o.Z=(mm:Nat))(O:ObAt h (ZG (Zv h) k o.Y) j a n mm u){b s c:Nat}(T:b<I h.E)(H:h.E[s]?=J (ZG (Zv h) k o.Y))(D:ZP c)(W:c<mm){pv:Int}(f:(Zu h j)[a+1+c]?=J pv){z pp v0:Int}:
  ∃v x q,fwd h pv=(v,x,0)/\Body x q/\Ext h p x q/\x.ok/\Zy v/\Rt (ZM (ZM x j (a+1+c) v) 4 b v) q/\VC Tryz.prog 12 xw [ZF h,YI 2 b s c z pp v0] (.am [vu 0,ZF<|ZM (ZM x j (a+1+c) v) 4 b v,vi 0]):=by
 have w:o.Y.toNat=a:=by rw[S];rfl
 have L:=O.ah;have G:=O.mn;have A:Zy pv:=by
  obtain rfl|rfl:=l;exact B.dm pv<|Z6n f;exact B.db pv<|Z6n f
 obtain⟨v,x,q,F,C,on,t,g,Z⟩:=Nt r K M (c:=c) Z0 (pv:=pv) (by rw[w,y,<-Un h l];exact f);have d:=QV B A;rw[F]at d;subst y;have Q:∀(i:Nat),i< I (Zu h j)->(Zu x j)[i]?=(Zu h j)[i]? :=λi Y=>by rw[Un x l,Un h l]at*;exact M9 g K Y
 have R:ZG (Zv x) ((j:Int)+1) a=ZG (Zv h) ((j:Int)+1) a:=g.fst _ _ Z0;have X:I (Zu h j)<=I (Zu x j):=by
  obtain rfl|rfl:=l;obtain⟨ws,H⟩:=g.H;show I h.H<=I x.H;rw[H,Z6L];omega;show I h.aa<=I x.aa;rw[g.aa];omega
 have P:ObAt x (ZG (Zv h) ((j:Int)+1) o.Y) j a n mm u:=⟨l,by rw[R];exact O.eq,O.u64,by rw[Q a Z0];exact O.Y,O.un,G,Z0⟩;have N:=Nu r C on t g Z l M (c:=c) Z0 b;rw[w]at N;exact⟨v,x,q,F,C,g,d.1,d.2,N,QK B r.right H T D<|.inr ⟨j,a,n,mm,u,O,.inr ⟨c,pv,v,x,rfl,W,f,A,F,d.1,g.E,C.al,P,rfl⟩⟩⟩
def MD(hh:h.ok)(hg:g.ok)(r:Rt h p)(m:Mvd h p g)(ok:MvOk h g.V g.cap)(hb:0<=g.V){b s c:Nat}(G:b<I h.E)(hs:s<I h.E)(d:ZP c){z pp v0:Int}:TE h g<|YI 2 b s c z pp v0:=by
 have rg:=m.rt r ok hb;have A:b<I g.E:=by rw[m.dz];exact G
 obtain⟨w,Q⟩:∃w,h.E[s]?=J w:=⟨_,Z6b hs⟩;have C:=m.root Q;obtain rfl|⟨k,o,Z,L,rfl⟩:=r.E w<|Z6n Q;rw[m.ky r.al]at C;exact⟨0,6,Hp.zero,Hp.zero,QK hh r.right Q G d (res:=(Hp.zero,6))<|.inl ⟨rfl,rfl⟩,QK hg rg.right C A d (res:=(Hp.zero,6))<|.inl ⟨rfl,rfl⟩,λh=>Z5u⟩;obtain⟨j,a,n,mm,u,S,B,ea,en,em,O,O'⟩:=m.ob r rg Tm Z L;have l:1<=k/\k<=4:=Z0;by_cases hc:c<mm;case neg=>exact⟨0,1,Hp.zero,Hp.zero,QK hh r.right Q G d (res:=(Hp.zero,1))<|.inr ⟨j,a,n,mm,u,O,.inl ⟨Z0,rfl⟩⟩,QK hg rg.right C A d (res:=(Hp.zero,1))<|.inr ⟨j,a,n,mm,u,O',.inl ⟨Z0,rfl⟩⟩,λh=>Z5u⟩
 have a6:=O.ah;have b3:=O.mn;have a1:o.Y.toNat=a:=by rw[ea];rfl
 obtain⟨bb,bn,bm,eb,b1,b0,a5,_⟩:=r.toTld.ob l L;have T:o.gone=xw:=by
  have:=r.af k l;rw[show decide (2<k)=xw by simp;omega]at this;exact this.bi o L
 have hq:Xk o<|a+1+c:=.inr ⟨T,Z0,Z0⟩;obtain⟨P,W⟩:∃P,(Zu h j)[a+1+c]?=J P:=⟨_,Z6b Z0⟩;have N:(Zw h k)[a+1+c]?=J P:=by rw[B,<-Un h S];exact W
 have X:(Zu g j)[a+1+c]?=J (mu h g P):=by rw[Un g S,<-B];exact m.ptr k l o L _ hq P N
 obtain⟨v,x,q,hf,bx,ex,a4,Y,R,K⟩:=Ci hh r Z L S B ea em O (z:=z) (pp:=pp) (v0:=v0) G Q d hc W;obtain⟨e1,e2,e3,e4⟩:=V7 (f:=Zv h) (t:=Zv {h with V:=g.V,cap:=g.cap}) o;have a0:=m.ld r.al l (a:=o.Y) ⟨Z0,Z0⟩;rw[a0,<-e1]at O' C;obtain⟨v',D,q',a2,a9,b2,a8,a7,R',K'⟩:=Ci hg rg Z (o:=Xm (Zv h) (Zv {h with V:=g.V,cap:=g.cap}) o) (by rw[Tm];exact Z74 L) S B (by rw[e1];exact ea) (by rw[e3];exact em) O' (z:=z) (pp:=pp) (v0:=v0) A C d hc X;have H:Gos h p P 1 2\/Gos h p P 3 4:=by
  have:=r.ptr k l o L T c Z0 P (by rw[a1];exact N);unfold Yz at this;rw[Z6h Z0]at this;split at this;exact this;exact .inl this
 obtain⟨v1,x1,q1,F⟩:=r.toBody.dx r.cz H;have hF:=F.fwd;rw[hf]at hF;cases hF;have:=bx.dn F.body;subst this;obtain⟨y,e,M,y1,y2⟩:=m.fwd r.toBody r.cz ok.cap (λw Q=>UP r.toTld Z0 Z0<|r.E w Q) H F;rw[a2]at e;cases e;have M2:=M.mj l (i:=a+1+c) (v:=v) (v':=mu x D v)<|.inl ⟨⟨o,Bk ex Z L,hq⟩,rfl⟩;rw[B,<-R9 x S,<-R9 D S]at M2;have M3:=M2.gi b v;have a3:mu (ZM x j (a+1+c) v) (ZM D j (a+1+c)<|mu x D v) v=mu x D v:=by
  unfold mu;rw[J4 x Z0,J4 D Z0]
 rw[a3]at M3;obtain⟨p1,p2,_⟩:=Wq (ZM x j (a+1+c) v) 4 b v;obtain⟨p3,p4,_⟩:=Wq x j (a+1+c) v;obtain⟨p5,p6,_⟩:=Wq (ZM D j (a+1+c)<|mu x D v) 4 b<|mu x D v;obtain⟨p7,p8,_⟩:=Wq D j (a+1+c)<|mu x D v;exact⟨0,0,_,_,K,K',λ_=>⟨by rw[p2,p4];exact ex.cap,Ra (Ra a4 Z0 _ Y) Z0 _ Y,_,R,M3,by rw[p5,p7];exact y1,by rw[p6,p8];exact y2⟩⟩
def Mm(r:Rt h p)(d:h.M=xw):(Xb h).cap=h.cap:=by
 obtain⟨f,b,I,a,_⟩:=yk r d;rw[a];unfold V1;split<;>exact I.ext.cap
def Ac{f t:Ly}:Yt (Wt f t p)=Yt p:=by
 unfold Yt Wt;rw[zk,zk]
def Mvd.gh(m:Mvd h p g)(a:g.cap=h.cap){q':Pts}(j:Yt q'=Yt p)(n:Int):Vm.roomP g q' n=Vm.roomP h p n:=by
 have d:=m.len (k:=1) Z0;have f:=m.len (k:=2) Z0;simp only[Xn,Uq]at d f;unfold Vm.roomP;rw[d,f,j,a]
def Mvd.de(z:h.ok)(r:Rt h p)(m:Mvd h p g)(ok:MvOk h g.V g.cap)(u:0<=g.V)(d:g.cap=h.cap){P:Pts}(B:Yt P=Yt p)(n:Nat):∃q,Rt (placeG h p n) q/\Mvd (placeG h p n) q (placeG g P n)/\(placeG g P n).V=g.V/\(placeG g P n).cap=g.cap/\(placeG h p n).cap=h.cap/\(placeG h p n).ok:=by
 unfold Vm.placeG;rw[m.gh d B,m.da.2.1];by_cases a:h.M=xw/\Vm.roomP h p (n+1:Nat)=xw;rw[Z6k a,Z6k a];obtain⟨D,j,A,l,x⟩:=m.ry r a.1 ok u;have C:h.to=0\/h.to=1:=(Xe.1 r.al).2.2.2.2.1;have y:=Mm r a.1;obtain⟨w,k,f,o,t⟩:=A.iz (by rw[l,x];exact ok.of y) (by rw[l];exact u) j<|n+1;obtain⟨_,S⟩:=j.ei<|n+1;exact⟨w,k,f,o.trans l,t.trans x,S.da.2.1.trans y,Sb (Bz z C) j _⟩;rw[Z6h a,Z6h a];obtain⟨w,k,f,o,t⟩:=m.iz ok u r<|n+1;obtain⟨_,S⟩:=r.ei<|n+1;exact⟨w,k,f,o,t,S.da.2.1,Sb z r _⟩
def ME(Q:h.ok)(hg:g.ok)(r:Rt h p)(m:Mvd h p g)(ok:MvOk h g.V g.cap)(C:0<=g.V)(a:g.cap=h.cap){b n:Nat}(o:b<I h.E)(S:n<=255){pt wd:Int}(d:Xg n pt=(wd,0))(hu:Zy wd){s i v:Int}:TE h g<|YI 1 b s i n pt v:=by
 have rg:=m.rt r ok C;obtain⟨q,R,M,B,y,z,H⟩:=Mvd.de Q r m ok C a (P:=Wt (Zv h) (Zv {h with V:=g.V,cap:=g.cap}) p) Ac n;have G:MvOk (Vm.placeG h p n) (Vm.placeG g (Wt (Zv h) (Zv {h with V:=g.V,cap:=g.cap}) p) n).V (Vm.placeG g (Wt (Zv h) (Zv {h with V:=g.V,cap:=g.cap}) p) n).cap:=by rw[B,y];exact ok.of z
 have O:=M.rt R G (by rw[B];exact C);have D:=M.gh (by rw[y,z];exact a) (q':=Wt (Zv<|Vm.placeG h p n) (Zv {(Vm.placeG h p n)with V:=(Vm.placeG g (Wt (Zv h) (Zv {h with V:=g.V,cap:=g.cap}) p) n).V,cap:=(Vm.placeG g (Wt (Zv h) (Zv {h with V:=g.V,cap:=g.cap}) p) n).cap}) q) Ac (n+1:Nat);have t:b<I g.E:=by rw[m.dz];exact o
 have K:=λres f=>B9 Q r (r':=b) (s:=s) (i:=i) (v:=v) o S d R (res:=res) f;have A:=λres f=>B9 hg rg (r':=b) (s:=s) (i:=i) (v:=v) t S d O (res:=res) f;rw[D]at A;generalize Vm.placeG g (Wt (Zv h) (Zv {h with V:=g.V,cap:=g.cap}) p) n=Y at*;generalize Vm.placeG h p n=X at*;cases w:Vm.roomP X q (n+1:Nat)with
 |false=>exact⟨0,7,Hp.zero,Hp.zero,K (Hp.zero,7)<|.inl ⟨w,rfl⟩,A (Hp.zero,7)<|.inl ⟨w,rfl⟩,λh=>Z5u⟩
 |true=>
  have l:(I X.H:Int)+I X.aa+Yt q+(n+1:Nat)<=X.cap:=by simpa[Vm.roomP]using w
  have T:=M.len (k:=1) Z0;have W:=M.len (k:=2) Z0;simp only[Xn,Uq]at T W;have x:=R.dp d l;have Z:=O.dp d (by rw[T,W,Ac,y,a,<-z];exact l);have L:=M.dp R d x Z;have u:(⟨0,(n:Int),pt,xw,0⟩:Ob)∈(VF q n pt).at 2:=Z99;have a1:0< I (Zw (Yj X wd n) 2):=by show 0< I ((wd::List.replicate n 0)++X.aa);simp
  have N:=L.gi b<|ZG (Zv<|Yj X wd n) 2 0;rw[L.ld x.al Z0 ⟨Z0,Z0⟩]at N;have a0:=R.nj;have a2:0<=Yt q:=Z7T _;have h8:=Eh (n:=n) H hu Z0;have F:Zy<|ZG (Zv<|Yj X wd n) 2 0:=by
   have:=XW x.al 2;have hz:ZX (Zv<|Yj X wd n) 2=(I (Zw (Yj X wd n) 2):Nat):=VI _ Z0;unfold ZG Zy;omega
  exact⟨0,0,_,_,K _<|.inr ⟨w,rfl⟩,A _<|.inr ⟨w,rfl⟩,λ_=>⟨z,Ra (j:=4) h8 Z0 b F,_,x.gi b<|.inr ⟨2,_,.inr rfl,u,rfl⟩,N,B,y⟩⟩
end
end
def Vp(h:Hp)(more:Int):Int:=h.cap+pick more 20
def V8(h:Hp)(base more:Int):Int:=1+base.tmod (9223372036854775808-2*Vp h more)
def Aq{h:Hp}(w:0<=h.cap/\h.cap<=4096){base more:Int}(d:Zy base)(g:ZP more):VC Tryz.prog 6 xw [ZF h,vu base,vi more]<|.am [vu<|V8 h base more,vi<|Vp h more]:=by
 refine ZY Tryz.func6 follows Z2 c6 rfl ?_;have k:=Ea (c:=more) (n:=20) g Z0;have x:=Wl (c:=more) (n:=20) Z0;obtain⟨a,f⟩:=d;unfold V8 Vp;simp[p6];refine Zz k Z1 ?_;generalize pick more 20=q at*;have l:=ZA (h.cap+q) Z0 Z0;have o:=ZO (h.cap+q) Z0 Z0;have p:=ZO (2*(h.cap+q)) Z0 Z0;have r:=ZO (9223372036854775808-2*(h.cap+q)) Z0 Z0;have j:0<=base.tmod (9223372036854775808-2*(h.cap+q))/\base.tmod (9223372036854775808-2*(h.cap+q))<9223372036854775808-2*(h.cap+q):=by
  rw[Z72 a];exact⟨Z8H _ Z0,Z8q _ Z0⟩
 have t:=ZO (base.tmod<|9223372036854775808-2*(h.cap+q)) Z0 Z0;have u:=ZO (1+base.tmod (9223372036854775808-2*(h.cap+q))) Z0 Z0;simp[l,o,p,r,t,u,show ¬9223372036854775808-2*(h.cap+q)=0 by omega]
def p4:Fn:=⟨14,[0,1,2,3,4,5,6,7,8,9,10,11,12,13],pQ [pR [pV 0 pF],.be ⟨[],[([],.ag [pU 10,pI 5,pI 0,pF,pI 2,.lit [pU 2,pU 6],pN,pN,pN,.lit [pU 21]])],[(1,.m [pU 10,pI 5,pI 0,pF,pI 2,.lit [pU 2,pU 6],pN,pN,pN,.lit [pU 21]])]⟩,pC [pK 14 7 [.mm 1 0 10,pU 100,pI 9]] [(2,pM (.sz (.ext (.s 14) 0) 10) 10),pV 3<|.fl<|.ext (.s 14) 1],pC [pK 15 7 [.mm 1 0 10,pU 100,pI 4]] [(4,pM (.sz (.ext (.s 15) 0) 10) 10),pV 5<|.ext (.s 15) 1],pC [pK 16 7 [.mm 1 0 10,pU 0,pI 9]] [(6,pM (.sz (.ext (.s 16) 0) 10) 10),pV 7<|.ext (.s 16) 1],pC [pK 17 7 [.mm 1 0 10,pU 9223372036854775808,pI 9]] [(8,pM (.sz (.ext (.s 17) 0) 10) 10),pV 9<|.ext (.s 17) 1],pC [pK 18 13 [.ag [pU 10,pI 5,pI 0,pI 0,pI 1,pI 0,pI 0],.ag [pU 20,pI 9,pI 0,pI 0,pI 2,pI 0,pI 0],pU 29]] [pV 10<|.ext (.s 18) 0,pV 11<|.ext (.s 18) 1],pC [pK 19 13 [.ag [pU 10,pI 5,pI 0,pI 0,pI 1,pI 0,pI 0],.ag [pU 20,pI 9,pI 0,pI 0,pI 0,pI 0,pI 0],pU 29]] [pV 12<|.ext (.s 19) 0,pV 13<|.ext (.s 19) 1],.be ⟨[.lt 20 []<|pe (.s 3)<|pI 0,.call 21 [(20,xk)] (.id 10) xw xw [.mm 2 0 10,.ag [pU 100,pI 9,pI 0,pF,pI 2,.lit [pU 2,pU 6],pN,pN,pN,.lit [pU 201]]],.lt 22 []<|.ite (.s 20) (.s 21) pF,.lt 23 []<|.ite (.s 22) (pe (.s 5)<|pI 8) pF,.lt 24 []<|.ite (.s 23) (pe (.s 7)<|pI 1) pF,.lt 25 []<|.ite (.s 24) (pe (.s 9)<|pI 9) pF,.lt 26 []<|.ite (.s 25) (pe (.s 11)<|pI 0) pF,.lt 27 []<|.ite (.s 26) (pe (.s 10)<|pU 55) pF],[([(22,xk)],pe (.s 5)<|pI 8),([(23,xk)],pe (.s 7)<|pI 1),([(24,xk)],pe (.s 9)<|pI 9),([(25,xk)],pe (.s 11)<|pI 0),([(26,xk)],pe (.s 10)<|pU 55),([(27,xk)],pe (.s 13)<|pI 6)],[pV 0<|.ite (.s 27) (pe (.s 13)<|pI 6) pF]⟩] .ret,[(0,.v)]⟩
def c4:ZS Tryz.prog fresh sig [] [] Tryz.f4=J p4:=Z2
def zq:Prop:=∀(h:Hp) (base a:Int),h.ok->Zy base->ZP a->VC Tryz.prog 7 xw [ZF h,vu base,vi a] (.am [ZF (XC h base a).1,vi (XC h base a).2])
def Ue:Hp:=⟨10,5,0,xw,2,[2,6],[],[],[],[21]⟩
def QM:Hp:=⟨100,9,0,xw,2,[2,6],[],[],[],[201]⟩
def KB:Ue.ok:=by refine⟨?_,?_,?_,?_,?_,?_,?_,?_,?_,?_,?_,?_,?_,?_⟩<;>simp[Ue,Zy,ZP]
def Ma:QM.ok:=by refine⟨?_,?_,?_,?_,?_,?_,?_,?_,?_,?_,?_,?_,?_,?_⟩<;>simp[QM,Zy,ZP]
def H8(a:zq):VC Tryz.prog 4 xw []<|.bool xk:=by
 refine ZY Tryz.func4 follows Z2 c4 rfl ?_;have q:XC Ue 100 9=(QM,0):=Z5k;have r:XC Ue 100 4=(Hp.zero,8):=Z5k;have u:XC Ue 0 9=(Hp.zero,1):=Z5k;have x:XC Ue 9223372036854775808 9=(Hp.zero,9):=Z5k;have d:=a Ue 100 9 KB Z68 (by simp[ZP]);have g:=a Ue 100 4 KB Z68 (by simp[ZP]);have h:=a Ue 0 9 KB Z68 (by simp[ZP]);have j:=a Ue 9223372036854775808 9 KB Z68 (by simp[ZP]);rw[q]at d;rw[r]at g;rw[u]at h;rw[x]at j;have o:Yg ⟨10,5,0,0,1,0,0⟩ ⟨20,9,0,0,2,0,0⟩ 29=(55,0):=Z5k;have p:Yg ⟨10,5,0,0,1,0,0⟩ ⟨20,9,0,0,0,0,0⟩ 29=(0,6):=Z5k;have k:=jp (f:=⟨10,5,0,0,1,0,0⟩) (t:=⟨20,9,0,0,2,0,0⟩) (w:=29) (by simp[Ly.ah,Zy,ZP]) (by simp[Ly.ah,Zy,ZP]) Z68;have l:=jp (f:=⟨10,5,0,0,1,0,0⟩) (t:=⟨20,9,0,0,0,0,0⟩) (w:=29) (by simp[Ly.ah,Zy,ZP]) (by simp[Ly.ah,Zy,ZP]) Z68;rw[o]at k;rw[p]at l;have n:=jF (b:=QM) Ma;simp only[ZF,Ue,QM,Hp.zero,YF,Z6R,Z7B]at d g h j k l n;simp[p4];refine Zz d Z1 ?_;simp;refine Zz g Z1 ?_;simp;refine Zz h Z1 ?_;simp;refine Zz j Z1 ?_;simp;refine Zz k Z1 ?_;simp;refine Zz l Z1 ?_;simp;refine Zz n Z1 ?_;simp
def Z0I{x:Rw}(hx:x.ok)(cycle:Bool):(Yh x cycle).h.cap<=200:=by
 obtain⟨f,j,a⟩:=L3 x.nodes x.E;have k:=J8 x.nodes x.E;unfold Yh;generalize Y2 x.nodes x.E=g at*;have d:∀n∈g.nodes,ZN n<=9:=λn l=>by have:=a n l;unfold ZN;omega
 obtain⟨p,q,r,t⟩:=Ql (x:=x) (cycle:=cycle) d (I g.nodes)<|Z6i _;dsimp only;generalize Y5 x cycle g (I g.nodes)=s at*;have o:=Wl (c:=x.ba) (n:=12) Z0;omega
def MQ{x:Rw}(hx:x.ok):(VV x).cap<=200:=by
 have key:∀c,(Yn x<|Yh x c).cap<=200:=λc=>by
  obtain⟨a,d,g⟩:=Qm hx c;obtain⟨_,f,_,_⟩:=zZ (x:=x) a d;have e:(Yn x<|Yh x c).cap=(Yh x c).h.cap:=Z7J Ly.cap f;rw[e];exact Z0I hx c
 unfold VV z1;split;exact key xw;exact key xk
def Ek{h:Hp}(j:0<=h.cap/\h.cap<=4000){base more:Int}(d:Zy base):MvOk h (V8 h base more) (Vp h more)/\Zy (V8 h base more)/\ZP (Vp h more)/\Vp h more<=h.cap+19:=by
 have k:=Wl (c:=more) (n:=20) Z0;unfold V8 Vp;generalize pick more 20=q at*;obtain⟨a,f⟩:=d;have g:0<=base.tmod (9223372036854775808-2*(h.cap+q))/\base.tmod (9223372036854775808-2*(h.cap+q))<9223372036854775808-2*(h.cap+q):=by
  rw[Z72 a];exact⟨Z8H _ Z0,Z8q _ Z0⟩
 refine⟨⟨?_,?_,?_,?_,?_⟩,⟨?_,?_⟩,⟨?_,?_⟩,?_⟩<;>omega
def Po(h:Hp):Vp h 0=h.cap:=by
 unfold Vp;have:pick 0 20=0:=Z5k;rw[this];omega
def qj{h:Hp}(y:h.ok){p:Pts}{base a:Int}(x:Zy base)(d:ZP a):(X4 h p base a).ok:=by
 obtain⟨z,A,f,g,j,k,l,n,o,q,r,t,u,B⟩:=y;refine⟨x,d,f,g,?_,?_,?_,?_,?_,?_,?_,?_,?_,?_⟩;show I (V6 _ _ _ _)<=_;rw[Up];exact j;show I (V6 _ _ _ _)<=_;rw[Up];exact k;show I (V6 _ _ _ _)<=_;rw[Up];exact l;show I (V6 _ _ _ _)<=_;rw[Up];exact n;show I (h.E.map _)<=_;rw[Z6D];exact o;exact Je q;exact Je r;exact Je t;exact Je u;intro w d;obtain⟨v,_,rfl⟩:=Z6F.1 d;exact jo _ _ _
def p3:Fn:=⟨35,[0,1,2,3,4,5,6,10,12,13,14,15,16,17,18,19,20,21,22,23,24,91,25,97,114,27,26,28,30,29,31,136,138,32,33],pQ [pR [(6,pS 0 7),(7,pS 4 5),pV 8 pF],pC [pK 35 4 []] [pV 9<|.s 35],pC [pK 36 5 [.mm 6 0 7]] [(10,pS 36 10)],pC [pK 37 6 [.mm 10 0 10,.s 1,.s 2]] [pV 11<|.ext (.s 37) 0,pV 12<|.ext (.s 37) 1],pC [pK 38 7 [.mm 10 0 10,.s 11,.s 12]] [(13,pM (.sz (.ext (.s 38) 0) 10) 10),pV 14<|.ext (.s 38) 1],pC [pK 39 9 [.s 3,pI 30],pK 40 8 [.mm 13 0 10,.s 39]] [(15,pM (.sz (.ext (.s 40) 0) 10) 10),pV 16<|.ext (.s 40) 1],pC [pK 41 9 [.s 3,pI 30],pK 42 8 [.mm 10 0 10,.s 41]] [(17,pM (.sz (.ext (.s 42) 0) 10) 10),pV 18<|.ext (.s 42) 1],pC [pK 43 7 [.mm 17 0 10,.s 11,.s 12]] [(19,pM (.sz (.ext (.s 43) 0) 10) 10),pV 20<|.ext (.s 43) 1],pQ [.be ⟨[.lt 44 []<|pn (.s 14)<|pI 0,.lt 45 []<|.ite (.s 44) pT<|pn (.s 16)<|pI 0,.lt 46 []<|.ite (.s 45) pT<|pn (.s 18)<|pI 0,.lt 47 []<|.ite (.s 46) pT<|pn (.s 20)<|pI 0,.call 48 [(47,xw)] (.id 10) xw xw [.mm 15 0 10,.mm 19 0 10]],[([(44,xw)],pn (.s 16)<|pI 0),([(45,xw)],pn (.s 18)<|pI 0),([(46,xw)],pn (.s 20)<|pI 0),([(47,xw)],.un .not<|.s 48)],[pV 21<|.ite (.s 47) pT<|.un .not<|.s 48]⟩]<|pw (.s 21)<|px [pV 8 pF],pC [pK 49 11 [.mm 7 0 5,.s 5]] [(22,pS 49 7)],pi 23 (pe (.m 22 0)<|pI 1)<|pQ [.be ⟨[pK 50 6 [.mm 10 0 10,.s 1,pI 0]],[([],.ext (.s 50) 1)],[pV 11<|.ext (.s 50) 0]⟩,pR [pV 12<|.m 10 1],pC [pK 51 7 [.mm 10 0 10,.s 11,.s 12]] [(13,pM (.sz (.ext (.s 51) 0) 10) 10),pV 14<|.ext (.s 51) 1]]<|pi 24 (pn (.s 14)<|pI 0)<|px [pV 8 pF],pC [pK 52 12 [.mm 13 0 10,.mm 22 0 7]] [(25,pM (.sz (.ext (.s 52) 1) 10) 10),pV 26<|.ext (.s 52) 0,pV 27<|.ext (.s 52) 2],pC [pK 53 12 [.mm 10 0 10,.mm 22 0 7]] [(28,pM (.sz (.ext (.s 53) 1) 10) 10),pV 29<|.ext (.s 53) 0,pV 30<|.ext (.s 53) 2],pQ [.be ⟨[.lt 54 []<|pn (.s 26)<|.s 29],[([(54,xw)],pn (.s 27)<|.s 30)],[pV 31<|.ite (.s 54) pT<|pn (.s 27)<|.s 30]⟩]<|pw (.s 31)<|px [pV 8 pF],pi 32 (pn (.s 27)<|pI 0)<|px [pV 8<|.s 9],pC [pK 55 7 [.mm 28 0 10,.s 11,.s 12]] [(33,pM (.sz (.ext (.s 55) 0) 10) 10),pV 34<|.ext (.s 55) 1],.be ⟨[.lt 56 []<|.s 9,.lt 57 []<|.ite (.s 56) (pe (.s 34)<|pI 0) pF,.call 58 [(57,xk)] (.id 10) xw xw [.mm 25 0 10,.mm 33 0 10]],[([(56,xk)],pe (.s 34)<|pI 0)],[pV 8<|.ite (.s 57) (.s 58) pF]⟩] .ret,[(8,.v)]⟩
def c3:ZS Tryz.prog fresh sig [.fz,.fz,.fz,.fz,.fz,.fz] [] Tryz.f3=J p3:=Z2
def Ln:Fn:=⟨5,[0,1,2,4,5],pQ [pR [(2,pS 0 5),(3,.m [pI 0,pI 0,pI 0,pI 0,pI 0,pI 0,pU 0])],.be ⟨[pK 5 25 [.ai (.mm 2 0 5) (pI 4) 5 1 xw,pI 6]],[([],.ai (.c<|.agg [(.bool xk),(.bool xk),(.bool xk),(.bool xk),(.bool xk)]) (pI 4) 5 1 xw)],[(4,pM (.ag [.aj<|.s 5,pI 0]) 2)]⟩,.be ⟨[pK 6 25 [.cb .quo (.ai (.mm 2 0 5) (pI 4) 5 1 xw)<|pI 6,pa (.m 4 0)<|pI 1]],[([],.ai (.c<|.agg [(.bool xk),(.bool xk),(.bool xk),(.bool xk),(.bool xk)]) (pI 4) 5 1 xw)],[(4,.m [.m 4 0,.aj<|.s 6])]⟩,.be ⟨[pK 7 25 [.ai (.mm 2 0 5) (pI 0) 5 1 xw,pI 7],pK 8 25 [.ai (.mm 2 0 5) (pI 1) 5 1 xw,pI 5],pK 9 25 [.ai (.mm 2 0 5) (pI 2) 5 1 xw,pI 5],pK 10 25 [.ai (.mm 2 0 5) (pI 3) 5 1 xw,pI 4]],[([],.ai (.c<|.agg [(.bool xk),(.bool xk),(.bool xk),(.bool xk),(.bool xk)]) (pI 0) 5 1 xw),([],.ai (.c<|.agg [(.bool xk),(.bool xk),(.bool xk),(.bool xk),(.bool xk)]) (pI 1) 5 1 xw),([],.ai (.c<|.agg [(.bool xk),(.bool xk),(.bool xk),(.bool xk),(.bool xk)]) (pI 2) 5 1 xw),([],.ai (.c<|.agg [(.bool xk),(.bool xk),(.bool xk),(.bool xk),(.bool xk)]) (pI 3) 5 1 xw)],[(3,pM (.ag [pa (pI 1)<|.s 7,.aj<|.s 8,.aj<|.s 9,.aj<|.s 10,.ac (.mm 4 0 2) 0,.ac (.mm 4 0 2) 1,.aj<|.s 1]) 7)]⟩] .ret,[(3,(.ag 7))]⟩
def zL:ZS Tryz.prog fresh sig [.fz,.fz] [] Tryz.f11=J Ln:=Z2
def GP{l:Z5}{v:Int}(Q:xq l=5)(f:∀x∈l,ZP x):∃(o g:Int) (R S I z:Nat),(1<=o/\o<=7)/\I<=3/\z<=5/\Yo z g=xk/\VC Tryz.prog 11 xw [.agg<|l.map vi,vu v] (YI o R S I z g v):=by
 match l,Q with
 | [a,b,c,d,e],_=>
   have F:=f a Z1;have G:=f b Z1;have H:=f c Z1;have L:=f d Z1;have p:=f e Z1;have Z:=Wl (c:=a) (n:=7) Z0;have j:=ZA (1+pick a 7) Z0 Z0;have r:=Wl (c:=b) (n:=5) Z0;have t:=Wl (c:=c) (n:=5) Z0;have q:=Wl (c:=d) (n:=4) Z0;have w:=Wl (c:=e) (n:=6) Z0;have u:=ZA (pick e 6+1) Z0 Z0;have h: -9223372036854775808<=e.tdiv 6/\e.tdiv 6<=9223372036854775807:=by
    obtain⟨X,Y⟩:=p;rw[Int.tdiv_eq_ediv];have:Int.sign 6=1:=rfl;split<;>omega
   have k:=ZA (e.tdiv 6) h.1 h.2;have T:=Wl (c:=e.tdiv 6) (n:=pick e 6+1) Z0;have y:=S8 p (n:=6) Z0;have A:=S8 (c:=e.tdiv 6) h (n:=pick e 6+1) Z0;have W:=S8 F (n:=7) Z0;have B:=S8 G (n:=5) Z0;have C:=S8 H (n:=5) Z0;have D:=S8 L (n:=4) Z0;obtain⟨R,N⟩:=Z6q r.1;obtain⟨S,O⟩:=Z6q t.1;obtain⟨I,M⟩:=Z6q q.1;obtain⟨z,P⟩:=Z6q w.1;rw[N]at B r;rw[O]at C t;rw[M]at D q;rw[P]at y A w u T;generalize pick (e.tdiv 6) ((z:Int)+1)=g at*;generalize pick a 7=K at*;refine⟨1+K,g,R,S,I,z,Z0,Z0,Z0,Yq.2 ⟨Z0,Z0,Z0,Z0⟩,?_⟩;refine ZY Tryz.func11 follows Z2 zL rfl ?_;simp[Ln,Y4];refine Zz y Z1 ?_;simp[Y4,u,k];refine Zz A Z1 ?_;simp[Y4];refine Zz W Z1 ?_;simp[Y4];refine Zz B Z1 ?_;simp[Y4];refine Zz C Z1 ?_;simp[Y4];refine Zz D Z1 ?_;simp[Y4,j];simp[YI]
def GQ{h g:Hp}{p:Pts}(k:h.ok)(j:g.ok)(r:Rt h p)(m:Mvd h p g)(ok:MvOk h g.V g.cap)(f:0<=g.V){a pp v:Int}{R S I z:Nat}(w:1<=a/\a<=7)(q:a=1->g.cap=h.cap)(H:I<=3)(K:z<=5)(x:Yo z pp=xk)(A:Zy v):TE h g<|YI a R S I z pp v:=by
 have B:=m.rt r ok f;have l:ZP (I:Int):=by unfold ZP;omega
 by_cases d:∀u∈Xf a R S,0<=u/\u<xq h.E;case neg=>exact⟨0,1,Hp.zero,Hp.zero,Ba k r.right w d,Ba j B.right w (by rw[m.dz];exact d),λh=>Z5u⟩
 have:a=1\/a=2\/a=3\/a=4\/a=5\/a=6\/a=7:=Z0;have n:a≠3->a≠5->R<xq h.E:=λD F=>by
  have:=d R (by unfold Xf;rw[Z6h (Z0:¬(a=3\/a=5))];split<;>simp);omega
 have o:a≠1->a≠7->S<xq h.E:=λC G=>by
  have:=d S (by unfold Xf;rw[Z6h (Z0:¬(a=1\/a=7))];split<;>simp);omega
 clear d;obtain rfl|rfl|rfl|rfl|rfl|rfl|rfl:=this;have t:Xg z pp=(2*((z:Int)+65536*pp),0):=by unfold Xg;rw[Z6k x]
 have y:=Yq.1 x;exact ME k j r m ok f (q rfl) (n Z0 Z0) Z0 t (by unfold Zy;omega);exact MD k j r m ok f (n Z0 Z0) (o Z0 Z0) l;exact MC k j r m ok f<|o Z0 Z0;exact MG k j r m ok f (n Z0 Z0) (o Z0 Z0) l;exact MF k j r m ok f (o Z0 Z0) l A;exact MA k j r m ok f (n Z0 Z0)<|o Z0 Z0;exact MB k j r m ok f<|n Z0 Z0
def Alike.move{h g x y:Hp}{tb room:Int}(p:zq)(a:x.cap=h.cap/\Alike g x y)(ok:MvOk h tb room)(u:Zy tb)(f:ZP room)(n:g.V=tb)(o:g.cap=room):VC Tryz.prog 7 xw [ZF x,vu tb,vi room] (.am [ZF y,vi 0])/\y.ok:=by
 obtain⟨r,d,q,R,M,j,l⟩:=a;have k:=p x tb room d u f;rw[qk R<|ok.of r]at k;have:=M.eq;rw[j,l,n,o]at this;rw[<-this]at k;exact⟨k,by rw[this];exact qj d u f⟩
def Nf(H:zq)(hS:zw){x:Rw}(hx:x.ok){base more k v:Int}(Z:Zy base)(hm:ZP more)(hk:ZP k){n:Z5}(K:xq n=5)(hn:∀y∈n,ZP y)(hv:Zy v):VC Tryz.prog 3 xw [Wn x,vu base,vi more,vi k,.agg<|n.map vi,vu v]<|.bool xk:=by
 obtain⟨a0,a1,a2,a3,a4,rfl⟩:∃a0 a1 a2 a3 a4,n=[a0,a1,a2,a3,a4]:=by
  match n,K with
  | [a,b,c,d,e],_=>exact⟨a,b,c,d,e,rfl⟩
 refine ZY Tryz.func3 follows Z2 c3 rfl ?_;simp[p3];refine Zz (H8 H) Z1 ?_;simp;have kh:=Gs hx;unfold Wn at kh;refine Zz kh Z1 ?_;obtain⟨C,hl,b3⟩:=MU hx;have a9:=MQ hx;obtain⟨p,r⟩:=Sa.1<|MV hx;generalize VV x=h at*;have b0:0<=h.cap:=(Xe.1 hl).1;have q2:=Aq (h:=h) Z0 Z hm;obtain⟨G,F,Q,_⟩:=Ek (h:=h) Z0 (base:=base) (more:=more) Z;have k2:=H h (V8 h base more) (Vp h more) C F Q;rw[qk r G]at k2;have N:=qj C (p:=p) F Q;have M:=Mvd.of r.toBody<|G.nr F.1 hl;have q3:=Aq (h:=h) Z0 Z (more:=0) (by simp[ZP]);obtain⟨m3,u3,W,_⟩:=Ek (h:=h) Z0 (base:=base) (more:=0) Z;rw[Po]at m3 W q3;have k3:=H h (V8 h base 0) h.cap C u3 W;rw[qk r m3]at k3;have O:=qj C (p:=p) u3 W;have M3:=Mvd.of r.toBody<|m3.nr u3.1 hl;have j:(X4 h p (V8 h base more)<|Vp h more).V=V8 h base more/\(X4 h p (V8 h base more)<|Vp h more).cap=Vp h more:=⟨rfl,rfl⟩;have e3:(X4 h p (V8 h base 0) h.cap).V=V8 h base 0/\(X4 h p (V8 h base 0) h.cap).cap=h.cap:=⟨rfl,rfl⟩;generalize V8 h base more=l at*;generalize Vp h more=room at*;generalize V8 h base 0=P at*;generalize X4 h p l room=T at*;generalize X4 h p P h.cap=T3 at*;have rT:=M.rt r (by rw[j.1,j.2];exact G) (by rw[j.1];exact F.1);have L:=Wl (c:=k) (n:=30) Z0;have k4:=Ea hk (n:=30) Z0;obtain⟨c,hc⟩:=Z6q L.1;rw[hc]at L k4;have k5:=Av hS N (k:=c) ⟨Z0,Z0⟩;have k6:=Av hS C (k:=c) ⟨Z0,Z0⟩;rw[EG rT]at k5;rw[EG r]at k6;obtain⟨q,R,MS,b1,b2⟩:=M.iz (by rw[j.1,j.2];exact G) (by rw[j.1];exact F.1) r c;obtain⟨_,S⟩:=r.ei c;obtain⟨k7,a8⟩:=Alike.move (h:=h) (g:=T) H ⟨S.da.2.1,Sb C r c,q,R,MS,b1,b2⟩ G F Q j.1 j.2;have s1:=jF (b:=scanK T c) a8;obtain⟨kk,pp,RR,SS,I,z,a6,hI,hz,a7,k8⟩:=GP (v:=v) K hn;simp only[Z6R,Z7B]at k8;have key:∀(T:Hp) (l room:Int),T.ok->Mvd h p T->MvOk h l room->Zy l->ZP room->T.V=l->T.cap=room->(kk=1->room=h.cap)->∃(t e:Int) (X Y:Hp),VC Tryz.prog 12 xw [ZF T,YI kk RR SS I z pp v] (.am [vu t,ZF Y,vi e])/\VC Tryz.prog 12 xw [ZF h,YI kk RR SS I z pp v] (.am [vu t,ZF X,vi e])/\(e=0->VC Tryz.prog 7 xw [ZF X,vu l,vi room] (.am [ZF Y,vi 0])/\VC Tryz.prog 10 xw [ZF Y,ZF Y] (.bool xk)):=by
  intro T l room YN MT mo u f j e2 a5;obtain⟨t,e,X,Y,o,w,A⟩:=GQ C YN r MT (by rw[j,e2];exact mo) (by rw[j];exact u.1) (R:=RR) (S:=SS) a6 (λh1=>by rw[e2];exact a5 h1) hI hz a7 hv;refine⟨t,e,X,Y,w,o,λh0=> ?_⟩;obtain⟨a,b⟩:=Alike.move H (A h0) mo u f j e2;have:=jF (b:=Y) b;rw[Z7H rfl]at this;exact⟨a,this⟩
 simp only[ZF]at q2 k2 q3 k3 k5 k6 k7 s1;simp;refine Zz q2 Z1 ?_;simp;refine Zz k2 Z1 ?_;simp;refine Zz k4 Z1 ?_;simp;refine Zz k5 Z1 ?_;simp;refine Zz k4 Z1 ?_;simp;refine Zz k6 Z1 ?_;simp;refine Zz k7 Z1 ?_;simp;refine Zz s1 Z1 ?_;simp;refine Zz k8 Z1 ?_;by_cases D:kk=1;obtain⟨t,e,X,Y,o,w,A⟩:=key T3 P h.cap O M3 m3 u3 W e3.1 e3.2 λ_=>rfl;subst D;simp only[ZF,YI]at o w A;simp[YI];refine Zz q3 Z1 ?_;simp;refine Zz k3 Z1 ?_;simp;refine Zz o Z1 ?_;simp;refine Zz w Z1 ?_;by_cases B:e=0;obtain⟨d4,d5⟩:=A B;subst B;simp;refine Zz d4 Z1 ?_;simp;refine Zz d5 Z1 ?_;simp;simp[B];obtain⟨t,e,X,Y,o,w,A⟩:=key T l room N M G F Q j.1 j.2 λh1=>absurd h1 D;simp only[ZF,YI]at o w A;simp[YI,D];refine Zz o Z1 ?_;simp;refine Zz w Z1 ?_;by_cases B:e=0;obtain⟨d4,d5⟩:=A B;subst B;simp;refine Zz d4 Z1 ?_;simp;refine Zz d5 Z1 ?_;simp;simp[B]
end Vm
end
section
namespace Vm
open Go Go.Proofs Go.RowKit
def PD{f t:Ly}(a:f.ah)(d:t.ah){x:Int}(hx:Zy x)(w:Z4):Calls Tryz.prog 13 #[Wb f,Wb t,.int .u64 x] w λe g=>e=.returned (.tuple #[.int .u64 (Yg f t x).1,.int .i64 (Yg f t x).2])/\Below (xz<|xj w) w g:=
 Ub (jp a d hx) rfl rfl w
def Od{f t:Ly}{ws out:Z5}{a n i:Nat}(h:i<a\/a+n<=i):(YM f t ws out a n)[i]?=out[i]? :=by
 induction n with
 |zero=>rfl
 |succ n d=>
  rw[YM,Z7q,Z6h Z0];exact d Z0
def VZ(l:Ly):Array Value:=#[.int .u64 l.V,.int .i64 l.cap,.int .i64 l.to,.int .i64 l.H,.int .i64 l.aa,.int .i64 l.ad,.int .i64 l.ae]
def CF(w:Z4){f t:Ly}(hf:f.ah)(ht:t.ah){ws:Z5}(W:∀x∈ws,Zy x)(S:I ws<=1000000){lo m cap b B d bt A:Nat}(hl:lo+m<=I ws)
  (z:w.ownsRow B 24 1 (.slice (J ⟨b,0,U⟩) (I ws) cap) (I ws)<|Y6 .u64 ws) {T1 T2 T3:Zd} (P:w.heap[d]?=J (.cells (VZ f) T1 (0,0))) (h2:w.heap[bt]?=J (.cells (VZ t) T2 (0,0)))
  (Q:w.heap[A]?=J (.cells #[.int .i64 0] T3 (0,0))) (n1:d≠b) (n2:bt≠b) (n3:A≠b) (hz:∀j,j<m->∀x,ws[lo+j]?=J x->(Yg f t x).2=0):
  Calls Tryz.prog 20 #[.slice (J ⟨b,lo,U⟩) m<|cap-lo,.pointer<|J ⟨d,0,U⟩,.pointer<|J ⟨bt,0,U⟩,.pointer<|J ⟨A,0,U⟩] w λe X=>
   e=.returned (.tuple #[])/\w.grownBy X (J b)/\X.ownsRow B 24 1 (.slice (J ⟨b,0,U⟩) (I ws) cap) (I ws) (Y6 .u64<|YM f t ws ws lo m):=by
 have R:I ws<=cap:=by
  obtain⟨D,_⟩|⟨g',O,a0,D,_,_,u,_⟩:=z.2;simp at D;simp only[Value.slice.injEq,Z6c]at D;omega
 have L:=Z6e P;have M:=Z6e h2;have N:=Z6e Q;have HO:=Z6e z;have HU:=Z6e W;clear P h2 Q z W;go_enter Tryz.func20,Tryz.ntmps20;go_wp2
 go_loopw [11] (λi wr=>∃j:Nat,i=.int .i64 j/\j<=m/\Hid (w.grownBy wr (J b)/\wr.ownsRow B 24 1 (.slice (J ⟨b,0,U⟩) (I ws) cap) (I ws) (Y6 .u64<|YM f t ws ws lo j)))
  (λi _=>m- (intOf i).toNat)
 case atStart=>exact⟨0,rfl,Z0,Z6e ⟨WF (Z6r _ _) _,HO.out⟩⟩
 case round=>
  obtain⟨j,rfl,hj,g⟩:=hrel;by_cases F:j<m
  .have T:((j:Int)<m)=True:=Z7G Z0;obtain⟨x,C⟩:∃x,ws[lo+j]?=J x:=⟨_,Z6b Z0⟩;have H:=HU.out x<|Z6n C;have c0:wr.cell? ⟨b,lo+j,U⟩=J (.int .u64 x):=by
    have:=g.out.2.cellAt (lo+j) Z0;rw[this];simp[Y6,Od (f:=f) (t:=t) (ws:=ws) (out:=ws) (a:=lo) (n:=j) (i:=lo+j) Z0,C]
   have f0:wr.frozen? ⟨b,lo+j,U⟩=xw:=g.out.2.frozenAt<|lo+j;have k:=(g.out.1.block d (ZL L.out)<|by simp[n1]).trans L.out;have l:=(g.out.1.block bt (ZL M.out)<|by simp[n2]).trans M.out;have b3:=(g.out.1.block A (ZL N.out)<|by simp[n3]).trans N.out;have p0:wr.cell? ⟨d,0,U⟩=J (.int .u64 f.V):=Z5t;have p1:wr.cell? ⟨d,1,U⟩=J (.int .i64 f.cap):=Z5t;have p2:wr.cell? ⟨d,2,U⟩=J (.int .i64 f.to):=Z5t;have p3:wr.cell? ⟨d,3,U⟩=J (.int .i64 f.H):=Z5t;have p4:wr.cell? ⟨d,4,U⟩=J (.int .i64 f.aa):=Z5t;have p5:wr.cell? ⟨d,5,U⟩=J (.int .i64 f.ad):=Z5t;have p6:wr.cell? ⟨d,6,U⟩=J (.int .i64 f.ae):=Z5t;have q0:wr.cell? ⟨bt,0,U⟩=J (.int .u64 t.V):=Z5z;have q1:wr.cell? ⟨bt,1,U⟩=J (.int .i64 t.cap):=Z5z;have q2:wr.cell? ⟨bt,2,U⟩=J (.int .i64 t.to):=Z5z;have q3:wr.cell? ⟨bt,3,U⟩=J (.int .i64 t.H):=Z5z;have q4:wr.cell? ⟨bt,4,U⟩=J (.int .i64 t.aa):=Z5z;have q5:wr.cell? ⟨bt,5,U⟩=J (.int .i64 t.ad):=Z5z;have q6:wr.cell? ⟨bt,6,U⟩=J (.int .i64 t.ae):=Z5z;have K:=hz j F x C;have u:=PD hf ht H;unfold Wb at u;rw[K]at u;have Z:=Z6e u;have o:Y6 .u64 (YM f t ws ws lo<|j+1)=(Y6 .u64<|YM f t ws ws lo j).set (lo+j) (.int .u64 (Yg f t x).1):=by
    rw[YM,Jl,C];rfl
   have r:b<xz (xj wr):=(g.out.2.lt b rfl).2;generalize (Yg f t x).1=y at*;clear u k l
   go_wp2_with (first
    | (go_at_call 13;refine(Z.out _).mono ?_;rintro e Y ⟨rfl,h⟩
       have f1:Y.frozen? ⟨b,lo+j,U⟩=xw:=(h.frozen (p:=⟨b,lo+j,U⟩) r).trans f0;have c1:Y.cell? ⟨b,lo+j,U⟩=J (.int .u64 x):=(h.cell (p:=⟨b,lo+j,U⟩) r).trans c0;have q:=Z6e h;clear h))
   go_roundw
   case rel=>
    refine⟨j+1,by go_num,Z0,Z6e ?_⟩;have hg:=WS g.out.1<|WF q.out<|J b;have z:=g.out.2.kept (WF q.out U)<|.inr (by simp[Value.ownBlock]);have G:=z.stored (lo+j)<|.int .u64 y;rw[<-o]at G;exact⟨WS hg G.2,G.1⟩
   case measure=>simp[intOf];omega
  .have:j=m:=Z0;subst this;go_wp2;exact bodyPost_end (Z98 rfl _ _ _) rfl ⟨rfl,g.out.1,g.out.2⟩
section
section
variable {w:Z4}{G:Z6}{h:Hp}{x:Z3}
def LI(k:h.ok)(f:∀b,G b->b<xz (xj w))(l:∀j,j<5->Rd w G (.sl<|(Zu h j).map vu) (x j)):
  Calls Tryz.prog 17 #[Zx h x] w λe d=>e=.returned (.bool<|Yp h)/\Below (xz<|xj w) w d:=by
 refine Z84 ((zl k).2 w G _ f rfl ?_) ?_;intro i y a
 match i,a with
 |0,a=>cases a;exact UR l
 rintro e d ⟨v,rfl,g,n⟩;exact⟨by rw[JH n],g⟩
def Rd.rh{l:List V}{v:Za}(h:Rd w G (.sl l) v):∃a c,v=.slice a (I l) c:=by
 cases h with
 |nil a cap _=>exact⟨a,cap,rfl⟩
 |sl l b o cap k d=>exact⟨_,cap,rfl⟩
def zt(w:Z4)(l:Z8)(v:Za)(d:Z6):Prop:=
 ∃a c,v=.slice a (I l) c/\(0<I l->∃g o,a=J ⟨g,o,U⟩/\d g/\g<xz (xj w)/\∀k b,l[k]?=J b->w.cell? ⟨g,o+k*5,U⟩=J (.int .i64 b.Y)/\w.cell? ⟨g,o+k*5+1,U⟩=J (.int .i64 b.size)/\
  w.cell? ⟨g,o+k*5+2,U⟩=J (.int .i64 b.Z)/\w.cell? ⟨g,o+k*5+3,U⟩=J (.bool b.gone)/\w.cell? ⟨g,o+k*5+4,U⟩=J (.int .u64 b.target))
def Ov{l:Z8}{v:Za}(r:Rd w G (.sl<|l.map ZU) v)(D:∀b,G b->b<xz (xj w)):zt w l v G:=by
 have f:∀x∈l.map ZU,x.ah 5:=λx N=>by
  obtain⟨n,_,rfl⟩:=Z6F.1 N;exact⟨rfl,λc d=>by simp at d;obtain rfl|rfl|rfl|rfl|rfl:=d<;>rfl⟩
 obtain⟨a,c,rfl⟩:=Rd.rh r;refine⟨a,c,Z1,λK=> ?_⟩;generalize p:l.map ZU=L at r f;cases r with
 |nil=>simp at p;subst p;simp at K
 |sl _ g o cap k T W X u B C h=>
  refine⟨g,o,rfl,u,D _ u,λi b t=> ?_⟩;have F:i<I l:=(Z6d.1 t).1;have H:k=5:=by
   have M:ZU b∈L:=by rw[<-p];exact Z74<|Z6n t
   have A:=(B _ M).1;simpa using A.symm
  subst H;have z:I L=I l:=by rw[<-p];simp
  have q:∀j,j<5->(flat L)[i*5+j]?=(ZU b).cells[j]? :=λj y=>UO f (by rw[<-p,Z6G,t];rfl) j y;have d:∀j,j<5->w.cell? ⟨g,o+i*5+j,U⟩=J (T<|i*5+j):=λj y=>by
   rw[Z77];exact C _ Z0
  have O:=h _ _<|(q 0 Z0).trans rfl;have P:=h _ _<|(q 1 Z0).trans rfl;have Q:=h _ _<|(q 2 Z0).trans rfl;have R:=h _ _<|(q 3 Z0).trans rfl;have S:=h _ _<|(q 4 Z0).trans rfl;refine⟨?_,?_,?_,?_,?_⟩;rw[<-V9 O];exact d 0 Z0;rw[<-V9 P];exact d 1 Z0;rw[<-V9 Q];exact d 2 Z0;rw[<-JH R];exact d 3 Z0;rw[<-V9 S];exact d 4 Z0
def Ou{p:Pts}(F:h.ok)(B:Rt h p)(k:Nat)(T:k<4)(z:∀b,G b->b<xz (xj w))(hx:∀j,j<5->Rd w G (.sl<|(Zu h j).map vu) (x j)):
  Calls Tryz.prog 21 #[Zx h x,.int .i64 ((k+1:Nat):Int)] w λe t=>∃v,e=.returned (.tuple #[v,.int .i64 0])/\Below (xz<|xj w) w t/\zt t (p.at ((k+1:Nat):Int)) v (λb=>G b\/xz (xj w)<=b):=by
 have L:RX h ((k+1:Nat):Int)=(p.at ((k+1:Nat):Int),0):=by
  unfold RX;rw[Z6k ⟨B.right,Z0,Z0⟩,B.eh];rfl
 have:=Gd F (k:=((k+1:Nat):Int));rw[L]at this;refine Z84 (this.2 w G _ z rfl ?_) ?_;intro i y r
 match i,r with
 |0,r=>cases r;exact UR hx
 |1,r=>cases r;exact .int _ _
 rintro e t ⟨v,rfl,A,M⟩;cases M with
 |am _ C K q=>
  have R:=q 0 _ rfl;have S:=V9<|q 1 _ rfl;have l:C.size=2:=K;refine⟨C.getD 0 xy,?_,A,?_⟩;congr 2;apply Z8F;simp[l];intro i n u;have H:i<2:=Z0
  match i,H with
  |0,_=>simp[Array.getD,l]
  |1,_=>simpa[Array.getD,l]using S
  have:=Ov (R.mono (G':=λb=>(G b\/xz (xj w)<=b)/\b<xz (xj t)) (λb d=>by
   obtain⟨_,n⟩|⟨n,u⟩:=d;exact⟨.inl n,Z6o (z b n) A.size⟩;exact⟨.inr n,u⟩)) (λb d=>d.2)
  obtain⟨a,c,e,f⟩:=this;exact⟨a,c,e,λD=>by obtain⟨g,o,N,O,P,Q⟩:=f D;exact⟨g,o,N,O.1,P,Q⟩⟩
end
def CC(w:Z4)(a:Option Addr)(c:Nat)(v1 v2 v3:Za):
  Calls Tryz.prog 20 #[.slice a 0 c,v1,v2,v3] w λe d=>e=.returned (.tuple #[])/\Below (xz<|xj w) w d:=by
 go_enter Tryz.func20,Tryz.ntmps20;go_wp2;go_loopw [11] (λi wr=>i=.int .i64 0/\wr=w) (λ_ _=>0)
 case atStart=>exact⟨rfl,rfl⟩
 case round=>
  obtain⟨rfl,rfl⟩:=hrel;go_wp2;exact bodyPost_end (Z98 rfl _ _ _) rfl ⟨rfl,Z6r _ _⟩
structure MvI (B:Nat) (w wr:World) (bh br b8 bf bt bw:Nat) (f t:Ly) (h:Hp) (src x:Nat->Value) (base words:Int) (L:Nat->List Int):Prop where
 below:Below B w wr
 le:B<=bh/\B<=br/\B<=b8/\B<=bf/\B<=bt/\B<=bw
 hb:wr.heap[bh]?=J (.cells #[.int .u64 h.V,.int .i64 h.cap,.int .i64 h.to,.bool h.M,.int .i64 h.O,src 0,src 1,src 2,src 3,src 4] 31 (0,0))
 rb:wr.heap[br]?=J (.cells ZE 31 (0,0))
 nb:wr.heap[b8]?=J (.cells #[.int .u64 base,.int .i64 words,.int .i64 h.to,.bool h.M,.int .i64 h.O,x 0,x 1,x 2,x 3,x 4] 31 (0,0))
 fb:wr.heap[bf]?=J (.cells (VZ f) 52 (0,0))
 tb:wr.heap[bt]?=J (.cells (VZ t) 52 (0,0))
 wb:wr.heap[bw]?=J (.cells #[.int .i64 0] 35 (0,0))
 len:∀j,j<5->I (L j)=I (Zu h j)
 own:∀j,j<5->wr.ownsRow B 24 1 (x j) (I<|L j) (Y6 .u64<|L j)
 apart:∀i j,i<j->j<5->∀c,(x i).ownBlock=J c->(x j).ownBlock≠J c
 ae:∀j,j<5->∀c,(x j).ownBlock=J c->c≠bh/\c≠br/\c≠b8/\c≠bf/\c≠bt/\c≠bw
section
variable {B:Nat}{w wr:Z4}{bh br b8 bf bt bw:Nat}{f t:Ly}{h:Hp}{src x:Z3}{base words:Int}{L:Nat->List Int}
def MvI.keep(m:MvI B w wr bh br b8 bf bt bw f t h src x base words L){w':Z4}(d:Below (xz<|xj wr) wr w'):MvI B w w' bh br b8 bf bt bw f t h src x base words L:=by
 have k:∀c O,wr.heap[c]?=J O->w'.heap[c]?=J O:=λc O a=>(d.block c<|ZL a).trans a;have l:B<=xz (xj wr):=Z6H m.le.1<|Z9N<|ZL m.hb;exact⟨m.below.trans<|d.mono l,m.le,k _ _ m.hb,k _ _ m.rb,k _ _ m.nb,k _ _ m.fb,k _ _ m.tb,k _ _ m.wb,m.len,λj g=>Yx (m.own j g) λc a=>d.block c ((m.own j g).lt c a).2,m.apart,m.ae⟩
def MvI.kx(m:MvI B w wr bh br b8 bf bt bw f t h src x base words L){w':Z4}{k:Nat}(l:k<5){ws:Z5}(z:I ws=I (L k)){row:Option Nat}(g:(x k).ownBlock=row)(u:wr.grownBy w' row)(D:w'.ownsRow B 24 1 (x k) (I<|L k)<|Y6 .u64 ws):
  MvI B w w' bh br b8 bf bt bw f t h src x base words (λj=>if j=k then ws else L j):=by
 have A:B<=xz (xj wr):=Z6H m.le.1<|Z9N<|ZL m.hb;have p:∀c O,wr.heap[c]?=J O->(∀d,(x k).ownBlock=J d->d≠c)->w'.heap[c]?=J O:=λc O n C=>(u.block c (ZL n) (by rw[<-g];intro e;exact C c e.symm rfl)).trans n;refine⟨m.below.grown u A (λr F=>((m.own k l).lt r (by rw[g];exact F)).1),m.le,p _ _ m.hb λd a=>(m.ae k l d a).1,p _ _ m.rb λd a=>(m.ae k l d a).2.1,p _ _ m.nb λd a=>(m.ae k l d a).2.2.1,p _ _ m.fb λd a=>(m.ae k l d a).2.2.2.1,p _ _ m.tb λd a=>(m.ae k l d a).2.2.2.2.1,p _ _ m.wb λd a=>(m.ae k l d a).2.2.2.2.2,?_,?_,m.apart,m.ae⟩;intro j o;by_cases e:j=k;subst e;simp only[Z6k];rw[z];exact m.len j o;rw[Z6h e];exact m.len j o;intro j o;by_cases e:j=k;subst e;simp only[Z6k];rw[z];exact D;rw[Z6h e];refine Yx (m.own j o) λc n=>u.block c ((m.own j o).lt c n).2 ?_;rw[<-g];intro y;obtain q|q:=Z89 e;exact m.apart j k q l c n y.symm;exact m.apart k j q o c y.symm n
def MvI.congr(m:MvI B w wr bh br b8 bf bt bw f t h src x base words L){d:Nat->List Int}(e:∀j,j<5->d j=L j):MvI B w wr bh br b8 bf bt bw f t h src x base words d:=
 ⟨m.below,m.le,m.hb,m.rb,m.nb,m.fb,m.tb,m.wb,λj a=>by rw[e j a];exact m.len j a,λj a=>by rw[e j a];exact m.own j a,m.apart,m.ae⟩
def MvI.rd(m:MvI B w wr bh br b8 bf bt bw f t h src x base words L){G:Z6}(a:∀b,G b->b<B)(k:∀j,j<5->Rd w G (.sl<|(Zu h j).map vu) (src j)):∀j,j<5->Rd wr G (.sl<|(Zu h j).map vu) (src j):=
 λj g=>(k j g).keep (λb d=>m.below.block b<|a b d) λ_ q=>q
end
end
section
def R0(a:Act)(d f g h j k:Nat)(v1 v2 v3 v4 v5 v6:Za):Act:=T6 a [(d,v1),(f,v2),(g,v3),(h,v4),(j,v5),(k,v6)]
def s7{P:Ze}{ops:Array Oper}{Q:Zb}{id:Nat}{d:Act}{w0:Z4}(g h k l n p:Nat)(C:(Nat->Bool)->Value->Value->Value->Value->Value->Value->World->Prop)
  (A:P.follows .mixedOrders=xk) (f:Le ops=xk) (t:∃v1 v2 v3 v4 v5 v6,d=R0 d g h k l n p v1 v2 v3 v4 v5 v6/\C (λ_=>xw) v1 v2 v3 v4 v5 v6 {w0 with drawn:=w0.drawn+1})
  (r:∀(L:Zc) (i:Nat) (o:Oper) (v1 v2 v3 v4 v5 v6:Za) (w:Z4),ops[i]?=J o->L i=xw->(∀j∈Vg o,L j=xk)->C L v1 v2 v3 v4 v5 v6 w->
   wpList P ops (QN (λa w=>∃v1 v2 v3 v4 v5 v6,a=R0 d g h k l n p v1 v2 v3 v4 v5 v6/\C (add L i) v1 v2 v3 v4 v5 v6 w) Q) [o] (R0 d g h k l n p v1 v2 v3 v4 v5 v6) w)
  (x:∀(L:Zc) (v1 v2 v3 v4 v5 v6:Za) (w:Z4),(∀i,i<ops.size->L i=xk)->C L v1 v2 v3 v4 v5 v6 w->Q .normal (R0 d g h k l n p v1 v2 v3 v4 v5 v6) w):(Code.region id ops xk).wp P Q d w0:=by
 refine EL A (Da f) (λL a w=>∃v1 v2 v3 v4 v5 v6,a=R0 d g h k l n p v1 v2 v3 v4 v5 v6/\C L v1 v2 v3 v4 v5 v6 w) t ?_ ?_;rintro L i o _ w B y z ⟨v1,v2,v3,v4,v5,v6,rfl,q⟩;exact r L i o v1 v2 v3 v4 v5 v6 w B y z q;rintro L _ w u ⟨v1,v2,v3,v4,v5,v6,rfl,q⟩;exact x L v1 v2 v3 v4 v5 v6 w u q
def Z7:Array Value:=#[.int .u64 0,.int .i64 0,.int .i64 0,.int .i64 0,.int .i64 0,.int .i64 0,.int .i64 0]
structure RegC (WQ:World) (hA nA:Value) (f t:Ly) (T:TypeId) (L:Nat->Bool) (v0 v1 v2 v3 v4 v5:Value) (w:World):Prop where
 b:Below (xz<|xj WQ) WQ w
 s0:L 0=xk->v0=hA
 s1:L 1=xk->v1=Wb f
 s2:L 2=xk->v2=nA
 s3:L 3=xk->v3=Wb t
 s4:L 4=xk->∃c,v4=.pointer (J ⟨c,0,U⟩)/\xz (xj WQ)<=c/\w.heap[c]?=J (.cells (if L 6=xk then VZ f else Z7) T (0,0))
 s5:L 5=xk->∃c,v5=.pointer (J ⟨c,0,U⟩)/\xz (xj WQ)<=c/\w.heap[c]?=J (.cells (if L 7=xk then VZ t else Z7) T (0,0))
 ne:L 4=xk->L 5=xk->v4≠v5
 c6:L 6=xk->L 4=xk
 c7:L 7=xk->L 5=xk
section
variable {WQ:Z4}{hA nA:Za}{f t:Ly}{T:Zd}{L:Zc}{v0 v1 v2 v3 v4 v5:Za}{w:Z4}
def RegC.su(C:RegC WQ hA nA f t T L v0 v1 v2 v3 v4 v5 w):RegC WQ hA nA f t T (add L 0) hA v1 v2 v3 v4 v5 w:=by
 obtain⟨b,d,g,h,k,l,n,ne,c6,a⟩:=C;constructor<;>(try simp only[VL,ZR (L:=L) (i:=0) (j:=1) Z5q,ZR (L:=L) (i:=0) (j:=2) Z5q,ZR (L:=L) (i:=0) (j:=3) Z5q,ZR (L:=L) (i:=0) (j:=4) Z5q,ZR (L:=L) (i:=0) (j:=5) Z5q,ZR (L:=L) (i:=0) (j:=6) Z5q,ZR (L:=L) (i:=0) (j:=7) Z5q])<;>first|assumption|exactλ_=>by assumption|exact fun _=>trivial|exact fun _=>rfl
def RegC.td(C:RegC WQ hA nA f t T L v0 v1 v2 v3 v4 v5 w):RegC WQ hA nA f t T (add L 2) v0 v1 nA v3 v4 v5 w:=by
 obtain⟨b,d,g,h,k,l,n,ne,c6,a⟩:=C;constructor<;>(try simp only[VL,ZR (L:=L) (i:=2) (j:=1) Z5q,ZR (L:=L) (i:=2) (j:=0) Z5q,ZR (L:=L) (i:=2) (j:=3) Z5q,ZR (L:=L) (i:=2) (j:=4) Z5q,ZR (L:=L) (i:=2) (j:=5) Z5q,ZR (L:=L) (i:=2) (j:=6) Z5q,ZR (L:=L) (i:=2) (j:=7) Z5q])<;>first|assumption|exactλ_=>by assumption|exact fun _=>trivial|exact fun _=>rfl
def RegC.kw(C:RegC WQ hA nA f t T L v0 v1 v2 v3 v4 v5 w){w':Z4}(j:Below (xz<|xj w) w w'):RegC WQ hA nA f t T L v0 v1 v2 v3 v4 v5 w':=
 ⟨C.b.trans<|j.mono C.b.size,C.s0,C.s1,C.s2,C.s3,λh=>by obtain⟨c,d,g,a⟩:=C.s4 h;exact⟨c,d,g,(j.block c<|ZL a).trans a⟩,λh=>by obtain⟨c,d,g,a⟩:=C.s5 h;exact⟨c,d,g,(j.block c<|ZL a).trans a⟩,C.ne,C.c6,C.c7⟩
def RegC.sw(C:RegC WQ hA nA f t T L v0 v1 v2 v3 v4 v5 w){w':Z4}(a:Below (xz<|xj w) w w'):RegC WQ hA nA f t T (add L 1) v0 (Wb f) v2 v3 v4 v5 w':=by
 obtain⟨b,g,h,k,l,n,o,ne,c6,d⟩:=C.kw a;constructor<;>(try simp only[VL,ZR (L:=L) (i:=1) (j:=0) Z5q,ZR (L:=L) (i:=1) (j:=2) Z5q,ZR (L:=L) (i:=1) (j:=3) Z5q,ZR (L:=L) (i:=1) (j:=4) Z5q,ZR (L:=L) (i:=1) (j:=5) Z5q,ZR (L:=L) (i:=1) (j:=6) Z5q,ZR (L:=L) (i:=1) (j:=7) Z5q])<;>first|assumption|exactλ_=>by assumption|exact fun _=>trivial|exact fun _=>rfl
def RegC.te(C:RegC WQ hA nA f t T L v0 v1 v2 v3 v4 v5 w){w':Z4}(a:Below (xz<|xj w) w w'):RegC WQ hA nA f t T (add L 3) v0 v1 v2 (Wb t) v4 v5 w':=by
 obtain⟨b,g,h,k,l,n,o,ne,c6,d⟩:=C.kw a;constructor<;>(try simp only[VL,ZR (L:=L) (i:=3) (j:=0) Z5q,ZR (L:=L) (i:=3) (j:=2) Z5q,ZR (L:=L) (i:=3) (j:=1) Z5q,ZR (L:=L) (i:=3) (j:=4) Z5q,ZR (L:=L) (i:=3) (j:=5) Z5q,ZR (L:=L) (i:=3) (j:=6) Z5q,ZR (L:=L) (i:=3) (j:=7) Z5q])<;>first|assumption|exactλ_=>by assumption|exact fun _=>trivial|exact fun _=>rfl
def RegC.tf(C:RegC WQ hA nA f t T L v0 v1 v2 v3 v4 v5 w)(g:L 6=xw):RegC WQ hA nA f t T (add L 4) v0 v1 v2 v3 (.pointer<|J ⟨xz<|xj w,0,U⟩) v5<|w.alloc<|.cells Z7 T:=by
 have k:L 5=xk->Value.pointer (J ⟨xz<|xj w,0,U⟩)≠v5:=λh e=>by
  obtain⟨c,a,_,d⟩:=C.s5 h;rw[a]at e;have:=ZL d;simp only[Value.pointer.injEq,Z6c,Addr.mk.injEq,and_true]at e;omega
 have l:=C.b.size;obtain⟨b,o,p,q,r,u,x,ne,c6,n⟩:=C.kw<|(Z6r _ w).alloc (Z6i _)<|.cells Z7 T;constructor<;>(try simp only[VL,ZR (L:=L) (i:=4) (j:=0) Z5q,ZR (L:=L) (i:=4) (j:=2) Z5q,ZR (L:=L) (i:=4) (j:=1) Z5q,ZR (L:=L) (i:=4) (j:=3) Z5q,ZR (L:=L) (i:=4) (j:=5) Z5q,ZR (L:=L) (i:=4) (j:=6) Z5q,ZR (L:=L) (i:=4) (j:=7) Z5q])<;>first|assumption|exactλ_=>by assumption|exactλ_=>trivial|exactλ_=>k|exactλ_=>⟨_,rfl,l,by rw[g];exact Z6u w _⟩
def RegC.tg(C:RegC WQ hA nA f t T L v0 v1 v2 v3 v4 v5 w)(g:L 7=xw):RegC WQ hA nA f t T (add L 5) v0 v1 v2 v3 v4 (.pointer<|J ⟨xz<|xj w,0,U⟩)<|w.alloc<|.cells Z7 T:=by
 have k:L 4=xk->v4≠Value.pointer (J ⟨xz<|xj w,0,U⟩):=λh e=>by
  obtain⟨c,a,_,d⟩:=C.s4 h;rw[a]at e;have:=ZL d;simp only[Value.pointer.injEq,Z6c,Addr.mk.injEq,and_true]at e;omega
 have l:=C.b.size;obtain⟨b,o,p,q,r,u,x,ne,c6,n⟩:=C.kw<|(Z6r _ w).alloc (Z6i _)<|.cells Z7 T;constructor<;>(try simp only[VL,ZR (L:=L) (i:=5) (j:=0) Z5q,ZR (L:=L) (i:=5) (j:=2) Z5q,ZR (L:=L) (i:=5) (j:=1) Z5q,ZR (L:=L) (i:=5) (j:=3) Z5q,ZR (L:=L) (i:=5) (j:=4) Z5q,ZR (L:=L) (i:=5) (j:=6) Z5q,ZR (L:=L) (i:=5) (j:=7) Z5q])<;>first|assumption|exactλ_=>by assumption|exactλ_=>trivial|exactλh _=>k h|exactλ_=>⟨_,rfl,l,by rw[g];exact Z6u w _⟩
def Ut(w:Z4)(b:Nat)(l:Ly):World:=((((((w.setCell ⟨b,0,U⟩<|.int .u64 l.V).setCell ⟨b,1,U⟩<|.int .i64 l.cap).setCell ⟨b,2,U⟩<|.int .i64 l.to).setCell ⟨b,3,U⟩<|.int .i64 l.H).setCell ⟨b,4,U⟩<|.int .i64 l.aa).setCell ⟨b,5,U⟩<|.int .i64 l.ad).setCell ⟨b,6,U⟩<|.int .i64 l.ae
def EA{b:Nat}{l:Ly}(a:w.heap[b]?=J (.cells Z7 T (0,0))):(Ut w b l).heap[b]?=J (.cells (VZ l) T (0,0)):=by
 unfold Z7 at a;simp[Ut,VZ,World.setCell,Z6I,a]
def EB{b c:Nat}{l:Ly}(a:c≠b):(Ut w b l).heap[c]?=w.heap[c]? :=by
 have:¬b=c:=λe=>a e.symm;simp[Ut,World.setCell,Z6I,this]
def Ez{B b:Nat}{l:Ly}(h:Below B WQ w)(a:B<=b):Below B WQ<|Ut w b l:=
 ((((((h.setCell a _).setCell a _).setCell a _).setCell a _).setCell a _).setCell a _).setCell a _
def RegC.th(C:RegC WQ hA nA f t T L v0 v1 v2 v3 v4 v5 w)(p:L 4=xk)(x:L 6=xw){c:Nat}(a:v4=.pointer (J ⟨c,0,U⟩)):RegC WQ hA nA f t T (add L 6) v0 v1 v2 v3 v4 v5<|Ut w c f:=by
 obtain⟨b,G,H,K,M,y,z,ne,c6,A⟩:=C;obtain⟨q,g,k,n⟩:=y p;rw[a]at g;obtain rfl:c=q:=Z5Y;rw[x]at n;have D:L 4=xk->∃d,v4=.pointer (J ⟨d,0,U⟩)/\xz (xj WQ)<=d/\(Ut w c f).heap[d]?=J (.cells (VZ f) T (0,0)):=λ_=>⟨c,a,k,EA n⟩;have F:L 5=xk->∃d,v5=.pointer (J ⟨d,0,U⟩)/\xz (xj WQ)<=d/\(Ut w c f).heap[d]?=J (.cells (if L 7=xk then VZ t else Z7) T (0,0)):=λh=>by
  obtain⟨d,o,r,u⟩:=z h;refine⟨d,o,r,(EB ?_).trans u⟩;rintro rfl;exact ne p h<|a.trans o.symm
 have B:=Ez (l:=f) b k;constructor<;>(try simp only[VL,Z7m,ZR (L:=L) (i:=6) (j:=0) Z5q,ZR (L:=L) (i:=6) (j:=2) Z5q,ZR (L:=L) (i:=6) (j:=1) Z5q,ZR (L:=L) (i:=6) (j:=3) Z5q,ZR (L:=L) (i:=6) (j:=4) Z5q,ZR (L:=L) (i:=6) (j:=5) Z5q,ZR (L:=L) (i:=6) (j:=7) Z5q])<;>first|assumption|exactλ_=>by assumption|exactλ_=>trivial
def RegC.ti(C:RegC WQ hA nA f t T L v0 v1 v2 v3 v4 v5 w)(p:L 5=xk)(x:L 7=xw){c:Nat}(a:v5=.pointer (J ⟨c,0,U⟩)):RegC WQ hA nA f t T (add L 7) v0 v1 v2 v3 v4 v5<|Ut w c t:=by
 obtain⟨b,G,H,K,M,y,z,ne,c6,A⟩:=C;obtain⟨q,g,k,n⟩:=z p;rw[a]at g;obtain rfl:c=q:=Z5Y;rw[x]at n;have F:L 5=xk->∃d,v5=.pointer (J ⟨d,0,U⟩)/\xz (xj WQ)<=d/\(Ut w c t).heap[d]?=J (.cells (VZ t) T (0,0)):=λ_=>⟨c,a,k,EA n⟩;have D:L 4=xk->∃d,v4=.pointer (J ⟨d,0,U⟩)/\xz (xj WQ)<=d/\(Ut w c t).heap[d]?=J (.cells (if L 6=xk then VZ f else Z7) T (0,0)):=λh=>by
  obtain⟨d,o,r,u⟩:=y h;refine⟨d,o,r,(EB ?_).trans u⟩;rintro rfl;exact ne h p<|o.trans a.symm
 have B:=Ez (l:=t) b k;constructor<;>(try simp only[VL,Z7m,ZR (L:=L) (i:=7) (j:=0) Z5q,ZR (L:=L) (i:=7) (j:=2) Z5q,ZR (L:=L) (i:=7) (j:=1) Z5q,ZR (L:=L) (i:=7) (j:=3) Z5q,ZR (L:=L) (i:=7) (j:=4) Z5q,ZR (L:=L) (i:=7) (j:=5) Z5q,ZR (L:=L) (i:=7) (j:=6) Z5q])<;>first|assumption|exactλ_=>by assumption|exactλ_=>trivial
end
end
section
section
variable {B:Nat}{w wr:Z4}{bh br b8 bf bt bw:Nat}{f t:Ly}{h:Hp}{src x:Z3}{base words:Int}{L:Nat->List Int}
theorem MvI.kept(m:MvI B w wr bh br b8 bf bt bw f t h src x base words L){w':Z4}(d:Below (xz<|xj wr) wr w'){k:Nat}{ws:Z5}(e:ws=L k):MvI B w w' bh br b8 bf bt bw f t h src x base words (λj=>if j=k then ws else L j):=
 (m.keep d).congr λj _=>by
  by_cases a:j=k;rw[Z6k a,e,a];rw[Z6h a]
def MvI.ms(m:MvI B w wr bh br b8 bf bt bw f t h src x base words L)(F:f.ah)(H:t.ah){k:Nat}(n:k<5)(K:∀v∈L k,Zy v)(d:I (L k)<=1000000)(M:∀v∈L k,(Yg f t v).2=0):
  Calls Tryz.prog 20 #[x k,.pointer<|J ⟨bf,0,U⟩,.pointer<|J ⟨bt,0,U⟩,.pointer<|J ⟨bw,0,U⟩] wr λe r=>
   e=.returned (.tuple #[])/\MvI B w r bh br b8 bf bt bw f t h src x base words (λj=>if j=k then YM f t (L k) (L k) 0 (I<|L k) else L j):=by
 have o:=m.own k n;have a:=m.ae k n;obtain⟨l,C⟩|⟨g,cap,u,l,_⟩:=o.2;rw[l];refine(CC wr U 0 _ _ _).mono ?_;rintro e r ⟨rfl,D⟩;exact⟨rfl,m.kept D (by rw[C];rfl)⟩;rw[l]at o a⊢;obtain⟨N,O,P,y,z,A⟩:=a g rfl;have:=CF wr F H K d (lo:=0) (m:=I<|L k) Z0 o m.fb m.tb m.wb (Z8d y) (Z8d z) (Z8d A) (λj Q v q=>M v<|Z6n q);rw[Nat.sub_zero]at this;refine this.mono ?_;rintro e r ⟨rfl,G,p⟩;exact⟨rfl,m.kx n Z1 (by rw[l];rfl) G (by rw[l];exact p)⟩
def MvI.ii(m:MvI B w wr bh br b8 bf bt bw f t h src x base words L)(H:f.ah)(N:t.ah){k:Nat}(p:k<5)(O:∀v∈L k,Zy v)(l:I (L k)<=1000000){g cap n:Nat}(M:n=I (L k))(r:x k=.slice (J ⟨g,0,U⟩) n cap){lo mm:Nat}(K:lo+mm<=n)
  (P:∀j,j<mm->∀v,(L k)[lo+j]?=J v->(Yg f t v).2=0) {a:Option Addr} (G:mm≠0->a=J ⟨g,lo,U⟩):
  Calls Tryz.prog 20 #[.slice a mm<|cap-lo,.pointer<|J ⟨bf,0,U⟩,.pointer<|J ⟨bt,0,U⟩,.pointer<|J ⟨bw,0,U⟩] wr λe o=>
   e=.returned (.tuple #[])/\MvI B w o bh br b8 bf bt bw f t h src x base words (λj=>if j=k then YM f t (L k) (L k) lo mm else L j)/\wr.grownBy o (J g):=by
 have A:=m.own k p;have d:=m.ae k p;subst M;rw[r]at A d;obtain⟨Q,R,S,C,D,F⟩:=d g rfl;by_cases u:mm=0;subst u;refine(CC wr a (cap-lo) _ _ _).mono ?_;rintro e o ⟨rfl,y⟩;exact⟨rfl,m.kept y rfl,WF y _⟩;rw[G u];refine(CF wr H N O l (lo:=lo) (m:=mm) K A m.fb m.tb m.wb (Z8d C) (Z8d D) (Z8d F) P).mono ?_;rintro e o ⟨rfl,z,q⟩;exact⟨rfl,m.kx p Z1 (by rw[r];rfl) z (by rw[r];exact q),z⟩
end
def TG(w:Z4)(r:Hp×Int)(e:Ending)(w':Z4):Prop:=
 ∃x,e=.returned (.tuple #[Zx r.1 x,.int .i64 r.2])/\Below (xz<|xj w) w w'/\∀j,j<5->Rd w' (λc=>xz (xj w)<=c/\c<xz (xj w')) (.sl<|(Zu r.1 j).map vu) (x j)
end
def TF(f t:Ly)(h:Hp)(p:Pts)(k:Nat):Nat->List Int:=λj=>if j=4 then YM f t h.E h.E 0 (I h.E) else if j<k then V6 f t (Zu h j) (p.at ((j+1:Nat):Int))else Zu h j
def XU(f t:Ly)(h:Hp)(p:Pts)(k i:Nat):Nat->List Int:=λj=>if j=k then((p.at ((k+1:Nat):Int)).take i).foldl (Xu f t<|Zu h k) (Zu h k)else TF f t h p k j
def Gt{f t:Ly}{h:Hp}{p:Pts}{k:Nat}(a:k<4)(j:Nat):XU f t h p k 0 j=TF f t h p k j:=by
 unfold XU TF;by_cases e:j=k;subst e;rw[Z6k rfl,Z6h Z0,Z6h Z0];rfl;rw[Z6h e]
def Gu{f t:Ly}{h:Hp}{p:Pts}{k:Nat}(g:k<4)(j:Nat):XU f t h p k (I<|p.at ((k+1:Nat):Int)) j=TF f t h p (k+1) j:=by
 unfold XU TF;by_cases e:j=k;subst e;rw[Z6k rfl,Z6h Z0,Z6k Z0,Z7P];rfl;rw[Z6h e];by_cases a:j=4;rw[Z6k a,Z6k a];rw[Z6h a,Z6h a];by_cases d:j<k;rw[Z6k d,Z6k Z0];rw[Z6h d,Z6h Z0]
def zp{f t:Ly}{h:Hp}{p:Pts}{k i:Nat}{o:Ob}(a:(p.at ((k+1:Nat):Int))[i]?=J o){ws:Z5}(d:ws=Xu f t (Zu h k) (XU f t h p k i k) o)(j:Nat):XU f t h p k (i+1) j=if j=k then ws else XU f t h p k i j:=by
 by_cases e:j=k;subst e;rw[Z6k rfl,d];unfold XU;rw[Z6k rfl,Z6k rfl,Z7k,a,Option.toList_some,List.foldl_append];rfl;rw[Z6h e];unfold XU;rw[Z6h e,Z6h e]
def Gv{f t:Ly}{h:Hp}(a:h.ok){p:Pts}{k i:Nat}(g:k<4):(∀v∈XU f t h p k i k,Zy v)/\I (XU f t h p k i k)<=1000000:=by
 unfold XU;rw[Z6k rfl];have d:(∀v∈Zu h k,Zy v)/\I (Zu h k)<=1000000:=by
  have:k=0\/k=1\/k=2\/k=3:=Z0;obtain rfl|rfl|rfl|rfl:=this;exact X0 a 1;exact X0 a 2;exact X0 a 3;exact X0 a 4
 exact⟨Je d.1,by rw[CL];exact d.2⟩
def GD(w:Z4)(G:Z6)(hG:∀b,G b->b<xz (xj w))(h:Hp)(hh:h.ok)(l:Z3)(hs:∀j,j<5->Rd w G (.sl<|(Zu h j).map vu) (l j))(base d:Int)(l2:¬base=0)(m1:¬d<0)(m2:¬4096<d)(m3:¬d<h.cap)(e5:¬9223372036854775808-2*d<base)
  {p:Pts} (r:Rt h p) {f t:Ly} (hf:f=Zv h) (ht:t=Zv {h with V:=base,cap:=d}) (e7:t.ah) (k4:∀v∈h.E,(Yg f t v).2=0) (k1:YM f t h.E h.E 0 (I h.E)=h.E.map λw=>(Yg f t w).1)
  (k3:∀k,k<4->∀(i:Nat) (o:Ob),(p.at ((k+1:Nat):Int))[i]?=J o->∀out,out=((p.at ((k+1:Nat):Int)).take i).foldl (Xu f t<|Zu h k) (Zu h k)->∃a s m:Nat,o.Y=a/\o.size=s/\o.Z=m/\a+(s+1)<=I (Zu h k)/\s<=255/\m<=s/\
   (o.gone=xk->YM f t out out a 1=Xu f t (Zu h k) out o/\∀x,out[a]?=J x->(Yg f t x).2=0)/\(o.gone=xw->YM f t out out (a+1) m=Xu f t (Zu h k) out o/\∀j,j<m->∀x,out[a+1+j]?=J x->(Yg f t x).2=0)):
  Calls Tryz.prog 7 #[Zx h l,.int .u64 base,.int .i64 d] w (TG w (X4 h p base d,0)):=by
 have w1:=ZO d Z0 Z0;have w2:=ZO (2*d) Z0 Z0;have w3:=ZO (9223372036854775808-2*d) Z0 Z0;have hR:∀W,Below (xz<|xj w) w W->Calls Tryz.prog 17 #[Zx h l] W λe w'=>e=.returned (.bool xk)/\Below (xz<|xj W) W w':=λW hb=>by
  have:=LI (w:=W) (G:=G) (x:=l) hh (λb z=>Z6o (hG b z) hb.size) (λj H=>(hs j H).keep (λb z=>hb.block b<|hG b z) λ_ q=>q);rw[r.right]at this;exact this
 have hO:∀W,Below (xz<|xj w) w W->Calls Tryz.prog 18 #[Zx h l] W (Am W h):=λW hb=>
  TH W G (λb z=>Z6o (hG b z) hb.size) h hh l (λj H=>(hs j H).keep (λb z=>hb.block b<|hG b z) λ_ q=>q)
 have HR:=Z6e hR;have HO:=Z6e hO;have HS:=Z6e hs;have HH:=Z6e hh;have i5:=Z6e r;have HB:=Z6e k3;have HF:=Z6e hf;have HT:=Z6e ht;have HZ:=Z6e k4;have HM:=Z6e k1;have e0:(base==0)=xw:=by simpa using l2
 have e1:(d<0)=False:=Z7d m1;have e2:(4096<d)=False:=Z7d m2;have e3:(d<h.cap)=False:=Z7d m3;have e4:(9223372036854775808-2*d<base)=False:=Z7d e5;clear hR hO hs hh r k3 hf ht k4 k1;unfold Zx;go_enter Tryz.func7,Tryz.ntmps7
 go_upto_region 9 with (first
  | (go_at_call 17;refine(HR.out _ ?_).mono ?_;rotate_left;rintro e wa ⟨rfl,d9⟩
     have bA:wa.heap[xz<|xj w]?=J (.cells #[.int .u64 h.V,.int .i64 h.cap,.int .i64 h.to,.bool h.M,.int .i64 h.O,l 0,l 1,l 2,l 3,l 4] 31 (0,0)):=(d9.block _ Z5j).trans<|(Z6m _ _ _ Z1).trans<|Z6u w _;have bZ:wa.heap[xz (xj w)+1]?=J (.cells ZE 31 (0,0)):=(d9.block _ Z1).trans<|Sk w _;have ya:∀j,wa.cell? ⟨xz<|xj w,j,U⟩=(#[.int .u64 h.V,.int .i64 h.cap,.int .i64 h.to,.bool h.M,.int .i64 h.O,l 0,l 1,l 2,l 3,l 4]:Array Value)[j]? :=λj=>Z6j _ _ _ _ _ _ bA;have f0:=Z6e d9;have i4:=Z6e<|And.intro bA bZ;clear d9 bA bZ)
  | (go_at_call 18;refine(HO.out _ ?_).mono ?_;rotate_left;rintro e S ⟨x,rfl,e5,B⟩
     have b7:=Z6e e5;have d6:=Z6e B;obtain⟨a0,q0,E0⟩:=ZV<|B.own 0 Z0;obtain⟨a1,q1,E1⟩:=ZV<|B.own 1 Z0;obtain⟨a2,q2,E2⟩:=ZV<|B.own 2 Z0;obtain⟨a3,q3,E3⟩:=ZV<|B.own 3 Z0;obtain⟨a4,q4,E4⟩:=ZV<|B.own 4 Z0;unfold Zx;rw[E0,E1,E2,E3,E4];have A:=Z6e<|And.intro E0<|And.intro E1<|And.intro E2<|And.intro E3 E4;clear e5 B E0 E1 E2 E3 E4))
 case refine_1=>exact(Z90 (((Z6r _ w).alloc (Z6i _) _).alloc Z1 _)<|f0.out.mono Z5j)
 case refine_1=>exact((Z6r _ w).alloc (Z6i _) _).alloc Z1 _
 have j5:Below (xz<|xj w) w wa:=Z90 (((Z6r _ w).alloc (Z6i _) _).alloc Z1 _)<|f0.out.mono Z5j;have o3:xz (xj w)+2<=xz (xj wa):=by have:=f0.out.size;simp at this;omega
 have o4:xz (xj wa)<=xz (xj S):=b7.out.size;have f8:Below (xz<|xj w) w S:=j5.trans<|b7.out.mono Z0;have bH:S.heap[xz<|xj w]?=J (.cells #[.int .u64 h.V,.int .i64 h.cap,.int .i64 h.to,.bool h.M,.int .i64 h.O,l 0,l 1,l 2,l 3,l 4] 31 (0,0)):=(b7.out.block _ Z0).trans i4.out.1;have bR:S.heap[xz (xj w)+1]?=J (.cells ZE 31 (0,0)):=(b7.out.block _ Z0).trans i4.out.2;obtain⟨WQ,K⟩:∃W,W=S.alloc (.cells #[.int .u64 base,.int .i64 d,.int .i64 h.to,.bool h.M,.int .i64 h.O,.slice a0 (I<|Zu h 0) q0,.slice a1 (I<|Zu h 1) q1,.slice a2 (I<|Zu h 2) q2,.slice a3 (I<|Zu h 3) q3,.slice a4 (I<|Zu h 4) q4] 31):=⟨_,rfl⟩;rw[<-K];have hq:Below (xz<|xj S) S WQ:=by rw[K];exact(Z6r _ _).alloc (Z6i _) _
 have o2:xz (xj WQ)=xz (xj S)+1:=by rw[K];simp
 have bN:WQ.heap[xz<|xj S]?=J (.cells #[.int .u64 base,.int .i64 d,.int .i64 h.to,.bool h.M,.int .i64 h.O,x 0,x 1,x 2,x 3,x 4] 31 (0,0)):=by
  rw[K,A.out.1,A.out.2.1,A.out.2.2.1,A.out.2.2.2.1,A.out.2.2.2.2];exact Z6u S _
 have b4:Below (xz<|xj w) w WQ:=f8.trans<|hq.mono Z0;have f5:=(hq.block _ Z0).trans bH;have i6:=(hq.block _ Z0).trans bR;have i8:∀W,Below (xz<|xj WQ) WQ W->Calls Tryz.prog 19 #[Zx h l] W λe w'=>e=.returned (Wb f)/\Below (xz<|xj W) W w':=λW hb=>by
  have:=Rq (w:=W) (G:=G) (h:=h) (x:=l) (λb z=>Z6o (hG b z)<|Z6H b4.size hb.size) (λj H=>(HS.out j H).keep (λb z=>(hb.block b<|Z6o (hG b z) b4.size).trans<|b4.block b<|hG b z) λ_ q=>q);rw[<-HF.out]at this;exact this
 have f7:∀W,Below (xz<|xj WQ) WQ W->Calls Tryz.prog 19 #[.agg #[.int .u64 base,.int .i64 d,.int .i64 h.to,.bool h.M,.int .i64 h.O,x 0,x 1,x 2,x 3,x 4]] W λe w'=>e=.returned (Wb t)/\Below (xz<|xj W) W w':=λW hb=>by
  have:=Rq (w:=W) (G:=λb=>b<xz (xj W)) (h:= {h with V:=base,cap:=d}) (x:=x) (λb z=>z) (λj H=>(U1 (d6.out.own j H) (G:=λb=>b<xz (xj S))<|λc _ h=>h).keep (λb z=>(hb.block b Z0).trans<|hq.block b z) λb q=>by have:=hb.size;omega);rw[<-HT.out]at this;exact this
 rw[A.out.1,A.out.2.1,A.out.2.2.1,A.out.2.2.2.1,A.out.2.2.2.2]at f7;have yb:∀j,WQ.cell? ⟨xz<|xj w,j,U⟩=(#[.int .u64 h.V,.int .i64 h.cap,.int .i64 h.to,.bool h.M,.int .i64 h.O,l 0,l 1,l 2,l 3,l 4]:Array Value)[j]? :=λj=>Z6j _ _ _ _ _ _ f5;have yn:∀j,WQ.cell? ⟨xz<|xj S,j,U⟩=(#[.int .u64 base,.int .i64 d,.int .i64 h.to,.bool h.M,.int .i64 h.O,.slice a0 (I<|Zu h 0) q0,.slice a1 (I<|Zu h 1) q1,.slice a2 (I<|Zu h 2) q2,.slice a3 (I<|Zu h 3) q3,.slice a4 (I<|Zu h 4) q4]:Array Value)[j]? :=λj=>by
  rw[Z6j _ _ _ _ _ _ bN,A.out.1,A.out.2.1,A.out.2.2.1,A.out.2.2.2.1,A.out.2.2.2.2]
 have i2:=Z6e i8;have i3:=Z6e f7;have HX:=Z6e<|And.intro K<|And.intro bN<|And.intro f5<|And.intro i6<|And.intro f8<|And.intro b4 hq;clear i8 f7 j5 f8 bH bR bN b4 f5 i6 K hq;refine s7 54 55 56 57 9 10 (RegC WQ (Zx h l) (.agg #[.int .u64 base,.int .i64 d,.int .i64 h.to,.bool h.M,.int .i64 h.O,.slice a0 (I<|Zu h 0) q0,.slice a1 (I<|Zu h 1) q1,.slice a2 (I<|Zu h 2) q2,.slice a3 (I<|Zu h 3) q3,.slice a4 (I<|Zu h 4) q4]) f t 52) follows Z2 ⟨xy,xy,xy,xy,xy,xy,by rfl,?_⟩ ?_ ?_;exact⟨(Z6r _ _).drew,λh=>Z5u,λh=>Z5u,λh=>Z5u,λh=>Z5u,λh=>Z5u,λh=>Z5u,λh=>Z5u,λh=>Z5u,λh=>Z5u⟩
 .intro L i o v1 v2 v3 v4 v5 v6 W ho hi H C;have M:=Z6e C;have hz:xz (xj WQ)<=xz (xj W):=C.b.size;have zb:∀j,W.cell? ⟨xz<|xj w,j,U⟩=(#[.int .u64 h.V,.int .i64 h.cap,.int .i64 h.to,.bool h.M,.int .i64 h.O,l 0,l 1,l 2,l 3,l 4]:Array Value)[j]? :=λj=>(C.b.cell (p:=⟨xz<|xj w,j,U⟩) (by show xz (xj w)<xz (xj WQ);omega)).trans<|yb j;have zn:∀j,W.cell? ⟨xz<|xj S,j,U⟩=(#[.int .u64 base,.int .i64 d,.int .i64 h.to,.bool h.M,.int .i64 h.O,.slice a0 (I<|Zu h 0) q0,.slice a1 (I<|Zu h 1) q1,.slice a2 (I<|Zu h 2) q2,.slice a3 (I<|Zu h 3) q3,.slice a4 (I<|Zu h 4) q4]:Array Value)[j]? :=λj=>(C.b.cell (p:=⟨xz<|xj S,j,U⟩) (by show xz (xj S)<xz (xj WQ);omega)).trans<|yn j;clear C;have h8:i<8:=(Z6N.1 ho).1;simp only[R0,T6,Z7C,Z8y,Z7A,Z87,Z7U];have:i=0\/i=1\/i=2\/i=3\/i=4\/i=5\/i=6\/i=7:=Z0;obtain rfl|rfl|rfl|rfl|rfl|rfl|rfl|rfl:=this
  .cases ho;go_wp2;simp only[QN];exact⟨_,v2,v3,v4,v5,v6,rfl,M.out.su⟩
  .cases ho;have e1:=M.out.s0<|H 0 Z5q;subst e1;unfold Zx;go_wp2_with (go_at_call 19;refine(i2.out _ M.out.b).mono ?_;rintro e wl ⟨rfl,b5⟩;have f1:=Z6e b5;unfold Wb;clear b5)
   simp only[QN];exact⟨_,_,v3,v4,v5,v6,rfl,M.out.sw f1.out⟩
  .cases ho;go_wp2;simp only[QN];exact⟨v1,v2,_,v4,v5,v6,rfl,M.out.td⟩
  .cases ho;have e1:=M.out.s2<|H 2 Z5q;subst e1;unfold Zx;go_wp2_with (go_at_call 19;refine(i3.out _ M.out.b).mono ?_;rintro e wl ⟨rfl,b5⟩;have f1:=Z6e b5;unfold Wb;clear b5)
   simp only[QN];exact⟨v1,v2,_,_,v5,v6,rfl,M.out.te f1.out⟩
  .have h6:L 6=xw:=by
    cases h:L 6 with
    |false=>rfl
    |true=>have:=M.out.c6 h;rw[hi]at this;cases this
   cases ho;go_wp2;simp only[QN];exact⟨v1,v2,v3,v4,_,v6,rfl,M.out.tf h6⟩
  .have h6:L 7=xw:=by
    cases h:L 7 with
    |false=>rfl
    |true=>have:=M.out.c7 h;rw[hi]at this;cases this
   cases ho;go_wp2;simp only[QN];exact⟨v1,v2,v3,v4,v5,_,rfl,M.out.tg h6⟩
  .cases ho;have e1:=M.out.s1<|H 1 Z5q;have h4:=H 4 Z5q;obtain⟨c,e4,l3,D⟩:=M.out.s4 h4;rw[hi]at D;subst e1 e4;have D:W.heap[c]?=J (.cells Z7 52 (0,0)):=D;have y4:∀j,W.cell? ⟨c,j,U⟩=Z7[j]? :=λj=>Z6j _ _ _ _ _ _ D;unfold Z7 at y4;have y5:∀j,W.frozen? ⟨c,j,U⟩=xw:=λj=>Y7 D;clear D;unfold Wb;go_wp2;simp only[QN];exact⟨v1,_,v3,v4,_,v6,rfl,M.out.th h4 hi rfl⟩
  .cases ho;have e1:=M.out.s3<|H 3 Z5q;have h4:=H 5 Z5q;obtain⟨c,e4,l3,D⟩:=M.out.s5 h4;rw[hi]at D;subst e1 e4;have D:W.heap[c]?=J (.cells Z7 52 (0,0)):=D;have y4:∀j,W.cell? ⟨c,j,U⟩=Z7[j]? :=λj=>Z6j _ _ _ _ _ _ D;unfold Z7 at y4;have y5:∀j,W.frozen? ⟨c,j,U⟩=xw:=λj=>Y7 D;clear D;unfold Wb;go_wp2;simp only[QN];exact⟨v1,v2,v3,_,v5,_,rfl,M.out.ti h4 hi rfl⟩
 .intro L v1 v2 v3 v4 v5 v6 W hL C;simp only[R0,T6,Z7C,Z8y,Z7A,Z87,Z7U];have h4:=C.s4<|hL 4 Z5q;have h5:=C.s5<|hL 5 Z5q;have i7:=C.ne (hL 4 Z5q)<|hL 5 Z5q;rw[Z6k<|hL 6 Z5q]at h4;rw[Z6k<|hL 7 Z5q]at h5;obtain⟨b9,rfl,n6,g0⟩:=h4;obtain⟨d7,rfl,m7,b6⟩:=h5;have o0:b9≠d7:=λe=>i7 (by rw[e]);have K:=C.b;clear C hL i7;go_upto_region 12 with fail;have g8:MvI (xz<|xj w) w (W.alloc<|.cells #[.int .i64 0] 35) (xz<|xj w) (xz (xj w)+1) (xz<|xj S) b9 d7 (xz<|xj W) f t h l x base d<|Zu h:=by
   obtain⟨-,g2,g3,g4,g5,g6,g7⟩:=HX.out;have l9:=g6.size;have m0:=K.size;have hW:=g6.trans<|K.mono l9;have ha:=(Z6r (xz<|xj W) W).alloc (Z6i _)<|.cells #[.int .i64 0] 35;have N:∀c O,WQ.heap[c]?=J O->(W.alloc<|.cells #[.int .i64 0] 35).heap[c]?=J O:=λc O F=>(ha.block c<|Z6o (ZL F) m0).trans<|(K.block c<|ZL F).trans F;refine⟨hW.alloc Z0 _,⟨Z6i _,Z0,Z0,Z0,Z0,Z0⟩,N _ _ g3,N _ _ g4,N _ _ g2,(ha.block _<|ZL g0).trans g0,(ha.block _<|ZL b6).trans b6,Z6u W _,λj H=>rfl,λj H=> ?_,d6.out.apart,λj H c F=> ?_⟩;have ho:=d6.out.own j H;exact Yx (SR ho Z0) λc F=>by
    have:=(ho.lt c F).2;rw[ha.block c Z0,K.block c Z0,g7.block c this]
   have:=(d6.out.own j H).lt c F;omega
  have f3:=Z6e g8;have e9:(W.alloc<|.cells #[.int .i64 0] 35).cell? ⟨xz<|xj S,9,U⟩=J (.slice a4 (I<|Zu h 4) q4):=by
   rw[Z6j _ _ _ _ _ _ g8.nb,<-A.out.2.2.2.2];rfl
  obtain⟨W1,j2⟩:∃W1,W1=W.alloc (.cells #[.int .i64 0] 35):=⟨_,rfl⟩;rw[<-j2]at f3 e9⊢;clear g8 j2 HX K g0 b6 i2 i3;have e6:f.ah:=by rw[HF.out];exact HH.out.al
  have f9:=f3.out.ms e6 e7 (k:=4) Z0 HH.out.cg (by have:=HH.out.E;exact this) HZ.out;rw[A.out.2.2.2.2]at f9;have i0:=Z6e f9;clear f9;go_upto_region 13 with (go_at_call 20;refine i0.out.mono ?_;rintro e w6 ⟨rfl,g9⟩);have k9:=Z6e g9;have h7:=g9.nb;rw[A.out.1,A.out.2.1,A.out.2.2.1,A.out.2.2.2.1,A.out.2.2.2.2]at h7;have y6:∀j,w6.cell? ⟨xz<|xj S,j,U⟩=(#[.int .u64 base,.int .i64 d,.int .i64 h.to,.bool h.M,.int .i64 h.O,.slice a0 (I<|Zu h 0) q0,.slice a1 (I<|Zu h 1) q1,.slice a2 (I<|Zu h 2) q2,.slice a3 (I<|Zu h 3) q3,.slice a4 (I<|Zu h 4) q4]:Array Value)[j]? :=λj=>Z6j _ _ _ _ _ _ h7;clear g9 h7;clear f3 i0 e9;go_wp2_with fail
  have j1:∀k:Nat,k<4->∀P,P=(#[.int .i64 1,.slice a0 (I<|Zu h 0) q0,.int .i64 2,.slice a1 (I<|Zu h 1) q1,.int .i64 3,.slice a2 (I<|Zu h 2) q2,.int .i64 4,.slice a3 (I<|Zu h 3) q3]:Array Value)->
    ∀W,(Instr.index 66 (.agg P)<|.int .i64 (k:Int)).run Tryz.prog W=.ok (.agg #[.int .i64 ((k+1:Nat):Int),x k]) W:=by
   intro k hk P e W;rw[e];have hT:Tryz.prog.underlying 66=J (.array 4 65):=Z2;have:k=0\/k=1\/k=2\/k=3:=Z0;obtain rfl|rfl|rfl|rfl:=this;rw[A.out.1];simp[Instr.index,asIntOf,Z6M hT,part];rw[A.out.2.1];simp[Instr.index,asIntOf,Z6M hT,part];rw[A.out.2.2.1];simp[Instr.index,asIntOf,Z6M hT,part];rw[A.out.2.2.2.1];simp[Instr.index,asIntOf,Z6M hT,part]
  obtain⟨P,hP⟩:∃P,P=(#[.int .i64 1,.slice a0 (I<|Zu h 0) q0,.int .i64 2,.slice a1 (I<|Zu h 1) q1,.int .i64 3,.slice a2 (I<|Zu h 2) q2,.int .i64 4,.slice a3 (I<|Zu h 3) q3]:Array Value):=⟨_,rfl⟩;rw[<-hP];have HP:=Z6e λk hk=>j1 k hk P hP;clear j1 hP y6;go_loopw [77] (λkv wr=>∃k:Nat,kv=.int .i64 k/\k<=4/\Hid (MvI (xz<|xj w) w wr (xz<|xj w) (xz (xj w)+1) (xz<|xj S) b9 d7 (xz<|xj W) f t h l x base d<|TF f t h p k)) (λkv _=>4- (intOf kv).toNat)
  case atStart=>
   refine⟨0,rfl,Z0,Z6e<|(k9.out.keep<|(Z6r _ w6).alloc (Z6i _) _).congr λj H=> ?_⟩;unfold TF;by_cases h4:j=4;rw[Z6k h4,Z6k h4];rfl;rw[Z6h h4,Z6h h4,Z6h Z0]
  case round=>
   obtain⟨k,rfl,hk,HI⟩:=hrel;by_cases b1:k<4
   .have m9:((k:Int)<4)=True:=Z7G Z0;have g1:=HP.out k b1 wr;obtain⟨ak,X,T⟩:=ZV<|HI.out.own k Z0;rw[HI.out.len k Z0]at T;rw[T]at g1;obtain⟨N,a6⟩:∃n:Nat,k+1=n:=⟨_,rfl⟩;rw[a6]at g1;go_upto_region 17 with fail;have b3:=Z6e ((HI.out.keep<|(Z6r _ wr).alloc (Z6i _)<|.cells #[.int .i64 (N:Int),.slice ak (I<|Zu h k) X] 65).congr λj _=>Gt b1 j);have d8:=Z6u wr<|.cells #[.int .i64 (N:Int),.slice ak (I<|Zu h k) X] 65;have n0:∀c,(x k).ownBlock=J c->c<xz (xj wr):=λc F=>((HI.out.own k Z0).lt c F).2;have m4:xz (xj<|wr.alloc<|.cells #[.int .i64 (N:Int),.slice ak (I<|Zu h k) X] 65)=xz (xj wr)+1:=Z1;obtain⟨W8,j4⟩:∃W8,W8=wr.alloc (.cells #[.int .i64 (N:Int),.slice ak (I<|Zu h k) X] 65):=⟨_,rfl⟩;rw[<-j4]at b3 d8 m4⊢;clear j4 g1;have j6:Calls Tryz.prog 21 #[Zx h l,.int .i64 (N:Int)] W8 λe w'=>∃v,e=.returned (.tuple #[v,.int .i64 0])/\Below (xz<|xj W8) W8 w'/\zt w' (p.at (N:Int)) v (λb=>G b\/xz (xj W8)<=b):=by
     have:=Ou (w:=W8) (G:=G) (x:=l) HH.out i5.out k b1 (λb z=>Z6o (hG b z) b3.out.below.size)<|b3.out.rd hG HS.out;rw[a6]at this;exact this
    have i1:=Z6e j6;have m5:∀j,W8.cell? ⟨xz<|xj w,j,U⟩=(#[.int .u64 h.V,.int .i64 h.cap,.int .i64 h.to,.bool h.M,.int .i64 h.O,l 0,l 1,l 2,l 3,l 4]:Array Value)[j]? :=λj=>Z6j _ _ _ _ _ _ b3.out.hb;have m6:∀j,W8.cell? ⟨xz<|xj wr,j,U⟩=(#[.int .i64 (N:Int),.slice ak (I<|Zu h k) X]:Array Value)[j]? :=λj=>Z6j _ _ _ _ _ _ d8;have h9:=Z6e d8;clear j6 d8;go_upto_region 18 with (go_at_call 21;refine i1.out.mono ?_;rintro e w9 ⟨vo,rfl,a7,a9⟩);obtain⟨ao,co,rfl,a9⟩:=a9;have n3:=Z6e a7;have k8:=Z6e<|b3.out.keep a7;have e8:=Z6e<|(a7.block _<|ZL h9.out).trans h9.out;have l0:=Z6e a9;clear a7 a9 i1 m5 m6;go_wp2_with fail
    generalize wr=w3 at*;go_loopw [93] (λiv wi=>∃i:Nat,iv=.int .i64 i/\i<=I (p.at (N:Int))/\Hid (w9.grownBy wi (x k).ownBlock/\MvI (xz<|xj w) w wi (xz<|xj w) (xz (xj w)+1) (xz<|xj S) b9 d7 (xz<|xj W) f t h l x base d (XU f t h p k i))) (λiv _=>I (p.at (N:Int))- (intOf iv).toNat)
    case atStart=>exact⟨0,rfl,Z0,Z6e ⟨WF (Z6r _ _) _,k8.out⟩⟩
    case round=>
     obtain⟨i,rfl,hi,HK⟩:=hrel;by_cases j9:i< I (p.at (N:Int))
     .have k0:((i:Int)< (I (p.at (N:Int)):Int))=True:=Z7G Z0;obtain⟨o,hx⟩:∃o,(p.at (N:Int))[i]?=J o:=⟨_,Z6b j9⟩;obtain⟨a,s,m,ea,es,em,n5,hs,hm,j7,k2⟩:=HB.out k b1 i o (by rw[a6];exact hx) _ rfl;obtain⟨g,og,rfl,l1,j8,a8⟩:=l0.out Z0;have B:∀c,(x k).ownBlock=J c->xz (xj w)<=c/\c<xz (xj w3):=λc F=>(HI.out.own k Z0).lt c F
      have b0:wr.heap[g]?=w9.heap[g]? :=HK.out.1.block g j8 (λe=>by
       have h1:=B g e.symm;obtain h2|h2:=l1;have:=hG g h2;omega;omega)
      have f6:wr.heap[xz<|xj w3]?=J (.cells #[.int .i64 (N:Int),.slice ak (I<|Zu h k) X] 65 (0,0)):=(HK.out.1.block _ (ZL e8.out) (λe=>by have h1:=B _ e.symm;omega)).trans e8.out;have k5:∀j,wr.cell? ⟨xz<|xj w3,j,U⟩=(#[.int .i64 (N:Int),.slice ak (I<|Zu h k) X]:Array Value)[j]? :=λj=>Z6j _ _ _ _ _ _ f6;obtain⟨c0,c1,c2,c3,c4⟩:=a8 i o hx;have d0:wr.cell? ⟨g,og+i*5,U⟩=J (.int .i64 a):=by rw[Z75 b0,c0,ea]
      have d1:wr.cell? ⟨g,og+i*5+1,U⟩=J (.int .i64 s):=by rw[Z75 b0,c1,es]
      have d2:wr.cell? ⟨g,og+i*5+2,U⟩=J (.int .i64 m):=by rw[Z75 b0,c2,em]
      have d3:wr.cell? ⟨g,og+i*5+3,U⟩=J (.bool o.gone):=by rw[Z75 b0,c3]
      have d4:wr.cell? ⟨g,og+i*5+4,U⟩=J (.int .u64 o.target):=by rw[Z75 b0,c4]
      have l7:I (Zu h k)<=1000000:=VY HH.out k;have n7:g<xz (xj wr):=Z6o j8 HK.out.1.size;have l4:xz (xj w3)<xz (xj wr):=ZL f6;clear c0 c1 c2 c3 c4 a8 b0 f6;go_upto_region 23 with fail;have d5:=Z6e<|HK.out.2.keep<|(Z6r _ wr).alloc (Z6i _)<|.cells #[.int .i64 (a:Int),.int .i64 (s:Int),.int .i64 (m:Int),.bool o.gone,.int .u64 o.target] 71;have b8:=Z6e<|WS HK.out.1<|WF ((Z6r _ wr).alloc (Z6i _)<|.cells #[.int .i64 (a:Int),.int .i64 (s:Int),.int .i64 (m:Int),.bool o.gone,.int .u64 o.target] 71) _;have f4:=Z6u wr<|.cells #[.int .i64 (a:Int),.int .i64 (s:Int),.int .i64 (m:Int),.bool o.gone,.int .u64 o.target] 71;have k6:∀j,(wr.alloc<|.cells #[.int .i64 (a:Int),.int .i64 (s:Int),.int .i64 (m:Int),.bool o.gone,.int .u64 o.target] 71).cell? ⟨xz<|xj w3,j,U⟩=(#[.int .i64 (N:Int),.slice ak (I<|Zu h k) X]:Array Value)[j]? :=λj=>(Z7c _ _ _ l4).trans<|k5 j;clear d0 d1 d2 d3 d4 k5;obtain⟨W4,j3⟩:∃u,u=wr.alloc (.cells #[.int .i64 (a:Int),.int .i64 (s:Int),.int .i64 (m:Int),.bool o.gone,.int .u64 o.target] 71):=⟨_,rfl⟩;rw[<-j3]at d5 b8 f4 k6⊢;have k7:∀j,W4.cell? ⟨xz<|xj wr,j,U⟩=(#[.int .i64 (a:Int),.int .i64 (s:Int),.int .i64 (m:Int),.bool o.gone,.int .u64 o.target]:Array Value)[j]? :=λj=>Z6j _ _ _ _ _ _ f4;clear j3 f4;obtain⟨gk,rfl,m8⟩:∃gk,ak=J ⟨gk,0,U⟩/\I (Zu h k)<=X:=by
       have ho:=HK.out.2.own k Z0;have n8:=HK.out.2.len k Z0;obtain⟨hv,h0⟩|⟨gg,cap,n4,hv,_,_,F,_⟩:=ho.2;omega;rw[T]at hv;simp only[Value.slice.injEq]at hv;obtain⟨r1,r2,r3⟩:=hv;exact⟨gg,r1,Z0⟩
      obtain⟨R,h3⟩:∃n:Nat,a+1=n:=⟨_,rfl⟩;obtain⟨n2,n9⟩:∃n:Nat,R+m=n:=⟨_,rfl⟩;have v1:IntKind.i64.wrap ((a:Int)+1)=(R:Int):=Z5r;have v2:IntKind.i64.wrap ((R:Int)+m)=(n2:Int):=Z5r;have o1:I (p.at (N:Int))<=1000000:=by
       have po:=OY HH.out i5.out.eh;have:=po.len (N:Int);have:=(X0 HH.out (N:Int)).2;omega
      have v3:=ZA ((i:Int)+1) Z0 Z0;have hU:=Gv (f:=f) (t:=t) HH.out (p:=p) (i:=i) b1;have j0:I (Zu h k)=I (XU f t h p k i k):=(HK.out.2.len k Z0).symm;have i9:XU f t h p k i k=((p.at ((k+1:Nat):Int)).take i).foldl (Xu f t<|Zu h k) (Zu h k):=by unfold XU;rw[Z6k rfl]
      rw[<-i9]at j7 k2;have f2:=Z6e j0;clear j0 i9;cases hg:o.gone with
      |true=>
       obtain⟨b2,hz⟩:=j7 hg;rw[hg]at k7;have Q:YM f t (XU f t h p k i k) (XU f t h p k i k) a (R-a)=Xu f t (Zu h k) (XU f t h p k i k) o:=by rw[show R-a=1 by omega];exact b2
       have F:=d5.out.ii e6 e7 (k:=k) Z0 hU.1 hU.2 f2.out T (lo:=a) (mm:=R-a) Z0 (λj H v hv=>hz v (by have e:j=0:=Z0;subst e;exact hv)) (λ_=>rfl);rw[Q]at F;have M:=Z6e F;have q1:¬X=a:=Z0;have q2:a<=X:=Z0;have q3:R<=X:=Z0;have q4:a<=R:=Z0;clear F b2 Q;go_wp2_with (go_at_call 20;refine M.out.mono ?_;rintro e w5 ⟨rfl,a5,Z⟩;have Y:=Z6e<|And.intro a5 Z;clear a5 Z)
       go_roundw
       case rel=>exact⟨i+1,by go_num,Z0,Z6e ⟨WS b8.out (by rw[T];exact Y.out.2),Y.out.1.congr λj _=>zp (by rw[a6];exact hx) rfl j⟩⟩
       case measure=>simp[intOf];omega
      |false=>
       obtain⟨b2,hz⟩:=k2 hg;rw[hg]at k7;have Q:YM f t (XU f t h p k i k) (XU f t h p k i k) R (n2-R)=Xu f t (Zu h k) (XU f t h p k i k) o:=by rw[show n2-R=m by omega,<-h3];exact b2
       by_cases q1:X=R
       .have F:=d5.out.ii e6 e7 (k:=k) Z0 hU.1 hU.2 f2.out T (lo:=R) (mm:=n2-R) Z0 (λj H v hv=>hz j Z0 v (by rw[h3];exact hv)) (a:=J ⟨gk,0,U⟩) (λh0=>Z0);rw[Q]at F;have M:=Z6e F;have q2:R<=X:=Z0;have q3:n2<=X:=Z0;have q4:R<=n2:=Z0;have q5:(X=R)=True:=Z7G q1;clear F b2 Q q1;go_wp2_with (go_at_call 20;refine M.out.mono ?_;rintro e w5 ⟨rfl,a5,Z⟩;have Y:=Z6e<|And.intro a5 Z;clear a5 Z)
        go_roundw
        case rel=>exact⟨i+1,by go_num,Z0,Z6e ⟨WS b8.out (by rw[T];exact Y.out.2),Y.out.1.congr λj _=>zp (by rw[a6];exact hx) rfl j⟩⟩
        case measure=>simp[intOf];omega
       .have F:=d5.out.ii e6 e7 (k:=k) Z0 hU.1 hU.2 f2.out T (lo:=R) (mm:=n2-R) Z0 (λj H v hv=>hz j Z0 v (by rw[h3];exact hv)) (a:=J ⟨gk,R,U⟩) (λh0=>rfl);rw[Q]at F;have M:=Z6e F;have q2:R<=X:=Z0;have q3:n2<=X:=Z0;have q4:R<=n2:=Z0;clear F b2 Q;go_wp2_with (go_at_call 20;refine M.out.mono ?_;rintro e w5 ⟨rfl,a5,Z⟩;have Y:=Z6e<|And.intro a5 Z;clear a5 Z)
        go_roundw
        case rel=>exact⟨i+1,by go_num,Z0,Z6e ⟨WS b8.out (by rw[T];exact Y.out.2),Y.out.1.congr λj _=>zp (by rw[a6];exact hx) rfl j⟩⟩
        case measure=>simp[intOf];omega
     .have l5:i=I (p.at (N:Int)):=Z0;have k0:((i:Int)< (I (p.at (N:Int)):Int))=False:=Z7d Z0;clear j9;go_wp2;go_roundw
      case rel=>exact⟨k+1,by go_num,Z0,Z6e (HK.out.2.congr λj _=>by rw[l5,<-a6];exact(Gu b1 j).symm)⟩
      case measure=>simp[intOf];omega
   .have l6:k=4:=Z0;subst l6;have nb:=HI.out.nb;rw[A.out.1,A.out.2.1,A.out.2.2.1,A.out.2.2.2.1,A.out.2.2.2.2]at nb;have yn:∀j,wr.cell? ⟨xz<|xj S,j,U⟩=(#[.int .u64 base,.int .i64 d,.int .i64 h.to,.bool h.M,.int .i64 h.O,.slice a0 (I<|Zu h 0) q0,.slice a1 (I<|Zu h 1) q1,.slice a2 (I<|Zu h 2) q2,.slice a3 (I<|Zu h 3) q3,.slice a4 (I<|Zu h 4) q4]:Array Value)[j]? :=λj=>Z6j _ _ _ _ _ _ nb;have yw:wr.cell? ⟨xz<|xj W,0,U⟩=J (.int .i64 0):=by rw[Z6j _ _ _ _ _ _ HI.out.wb];rfl
    have yz:∀j,wr.cell? ⟨xz (xj w)+1,j,U⟩=ZE[j]? :=λj=>Z6j _ _ _ _ _ _ HI.out.rb;unfold ZE at yz;have fz:∀j,wr.frozen? ⟨xz (xj w)+1,j,U⟩=xw:=λj=>Y7 HI.out.rb;clear nb;go_wp2_with fail
    have y:=Xo HI.out.rb (.int .u64 base) (.int .i64 d) (.int .i64 h.to) (.bool h.M) (.int .i64 h.O) (.slice a0 (I<|Zu h 0) q0) (.slice a1 (I<|Zu h 1) q1) (.slice a2 (I<|Zu h 2) q2) (.slice a3 (I<|Zu h 3) q3)<|.slice a4 (I<|Zu h 4) q4;refine Z6x (v:=.tuple #[.agg #[.int .u64 base,.int .i64 d,.int .i64 h.to,.bool h.M,.int .i64 h.O,.slice a0 (I<|Zu h 0) q0,.slice a1 (I<|Zu h 1) q1,.slice a2 (I<|Zu h 2) q2,.slice a3 (I<|Zu h 3) q3,.slice a4 (I<|Zu h 4) q4],.int .i64 0]) ?_ rfl ?_
    .simp[results,Tryz.results7,go_sem,y]
    refine⟨x,?_,XJ HI.out.below Z0,λj H=> ?_⟩;unfold Zx;rw[A.out.1,A.out.2.1,A.out.2.2.1,A.out.2.2.2.1,A.out.2.2.2.2];rfl;have ho:=HI.out.own j H;have l8:Zu (X4 h p base d) j=TF f t h p 4 j:=by
     have:j=0\/j=1\/j=2\/j=3\/j=4:=Z0;obtain rfl|rfl|rfl|rfl|rfl:=this;rw[HF.out,HT.out];rfl;rw[HF.out,HT.out];rfl;rw[HF.out,HT.out];rfl;rw[HF.out,HT.out];rfl;show _=YM f t h.E h.E 0 (I h.E);rw[HM.out,HF.out,HT.out];rfl
    rw[l8];exact U1 (Yx ho λc F=>XK (HI.out.ae j H c F).2.1) λc h1 h2=>⟨h1,h2⟩
def Gw(w:Z4)(G:Z6)(n:∀b,G b->b<xz (xj w))(h:Hp)(o:h.ok)(a:Z3)(k:∀j,j<5->Rd w G (.sl<|(Zu h j).map vu) (a j))(base d:Int)(f:base=0):
  Calls Tryz.prog 7 #[Zx h a,.int .u64 base,.int .i64 d] w (TG w (Hp.zero,1)):=by
 have l:(base==0)=xk:=Z5y;clear k;unfold Zx;go_enter Tryz.func7,Tryz.ntmps7;go_wp2;have g:=λj=>Z6j _ _ j _ _ _<|Sk w<|.cells #[.int .u64 h.V,.int .i64 h.cap,.int .i64 h.to,.bool h.M,.int .i64 h.O,a 0,a 1,a 2,a 3,a 4] 31;unfold ZE at g;refine Z6x (v:=.tuple #[.agg ZE,.int .i64 1]) ?_ rfl ?_
 .simp[results,Tryz.results7,go_sem,g,ZE]
 exact⟨λ_=>.slice U 0 0,rfl,((Z6r _ w).alloc (Z6i _) _).alloc Z1 _,UC _ _⟩
def Gx(w:Z4)(G:Z6)(p:∀b,G b->b<xz (xj w))(h:Hp)(q:h.ok)(a:Z3)(l:∀j,j<5->Rd w G (.sl<|(Zu h j).map vu) (a j))(base d:Int)(f:¬base=0)(g:d<0):
  Calls Tryz.prog 7 #[Zx h a,.int .u64 base,.int .i64 d] w (TG w (Hp.zero,1)):=by
 have n:(base==0)=xw:=Z5y;have o:(d<0)=True:=Z7G g;clear l;unfold Zx;go_enter Tryz.func7,Tryz.ntmps7;go_wp2;have k:=λj=>Z6j _ _ j _ _ _<|Sk w<|.cells #[.int .u64 h.V,.int .i64 h.cap,.int .i64 h.to,.bool h.M,.int .i64 h.O,a 0,a 1,a 2,a 3,a 4] 31;unfold ZE at k;refine Z6x (v:=.tuple #[.agg ZE,.int .i64 1]) ?_ rfl ?_
 .simp[results,Tryz.results7,go_sem,k,ZE]
 exact⟨λ_=>.slice U 0 0,rfl,((Z6r _ w).alloc (Z6i _) _).alloc Z1 _,UC _ _⟩
def Gz(w:Z4)(G:Z6)(r:∀b,G b->b<xz (xj w))(h:Hp)(t:h.ok)(d:Z3)(n:∀j,j<5->Rd w G (.sl<|(Zu h j).map vu) (d j))(base a:Int)(f:¬base=0)(g:¬a<0)(k:4096<a):
  Calls Tryz.prog 7 #[Zx h d,.int .u64 base,.int .i64 a] w (TG w (Hp.zero,1)):=by
 have o:(base==0)=xw:=Z5y;have p:(a<0)=False:=Z7d g;have q:(4096<a)=True:=Z7G k;clear n;unfold Zx;go_enter Tryz.func7,Tryz.ntmps7;go_wp2;have l:=λj=>Z6j _ _ j _ _ _<|Sk w<|.cells #[.int .u64 h.V,.int .i64 h.cap,.int .i64 h.to,.bool h.M,.int .i64 h.O,d 0,d 1,d 2,d 3,d 4] 31;unfold ZE at l;refine Z6x (v:=.tuple #[.agg ZE,.int .i64 1]) ?_ rfl ?_
 .simp[results,Tryz.results7,go_sem,l,ZE]
 exact⟨λ_=>.slice U 0 0,rfl,((Z6r _ w).alloc (Z6i _) _).alloc Z1 _,UC _ _⟩
def GA(w:Z4)(G:Z6)(z:∀b,G b->b<xz (xj w))(h:Hp)(F:h.ok)(a:Z3)(C:∀j,j<5->Rd w G (.sl<|(Zu h j).map vu) (a j))(base d:Int)(r:¬base=0)(t:¬d<0)(u:¬4096<d)(B:Yp h=xw):
  Calls Tryz.prog 7 #[Zx h a,.int .u64 base,.int .i64 d] w (TG w (Hp.zero,1)):=by
 have p:∀W,Below (xz<|xj w) w W->Calls Tryz.prog 17 #[Zx h a] W λe L=>e=.returned (.bool<|Yp h)/\Below (xz<|xj W) W L:=λW A=>
  LI (w:=W) (G:=G) (x:=a) F (λb g=>Z6o (z b g) A.size) (λj H=>(C j H).keep (λb g=>A.block b<|z b g) λ_ q=>q)
 rw[B]at p;have D:=Z6e p;clear p;have N:(base==0)=xw:=by simpa using r
 have O:(d<0)=False:=Z7d t;have P:(4096<d)=False:=Z7d u;clear C B;unfold Zx;go_enter Tryz.func7,Tryz.ntmps7
 go_wp2_with (first
  | (go_at_call 17;refine(D.out _ ?_).mono ?_;rotate_left;rintro e k ⟨rfl,f⟩
     have y:k.heap[xz<|xj w]?=J (.cells #[.int .u64 h.V,.int .i64 h.cap,.int .i64 h.to,.bool h.M,.int .i64 h.O,a 0,a 1,a 2,a 3,a 4] 31 (0,0)):=(f.block _ Z5j).trans<|(Z6m _ _ _ Z1).trans<|Z6u w _;have l:k.heap[xz (xj w)+1]?=J (.cells ZE 31 (0,0)):=(f.block _ Z1).trans<|Sk w _;have Q:∀j,k.cell? ⟨xz<|xj w,j,U⟩=(#[.int .u64 h.V,.int .i64 h.cap,.int .i64 h.to,.bool h.M,.int .i64 h.O,a 0,a 1,a 2,a 3,a 4]:Array Value)[j]? :=λj=>Z6j _ _ _ _ _ _ y;have M:∀j,k.cell? ⟨xz (xj w)+1,j,U⟩=ZE[j]? :=λj=>Z6j _ _ _ _ _ _ l;unfold ZE at M;have fz:∀j,k.frozen? ⟨xz (xj w)+1,j,U⟩=xw:=λj=>Y7 l;have n:=Z6e f;have o:=Z6e l;clear f y l))
 case refine_1=>exact((Z6r _ w).alloc (Z6i _) _).alloc Z1 _
 have K:=Xo o.out (.int .u64 0) (.int .i64 0) (.int .i64 0) (.bool xw) (.int .i64 0) (.slice U 0 0) (.slice U 0 0) (.slice U 0 0) (.slice U 0 0)<|.slice U 0 0;refine Z6x (v:=.tuple #[.agg ZE,.int .i64 1]) ?_ rfl ?_
 .simp[results,Tryz.results7,go_sem,K,ZE]
 exact⟨λ_=>.slice U 0 0,rfl,XJ (Z90 (((Z6r _ w).alloc (Z6i _) _).alloc Z1 _)<|n.out.mono Z5j) Z0,UC _ _⟩
def GB(w:Z4)(G:Z6)(z:∀b,G b->b<xz (xj w))(h:Hp)(H:h.ok)(d:Z3)(C:∀j,j<5->Rd w G (.sl<|(Zu h j).map vu) (d j))(base a:Int)(r:¬base=0)(t:¬a<0)(u:¬4096<a)(B:Yp h=xk)(F:a<h.cap):
  Calls Tryz.prog 7 #[Zx h d,.int .u64 base,.int .i64 a] w (TG w (Hp.zero,8)):=by
 have p:∀W,Below (xz<|xj w) w W->Calls Tryz.prog 17 #[Zx h d] W λe M=>e=.returned (.bool<|Yp h)/\Below (xz<|xj W) W M:=λW A=>
  LI (w:=W) (G:=G) (x:=d) H (λb g=>Z6o (z b g) A.size) (λj K=>(C j K).keep (λb g=>A.block b<|z b g) λ_ q=>q)
 rw[B]at p;have D:=Z6e p;clear p;have O:(base==0)=xw:=by simpa using r
 have P:(a<0)=False:=Z7d t;have Q:(4096<a)=False:=Z7d u;have R:(a<h.cap)=True:=Z7G F;clear C B;unfold Zx;go_enter Tryz.func7,Tryz.ntmps7
 go_wp2_with (first
  | (go_at_call 17;refine(D.out _ ?_).mono ?_;rotate_left;rintro e k ⟨rfl,f⟩
     have y:k.heap[xz<|xj w]?=J (.cells #[.int .u64 h.V,.int .i64 h.cap,.int .i64 h.to,.bool h.M,.int .i64 h.O,d 0,d 1,d 2,d 3,d 4] 31 (0,0)):=(f.block _ Z5j).trans<|(Z6m _ _ _ Z1).trans<|Z6u w _;have l:k.heap[xz (xj w)+1]?=J (.cells ZE 31 (0,0)):=(f.block _ Z1).trans<|Sk w _;have S:∀j,k.cell? ⟨xz<|xj w,j,U⟩=(#[.int .u64 h.V,.int .i64 h.cap,.int .i64 h.to,.bool h.M,.int .i64 h.O,d 0,d 1,d 2,d 3,d 4]:Array Value)[j]? :=λj=>Z6j _ _ _ _ _ _ y;have N:∀j,k.cell? ⟨xz (xj w)+1,j,U⟩=ZE[j]? :=λj=>Z6j _ _ _ _ _ _ l;unfold ZE at N;have fz:∀j,k.frozen? ⟨xz (xj w)+1,j,U⟩=xw:=λj=>Y7 l;have n:=Z6e f;have o:=Z6e l;clear f y l))
 case refine_1=>exact((Z6r _ w).alloc (Z6i _) _).alloc Z1 _
 have L:=Xo o.out (.int .u64 0) (.int .i64 0) (.int .i64 0) (.bool xw) (.int .i64 0) (.slice U 0 0) (.slice U 0 0) (.slice U 0 0) (.slice U 0 0)<|.slice U 0 0;refine Z6x (v:=.tuple #[.agg ZE,.int .i64 8]) ?_ rfl ?_
 .simp[results,Tryz.results7,go_sem,L,ZE]
 exact⟨λ_=>.slice U 0 0,rfl,XJ (Z90 (((Z6r _ w).alloc (Z6i _) _).alloc Z1 _)<|n.out.mono Z5j) Z0,UC _ _⟩
def GC(w:Z4)(G:Z6)(z:∀b,G b->b<xz (xj w))(h:Hp)(H:h.ok)(d:Z3)(C:∀j,j<5->Rd w G (.sl<|(Zu h j).map vu) (d j))(base a:Int)(r:¬base=0)(t:¬a<0)(u:¬4096<a)(B:Yp h=xk)(F:¬a<h.cap)(L:9223372036854775808-2*a<base):
  Calls Tryz.prog 7 #[Zx h d,.int .u64 base,.int .i64 a] w (TG w (Hp.zero,9)):=by
 have p:∀W,Below (xz<|xj w) w W->Calls Tryz.prog 17 #[Zx h d] W λe N=>e=.returned (.bool<|Yp h)/\Below (xz<|xj W) W N:=λW A=>
  LI (w:=W) (G:=G) (x:=d) H (λb g=>Z6o (z b g) A.size) (λj K=>(C j K).keep (λb g=>A.block b<|z b g) λ_ q=>q)
 rw[B]at p;have D:=Z6e p;clear p;have P:(base==0)=xw:=by simpa using r
 have Q:(a<0)=False:=Z7d t;have R:(4096<a)=False:=Z7d u;have S:(a<h.cap)=False:=Z7d F;have T:(9223372036854775808-2*a<base)=True:=Z7G L;have X:=ZO a Z0 Z0;have Y:=ZO (2*a) Z0 Z0;have Z:=ZO (9223372036854775808-2*a) Z0 Z0;clear C B;unfold Zx;go_enter Tryz.func7,Tryz.ntmps7
 go_wp2_with (first
  | (go_at_call 17;refine(D.out _ ?_).mono ?_;rotate_left;rintro e k ⟨rfl,f⟩
     have y:k.heap[xz<|xj w]?=J (.cells #[.int .u64 h.V,.int .i64 h.cap,.int .i64 h.to,.bool h.M,.int .i64 h.O,d 0,d 1,d 2,d 3,d 4] 31 (0,0)):=(f.block _ Z5j).trans<|(Z6m _ _ _ Z1).trans<|Z6u w _;have l:k.heap[xz (xj w)+1]?=J (.cells ZE 31 (0,0)):=(f.block _ Z1).trans<|Sk w _;have ya:∀j,k.cell? ⟨xz<|xj w,j,U⟩=(#[.int .u64 h.V,.int .i64 h.cap,.int .i64 h.to,.bool h.M,.int .i64 h.O,d 0,d 1,d 2,d 3,d 4]:Array Value)[j]? :=λj=>Z6j _ _ _ _ _ _ y;have O:∀j,k.cell? ⟨xz (xj w)+1,j,U⟩=ZE[j]? :=λj=>Z6j _ _ _ _ _ _ l;unfold ZE at O;have fz:∀j,k.frozen? ⟨xz (xj w)+1,j,U⟩=xw:=λj=>Y7 l;have n:=Z6e f;have o:=Z6e l;clear f y l))
 case refine_1=>exact((Z6r _ w).alloc (Z6i _) _).alloc Z1 _
 have M:=Xo o.out (.int .u64 0) (.int .i64 0) (.int .i64 0) (.bool xw) (.int .i64 0) (.slice U 0 0) (.slice U 0 0) (.slice U 0 0) (.slice U 0 0)<|.slice U 0 0;refine Z6x (v:=.tuple #[.agg ZE,.int .i64 9]) ?_ rfl ?_
 .simp[results,Tryz.results7,go_sem,M,ZE]
 exact⟨λ_=>.slice U 0 0,rfl,XJ (Z90 (((Z6r _ w).alloc (Z6i _) _).alloc Z1 _)<|n.out.mono Z5j) Z0,UC _ _⟩
def Nk{h:Hp}(f:h.ok){base a:Int}(d:Zy base)(g:ZP a):(Zv {h with V:=base,cap:=a}).ah:=by
 obtain⟨_,_,j,k,l,n,o⟩:=f.al;exact⟨d,g,j,k,l,n,o⟩
def GF(w:Z4)(G:Z6)(n:∀b,G b->b<xz (xj w))(h:Hp)(k:h.ok)(d:Z3)(o:∀j,j<5->Rd w G (.sl<|(Zu h j).map vu) (d j))(base a:Int)(z:Zy base)(B:ZP a):
  Calls Tryz.prog 7 #[Zx h d,.int .u64 base,.int .i64 a] w (TG w<|XC h base a):=by
 by_cases f:base=0;rw[show XC h base a=(Hp.zero,1)by unfold XC;rw[Z6k<|.inr<|.inl f]];exact Gw w G n h k d o base a f;by_cases g:a<0;rw[show XC h base a=(Hp.zero,1)by unfold XC;rw[Z6k<|.inr<|.inr<|.inl g]];exact Gx w G n h k d o base a f g;by_cases l:4096<a;rw[show XC h base a=(Hp.zero,1)by unfold XC;rw[Z6k<|.inr<|.inr<|.inr l]];exact Gz w G n h k d o base a f g l;cases t:Yp h with
 |false=>
  rw[show XC h base a=(Hp.zero,1)by unfold XC;rw[Z6k<|.inl t]];exact GA w G n h k d o base a f g l t
 |true=>
  have y:¬(Yp h=xw\/base=0\/a<0\/4096<a):=by
   rintro(e|e|e|e);rw[t]at e;cases e;exact f e;exact g e;exact l e
  by_cases q:a<h.cap;rw[show XC h base a=(Hp.zero,8)by unfold XC;rw[Z6h y,Z6k q]];exact GB w G n h k d o base a f g l t q;by_cases x:9223372036854775808-2*a<base;rw[show XC h base a=(Hp.zero,9)by unfold XC;rw[Z6h y,Z6h q,Z6k x]];exact GC w G n h k d o base a f g l t q x;obtain⟨p,r⟩:=Sa.1 t;rw[show XC h base a=(X4 h p base a,0)by unfold XC;rw[Z6h y,Z6h q,Z6h x,r.eh,Z6K]];have m:MvOk h base a:=⟨f,Z0,Z0,Z0,Z0⟩;have u:=m.right z.1 r.al;exact GD w G n h k d o base a f g l q x r rfl rfl (Nk k z B) (λv A=>QX r.toTld u Z0 Z0<|r.E v A) Oc<|O0 r.toBody u rfl rfl
def GE{h:Hp}(u:h.ok){base a:Int}(l:Zy base)(D:ZP a):VC Tryz.prog 7 xw [ZF h,vu base,vi a]<|.am [ZF (XC h base a).1,vi (XC h base a).2]:=by
 refine⟨Z2,λw G k r o f=> ?_⟩;have F:=f 0 _ rfl;have H:=f 1 _ rfl;have K:=f 2 _ rfl;have t:k=#[k.getD 0 xy,k.getD 1 xy,k.getD 2 xy]:=by
  have d:k.size=3:=o;apply Z8F;simp[d];intro i L M;have z:i<3:=Z0
  match i,z with
  |0,_=>simp[Array.getD,d]
  |1,_=>simp[Array.getD,d]
  |2,_=>simp[Array.getD,d]
 obtain⟨p,q,C⟩:=J1 F;rw[t,q,V9 H,V9 K];refine(GF w G r h u p C base a l D).mono ?_;rintro e N ⟨x,rfl,n,B⟩;refine⟨_,rfl,n,?_⟩;refine .am _ _ rfl ?_;intro i y g
 match i,g with
 |0,g=>cases g;exact UR λj A=>(B j A).mono λb l=>.inr l
 |1,g=>cases g;exact .int _ _
end Vm
end
section
namespace Go.Proofs.YtlnhjkejgijgaaaGreat
open Vm Go.ChangeShapes Go.WideShapes Go.ChangeAt Go.RowKit
def moveGoes_law(xs:List V)(g:I xs=Tryz.f3.params.toList.length)(a:∀(i:Nat) (t:TypeId) (x:V),Tryz.f3.params.toList[i]?=J t->xs[i]?=J x->YQ Tryz.prog 8 t x):
  VC Tryz.prog 3 xw xs (.bool xk):=by
 rw[Tryz.params3]at g a
 match xs,g with
 | [y,z,A,B,C,D],_=>
   obtain⟨x,rfl,u⟩:=Z1d<|a 0 _ y rfl rfl;obtain⟨b,rfl,d⟩:=ze<|a 1 _ z rfl rfl;obtain⟨m,rfl,o⟩:=Rj<|a 2 _ A rfl rfl;obtain⟨k,rfl,l⟩:=Rj<|a 3 _ B rfl rfl;obtain⟨n,rfl,f,p⟩:=Z1a<|a 4 _ C rfl rfl;obtain⟨v,rfl,q⟩:=ze<|a 5 _ D rfl rfl;exact Nf (λh b w j d r=>GE j d r) Z0i u d o l f p q
def moveGoes_lifted(j:Os)(a:j.Started)(H:Type)(enc:TypeId×Value->H):
  ReturnsInHanded {} Tryz.checked j 3 .any (Rows.moveGoesSpec.pre6 enc Tryz.prog Tryz.f3 Rows.moveGoesRow.domain xw) (Rows.moveGoesSpec.post enc Tryz.prog Tryz.f3 xw xk xw xw):=by
 refine returnsInHanded_of_change (C:=Tryz.checked) own a Z2 Tryz.func3
  (ChangeSpec.witness6 (enc:=enc) (C:=Tryz.checked) xw ⟨#[], #[.agg #[.slice U 0 0,.slice U 0 0,.slice U 0 0,.int .u64 0,.int .i64 0,.int .i64 0,.int .i64 0],.int .u64 0,.int .i64 0,.int .i64 0,.agg #[.int .i64 0,.int .i64 0,.int .i64 0,.int .i64 0,.int .i64 0],.int .u64 0],[]⟩ 8 Z2 Z2 Z2 Z2) ?_
 intro W base args g k d f l _ _
 exact Ng (tb:=4) 8 laidOut Z2 Z2 rfl Z2 Tryz.underlying4 (λH g h=>by
  rw[Tryz.params3]at h
  match g,h with
  | [_,_,_,_,_,_],_=>rfl) moveGoes_law H enc W base args g k d f l
theorem moveGoes_holds:Rows.MoveGoesSaid:=
 OpenClaim.holds_of_wide 3 Tryz.f3 rfl rfl rfl rfl rfl rfl rfl ⟨rfl,rfl,rfl,rfl,rfl⟩ rfl rfl rfl rfl rfl Z2 Tryz.func3 Z2
  (Z9m Z2) (by unfold Func.isWrapper;first|(rw[Z6k Z5k];kernel_rfl)|(rw[Z6h Z5k];exact⟨rfl,rfl⟩))
  (λf a H d _=>moveGoes_lifted f a H d)
#print axioms moveGoes_holds
end Go.Proofs.YtlnhjkejgijgaaaGreat
end
