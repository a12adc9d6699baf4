import Derived.Deep.DeepCutAuto
import Derived.Laws.EntriesVeiled
import Derived.Conc.SmallLaws
import Derived.Test.YtimfmcffdgpecaaGreatSMoveKeeps5
set_option linter.unusedSimpArgs false
set_option linter.unusedVariables false
set_option linter.defProp false
open Option renaming some→J,none→U
open Bool renaming true→xk,false→xw
open Go renaming undef→xy
open List renaming length→I
open Array renaming size→xz
open Go.World renaming heap→xj
open List renaming length→xq
open Array renaming size→xz
open Go.World renaming heap→xj
set_option maxHeartbeats 40000000
set_option maxRecDepth 100000
theorem ZgX{p:Prop}(h:p:=by simp only;omega):p:=h
theorem ZgK{p:Prop}(h:p:=by simp[results,Tryz.results63,go_sem]):p:=h
theorem ZgY{p:Prop}(h:p:=by cases e;omega):p:=h
theorem Zgy{p:Prop}(h:p:=by have:=f.c2;rw[A.out.1,A.out.2.1,A.out.2.2.1,A.out.2.2.2]at this;grind [cell_of_row]):p:=h
theorem Zgf{p:Prop}(h:p:=by decide+kernel):p:=h
theorem ZgI{p:Prop}(h:p:=by obtain⟨y,_,rfl⟩:=List.mem_map.1 d;rfl):p:=h
def ZkW:=@Go.grownBy_keeps
def Zkd:=@Go.Value.slice.injEq
def Zko:=@List.take_append_of_le_length
def Zlo:=@Bool.and_true
def Zl8:=@Int.natCast_add
def ZkH:=@Go.results_none
def Zlj:=@Go.KeepsFrom.refl
def Zkz:=@List.length_pos_iff
def ZjO:=@List.all_eq_false
def ZkP:=@List.pairwise_iff_getElem
section
namespace Vm
open Go Go.Proofs Go.RowKit
def Pw(h:Hp)(j i:Nat)(v:Int):Hp:=
 if j=0 then {h with H:=h.H.set i v}else if j=1 then {h with ae:=h.ae.set i v}else if j=2 then {h with ah:=h.ah.set i v}else if j=3 then {h with aj:=h.aj.set i v}else {h with E:=h.E.set i v}
def Z68(h:Hp){j k:Nat}(i:Nat)(v:Int)(f:j<5)(g:k<5):Zw (Pw h j i v) k=if k=j then(Zw h j).set i v else Zw h k:=by
 have a:j=0\/j=1\/j=2\/j=3\/j=4:=Z0;have d:k=0\/k=1\/k=2\/k=3\/k=4:=Z0;obtain rfl|rfl|rfl|rfl|rfl:=a<;>obtain rfl|rfl|rfl|rfl|rfl:=d<;>rfl
theorem HOwn.put{B:Nat}{W:Z3}{h:Hp}{x:Z9}(d:HOwn B W h x){j i:Nat}(p:j<5){g cap:Nat}(hx:x j=.slice (J ⟨g,0,U⟩) (I<|Zw h j) cap)(v:Int):HOwn B (W.setCell ⟨g,i,U⟩<|.int .u64 v) (Pw h j i v) x:=by
 refine⟨λk f=> ?_,d.apart⟩;rw[Z68 h i v p f];by_cases e:k=j;subst e;rw[Zhi rfl,Zjt];have l:=d.own k f;rw[hx]at l⊢;have a:=(l.stored i<|.int .u64 v).1;rw[qr];exact a;rw[Zhg e];refine ownsRow_setCell_other (d.own k f) (λn=> ?_) _;have o:(x j).ownBlock=J g:=by rw[hx];rfl
 obtain a|a:=Zjl e;exact d.apart k j a p g n o;exact d.apart j k a f g o n
def Z7J{B:Nat}{W:Z3}{e:Zh}{z n:Nat}{v:Zg}{l:Zp}(h:W.ownsRow B e z v n l){c:Nat}(hc:v.ownBlock=J c):∃a T f,W.heap[c]?=J (.cells a T f):=by
 obtain⟨rfl,_⟩|⟨g,cap,d,rfl,_,j,_⟩:=h.2;cases hc;cases hc;exact⟨_,_,_,j⟩
def HOwn.to{m n:Nat}{W u:Z3}{g g':Hp}{x h:Z9}(o:HOwn n W g x)(A:m<=n)(hx:∀j,j<5->(h j=x j/\Zw g' j=Zw g j)\/(h j=.slice U 0 0/\Zw g' j=[]))
  (t:∀j,j<5->∀c,(x j).ownBlock=J c->n<=c->∀k T f,W.heap[c]?=J (.cells k T f)->u.heap[c]?=W.heap[c]?):HOwn m u g' h:=by
 have q:∀j,j<5->∀c,(h j).ownBlock=J c->(x j).ownBlock=J c:=λj d c a=>by
  obtain⟨e,_⟩|⟨e,_⟩:=hx j d;rw[e]at a;exact a;rw[e]at a;cases a
 refine⟨λj d=> ?_,λi j r d c a p=>o.apart i j r d c (q i Z0 c a)<|q j d c p⟩;obtain⟨e,l⟩|⟨e,l⟩:=hx j d;rw[e,l];refine qH (Xs (o.own j d) λc a=> ?_) λc z w=>⟨Z0,w⟩;obtain⟨k,T,f,y⟩:=Z7J (o.own j d) a;exact t j d c a ((o.own j d).lt c a).1 k T f y;rw[e,l];exact Ziq _ _ _ _
def HOwn.ue{m n:Nat}{W d:Z3}{g:Hp}{x:Z9}(o:HOwn n W g x)(l:m<=n)(a:∀j,j<5->∀c,(x j).ownBlock=J c->n<=c->d.heap[c]?=W.heap[c]?):HOwn m d g x:=o.to l (λ_ _=>.inl ⟨rfl,rfl⟩) λj k c f h _ _ _ _=>a j k c f h
def Z6Q{g:Hp}{x:Z9}(c:Bool)(j:Nat)(a:j<5):((if j=2\/j=3 then .slice U 0 0 else x j)=x j/\Zw {g with aa:=c,ah:=[],aj:=[]} j=Zw g j)\/((if j=2\/j=3 then Value.slice U 0 0 else x j)=.slice U 0 0/\Zw {g with aa:=c,ah:=[],aj:=[]} j=[]):=by
 have:j=0\/j=1\/j=2\/j=3\/j=4:=Z0;obtain rfl|rfl|rfl|rfl|rfl:=this;exact .inl ⟨rfl,rfl⟩;exact .inl ⟨rfl,rfl⟩;exact .inr ⟨rfl,rfl⟩;exact .inr ⟨rfl,rfl⟩;exact .inl ⟨rfl,rfl⟩
def Z8F{w2:Z3}{b T k l n o p q r t u w}(x:w2.heap[b]?=J (.cells #[k,l,n,o,p,q,r,t,u,w] T (0,0))){v0 v1 a d v4 f v6 g h j}:((((((((((w2.setCell ⟨b,0,U⟩ v0).setCell ⟨b,1,U⟩ v1).setCell ⟨b,2,U⟩ a).setCell ⟨b,3,U⟩ d).setCell ⟨b,4,U⟩ v4).setCell ⟨b,5,U⟩ f).setCell ⟨b,6,U⟩ v6).setCell ⟨b,7,U⟩ g).setCell ⟨b,8,U⟩ h).setCell ⟨b,9,U⟩ j).heap[b]?=J (.cells #[v0,v1,a,d,v4,f,v6,g,h,j] T (0,0)):=by
 simp[World.setCell,ZhT,x]
def YM(h:Hp)(x:Z9):Array Value:=#[.int .u64 h.base,.int .i64 h.cap,.int .i64 h.to,.bool h.aa,.int .i64 h.Z,x 0,x 1,x 2,x 3,x 4]
def LM{W G}{l:Z6}{y}(h:Rd W G (.sl<|l.map vu) y){k u}(j:l[k]?=J u):∃b o cap,y=.slice (J ⟨b,o,U⟩) (I l) cap/\W.cell? ⟨b,o+k,U⟩=J (.int .u64 u)/\G b:=by
 have g:=(Zh9.1 j).1;generalize a:l.map vu=L at h;cases h with
 |nil=>simp at a;subst a;simp at g
 |sl _ b o cap w vs x z n p q r=>
  have d:I L=I l:=by rw[<-a,ZhM]
  have f:w=1:=by
   have:=(p _ (by rw[<-a];exact Zil<|Zhh j)).1;simpa using this.symm
  subst f;refine⟨b,o,cap,by rw[d],?_,n⟩;rw[q k Z0];have t:(flat L)[k]?=J (vu u):=by rw[<-a,GP,Zhz,j];rfl
  rw[Uj<|r k _ t]
end Vm
end
section
namespace Vm
open Go Go.Proofs
section
def XY(l:Zi)(i:Int):Bool:=l.any λo=>decide (o.Y<i)&&decide (i<=o.Y+o.M)
def Yy(g:Hp):Hp:=if g.Z=(I g.H) then {g with aa:=xw,ah:=[],aj:=[]}else g
def scan1(h:Hp):Hp:=
 Yy (if XY (ZQ h.H [] xw).1 h.Z=xk then
  {(fwd h<|(h.H[h.Z.toNat]?).getD 0).2.1 with H:=(fwd h<|(h.H[h.Z.toNat]?).getD 0).2.1.H.set h.Z.toNat (fwd h<|(h.H[h.Z.toNat]?).getD 0).1,Z:=h.Z+1}
 else {h with Z:=h.Z+1})
def scanK(h:Hp):Nat->Hp
 |0=>h
 |k+1=>if h.aa then scanK (scan1 h) k else h
section
variable {h g:Hp}{p q:Pts}
def SY{l i}:XY l i=xk↔ ∃o∈l,o.Y<i/\i<=o.Y+o.M:=by
 unfold XY;simp
def Rt.km(r:Rt h p):ZQ h.H [] xw=(p.H,0):=by
 have t:=r.am 1 Z0;simp[Pts.sg]at t;refine zm t ?_;unfold VN;have:p.H.filter (λo=>o.gone)=[]:=by
  rw[Zkb];intro o a;rw[t.dk o a];simp
 rw[this];rfl
def Z5C(t:Tld h p){w}(f:Gos h p w 1 2):V4 w=xk:=by
 unfold V4;obtain a|⟨k,_,_,_,o,_,d,_⟩:=f.vz t Z0 Z0;simp[a];simp[d]
def Body.ms(b:Body g q){i:Nat}(hs:g.Z=i)(K:i<I g.H){v}(M:Gos g q v 1 2)(G:XY q.H i=xk):Body {g with H:=g.H.set i v,Z:=i+1} q:=by
 let⟨o,L,Z,h2⟩:=SY.1 G;let⟨a,n,m,X,Y,em,D,_,W⟩:=b.toTld.ob (k:=1) Z0 L;simp[WD]at D;have F:Zv {g with H:=g.H.set i v,Z:=i+1}=Zv g:=by
  unfold Zv;simp
 have f:∀ {w N O},Gos {g with H:=g.H.set i v,Z:=i+1} q w N O↔Gos g q w N O:=jV F;have z:=b.am 1 Z0;simp[WD,Pts.sg]at z;have u:∀x∈q.H,∀j:Nat,j<=x.size->x.Y.toNat+j=i->x=o/\0<j/\j<=x.M:=by
  intro x p j r e;let⟨c,d,P,Q,R,C,_⟩:=b.toTld.ob (k:=1) Z0 p;obtain B|B|B:=z.apart x p o L;subst B;exact⟨rfl,Z0,Z0⟩;omega;omega
 refine⟨⟨by rw[F];exact b.be,λk A=> ?_⟩,by rw[F];exact b.gone,λk A x p H j r w t=> ?_,?_⟩;by_cases k1:k=1;subst k1;show Tiles (g.H.set i v) _ 0 q.H;refine z.congr Z1 λx p=> ?_;have l:=(z.bd x p).1;let⟨c,d,P,Q,R,C,T,_⟩:=b.toTld.ob (k:=1) Z0 p;have S:(g.H.set i v)[x.Y.toNat]?=g.H[x.Y.toNat]? :=by
  refine Zin λe=> ?_;have:=(u x p 0 Z0 Z0).2.1;omega
 refine⟨l.kx,l.shape,by simpa using l.an,Sp λj w r=>⟨λh=>(by rw[z.dk x p]at h;cases h),λG=> ?_⟩,by rw[S];exact l.word⟩;have y:j<x.size.toNat:=by
  omega
 rw[ZhO y,ZhF]at r;by_cases e:x.Y.toNat+1+j=i;rw[e,ZiG K]at r;cases r;exact Z5C b.toTld M;rw[Zin Z0]at r;refine(JP l.gm j w ?_).2 G;rw[ZhO y,ZhF];exact r;have:=b.am k A;have e:Zx {g with H:=g.H.set i v,Z:=i+1} k=Zx g k:=by unfold Zx;rw[Zhg k1,Zhg k1]
 rw[e];exact this;unfold Xw;by_cases k1:k=1;subst k1;simp[WD]at t;rw[Zhg Z0];by_cases e:x.Y.toNat+1+j=i;rw[e,ZiG K]at t;cases t;rw[Zhg (by rw[e];simp only;omega)];exact f.2 M;rw[Zin Z0]at t;have:=b.ptr 1 A x p H j r w t;unfold Xw at this;rw[Zhg Z0]at this;by_cases c:g.Z<=((x.Y.toNat+1+j:Nat):Int);rw[Zhi ⟨rfl,c⟩]at this;rw[Zhi ⟨rfl,ZgX⟩];exact this.imp f.2 f.2;rw[Zhg Z0]at this;rw[Zhg ZgX];exact f.2 this;have e:Zx {g with H:=g.H.set i v,Z:=i+1} k=Zx g k:=by unfold Zx;rw[Zhg k1,Zhg k1]
 rw[e]at t;have:=b.ptr k A x p H j r w t;unfold Xw at this;by_cases c:2<k;rw[Zhi c]at this⊢;exact f.2 this;rw[Zhg c,Zhg Z0]at this;rw[Zhg c,Zhg Z0];exact f.2 this;have:=b.room;simpa using this
def Body.tx(b:Body g q){i:Nat}(y:g.Z=i)(p:¬XY q.H i=xk):Body {g with Z:=i+1} q:=by
 refine⟨⟨b.be,b.am⟩,b.gone,λk l x d f j h w r=> ?_,b.room⟩;have:=b.ptr k l x d f j h w r;unfold Xw at this⊢;by_cases c:2<k;rw[Zhi c]at this⊢;exact this;rw[Zhg c]at this⊢;by_cases k1:k=1;subst k1;by_cases c:g.Z<=((x.Y.toNat+1+j:Nat):Int);rw[Zhi ⟨rfl,c⟩]at this
 have o:x.Y.toNat+1+j≠i:=λe=>p (SY.2 ⟨x,d,by
  let⟨a,n,m,t,u,em,_⟩:=b.toTld.ob (k:=1) Z0 d;omega⟩)
 rw[Zhi ⟨rfl,ZgX⟩];exact this;rw[Zhg Z0]at this;rw[Zhg ZgX];exact this;rw[Zhg Z0]at this⊢;exact this
def Body.stop(b:Body g q)(F:g.Z=I g.H):Body {g with aa:=xw,ah:=[],aj:=[]} ⟨q.H,q.ae,[],[]⟩:=by
 have z:=WG.1 b.be;have D:∀k a,(k=1\/k=2)->ZO (Zv {g with aa:=xw,ah:=[],aj:=[]}) k a=ZO (Zv g) k a:=λk a d=>by
  obtain rfl|rfl:=d<;>rfl
 have f:∀ {w},Gos g q w 1 2->Gos {g with aa:=xw,ah:=[],aj:=[]} ⟨q.H,q.ae,[],[]⟩ w 1 2:=λ{w} p=>by
  obtain rfl|⟨k,o,d,t,rfl⟩:=p;exact .inl rfl;refine .inr ⟨k,o,d,?_,Zgd⟩;obtain rfl|rfl:=d<;>exact t
 refine⟨⟨WG.2 ?_,λk d=> ?_⟩,λk d o t=> ?_,λk d x l p j u w y=> ?_,?_⟩;simp[Zv,ZiI]at z⊢;omega;have h:k=1\/k=2\/k=3\/k=4:=Z0;obtain rfl|rfl|rfl|rfl:=h;exact b.am 1 Z0;exact b.am 2 Z0;exact Zhc 0;exact Zhc 0;have h:k=3\/k=4:=Z0;obtain rfl|rfl:=h<;>cases t
 have h:k=1\/k=2\/k=3\/k=4:=Z0;obtain rfl|rfl|rfl|rfl:=h;have:=b.ptr 1 Z0 x l p j u w y;let⟨a,n,m,B,C,em,r,_,A⟩:=b.toTld.ob (k:=1) Z0 l;simp[WD]at r;unfold Xw at this⊢;rw[Zhg Z0,Zhg Z0]at this;rw[Zhg Z0,Zhg ZgX];exact f this;have:=b.ptr 2 Z0 x l p j u w y;exact f this;cases l;cases l;have:=b.room;simp[X4,Yx];omega
structure ScanTo (h:Hp) (p:Pts) (g:Hp) (q:Pts):Prop where
 eq:scan1 h=g
 rt:Rt g q
 H:∃ws,I g.H=I h.H+ws/\∀j:Nat,(j:Int)<h.Z->g.H[j]?=h.H[j]?
 ae:g.ae=h.ae
 E:g.E=h.E
 num:g.base=h.base/\g.cap=h.cap/\g.to=h.to/\g.Z=h.Z+1
 ld:∃r,q.H=p.H++r
 ny:q.ae=p.ae
 room:g.aa=xk->(I g.H:Int)+X4 q=I h.H+X4 p
 ul:(I g.H:Int)<=I h.H+X4 p
 via:∃(i:Nat) (w v:Int) (f:Hp) (s:Pts),h.Z=i/\h.H[i]?=J w/\g=Yy {f with H:=f.H.set i v,Z:=(i:Int)+1}/\(q.H=s.H/\q.ae=s.ae)/\(g.aa=xk->q=s)/\((v=w/\f=h/\s=p)\/(XY s.H i=xk/\(Gos h p w 1 2\/Gos h p w 3 4)/\FwdTo h p w v f s))
def Rt.Z(r:Rt h p)(hc:h.aa=xk):∃g q,ScanTo h p g q:=by
 let⟨i,u⟩:=Zhp r.ft;have a1:i<I h.H:=by have:=r.ku hc;omega
 have C:=r.km;have fin:∀(f:Hp) (s:Pts),Body f s->RC f s->f.Z=(i:Int)+1->f.aa=xk->(i:Int)+1<=I f.H->(∀w∈f.E,Gos f s w 1 2)->I f.E<=16->∃q,Rt (Yy f) q/\(q.H=s.H/\q.ae=s.ae)/\((Yy f).aa=xk->q=s):=by
  intro f s b o Z A R Y X;unfold Yy;by_cases e:f.Z=I f.H;rw[Zhi e];have b':=b.stop e;refine⟨_,⟨b',X,by show 0<=f.Z;omega,by show f.Z<=I f.H;omega,Z1,Zgd,Z1,λw l=> ?_⟩,Z1,Z1⟩;obtain rfl|⟨k,o,Q,z,rfl⟩:=Y w l;exact .inl rfl;refine .inr ⟨k,o,Q,?_,?_⟩;obtain rfl|rfl:=Q<;>exact z;obtain rfl|rfl:=Q<;>rfl;rw[Zhg e];exact⟨s,⟨b,X,Z0,Z0,Z0,Zgd,λ_=>o,Y⟩,Z1,Z1⟩
 have t:∀f:Hp,(Yy f).H=f.H/\(Yy f).ae=f.ae/\(Yy f).E=f.E/\(Yy f).base=f.base/\(Yy f).cap=f.cap/\(Yy f).to=f.to/\(Yy f).Z=f.Z:=λf=>by
  unfold Yy;split<;>exact⟨rfl,rfl,rfl,rfl,rfl,rfl,rfl⟩
 have l:h.H[i]?=J h.H[i]:=Z1;generalize h.H[i]=w at l;by_cases K:XY p.H i=xk;let⟨o,z,h1,h2⟩:=SY.1 K;let⟨a,n,m,ea,en,em,a0,_⟩:=r.toTld.ob (k:=1) Z0 z;have P:Gos h p w 1 2\/Gos h p w 3 4:=by
  have t1:=r.am 1 Z0;have:=r.ptr 1 Z0 o z (t1.dk o z) (i-a-1) Z0 w (by simp only[WD];rw[ea,show(a:Int).toNat+1+(i-a-1)=i by omega];exact l);unfold Xw at this;rw[Zhg Z0,Zhi ⟨rfl,Z0⟩]at this;exact this
 let⟨v,g,q,f⟩:=r.toBody.iw r.fu P;have Z:=f.ext.Z.trans u;let⟨ws,x⟩:=f.ext.H;let⟨rs,T⟩:=f.ext.ld;have B:i<I g.H:=by rw[x,ZhY];omega
 have S:XY q.H i=xk:=SY.2 ⟨o,by rw[T];exact Zij _ z,h1,h2⟩;have b:=f.body.ms Z B f.ww S;have eq:scan1 h=Yy {g with H:=g.H.set i v,Z:=(i:Int)+1}:=by
  unfold scan1;rw[C,u,Zhi K];simp only[Zhm,l,ZhE,f.fwd]
 have A:=f.ext.aa.trans hc;have R:Zv {g with H:=g.H.set i v,Z:=(i:Int)+1}=Zv g:=by unfold Zv;simp
 have on:RC {g with H:=g.H.set i v,Z:=(i:Int)+1} q:=by
  have:=f.lf<|r.lf hc;unfold RC at this⊢;rw[R];exact this
 let⟨s,G,⟨W,H⟩,y⟩:=fin _ q b on rfl A Zge (λw l=>(jV R).2<|f.ext.ss Z0 Z0<|r.E w (by rw[<-f.ext.E];exact l)) (by show I g.E<=16;rw[f.ext.E];exact r.gt);let⟨k1,D,F,L,M,N,O⟩:=t {g with H:=g.H.set i v,Z:=(i:Int)+1};rw[<-eq]at G k1 D F L M N O y;have d:(scan1 h).H.length=I g.H:=by rw[k1];simp
 refine⟨_,s,rfl,G,⟨I ws,by rw[d,x,ZhY],λj hj=> ?_⟩,D.trans f.ext.ae,F.trans f.ext.E,⟨L.trans f.ext.base,M.trans f.ext.cap,N.trans f.ext.wy,by rw[O,u]⟩,Zgd,H.trans f.ext.ny,λh=> ?_,?_,i,w,v,g,q,u,l,eq,⟨W,H⟩,y,Zgd⟩;rw[k1];simp only;rw[Zin Z0,x,ZhI Z0];rw[y h,d];exact f.ext.room;rw[d];have:=f.ext.room;omega;have b:=r.toBody.tx u K;have eq:scan1 h=Yy {h with Z:=(i:Int)+1}:=by
  unfold scan1;rw[C,u,Zhg K]
 let⟨s,G,⟨W,H⟩,y⟩:=fin _ p b (r.lf hc) rfl hc ZgX r.E r.gt;let⟨k1,D,F,L,M,N,O⟩:=t {h with Z:=(i:Int)+1};rw[<-eq]at G k1 D F L M N O y;refine⟨_,s,rfl,G,Zgd,D,F,Zgd,Zgd,H,λh=> ?_,?_,i,w,w,h,p,u,l,?_,⟨W,H⟩,y,Z1⟩;rw[y h,k1];rw[k1];simp only;omega;let⟨_,e⟩:=Zh9.1 l;rw[eq,<-e,List.set_getElem_self]
end
end
end Vm
end
section
namespace Vm
open Go Go.Proofs Go.RowKit
structure NowI (B:Nat) (W:World) (b:Nat) (g:Hp) (x:Nat->Value):Prop where
 le:B<=b
 nb:W.heap[b]?=J (.cells (YM g x) 30 (0,0))
 own:HOwn B W g x
 aj:∀j,j<5->∀c,(x j).ownBlock=J c->c≠b
def NowI.rd{B:Nat}{W:Z3}{b:Nat}{g:Hp}{x:Z9}(S:NowI B W b g x)(j:Nat)(a:j<5):Rd W (λc=>B<=c/\c<xz (xj W)/\c≠b) (.sl<|(Zw g j).map vu)<|x j:=
 N0 (k:=.u64) (S.own.own j a) λc d=>⟨((S.own.own j a).lt c d).1,((S.own.own j a).lt c d).2,S.aj j a c d⟩
def Kg(B:Nat)(W:Z3)(b:Nat)(g':Hp)(e:Ending)(a:Z3):Prop:=e=.returned (.int .i64 0)/\W.grownBy a (J b)/\∃d,NowI B a b g' d
def qq{B:Nat}{W:Z3}{b:Nat}{g:Hp}{x:Z9}(S:NowI B W b g x)(n:Int):W.grownBy (W.setCell ⟨b,4,U⟩<|.int .i64 n) (J b)/\NowI B (W.setCell ⟨b,4,U⟩<|.int .i64 n) b {g with Z:=n} x:=by
 have d:∀c,c≠b->(W.setCell ⟨b,4,U⟩<|.int .i64 n).heap[c]?=W.heap[c]? :=λc a=>Zhv _ _ _ _ a;refine⟨⟨rfl,rfl,rfl,by simp[World.setCell],λc _ a=>d c<|λe=>a (by rw[e])⟩,S.le,?_,S.own.to (Zhc _) (λj _=>.inl ⟨rfl,rfl⟩) (λj f c a _ _ _ _ _=>d c<|S.aj j f c a),S.aj⟩;have:=S.nb;unfold YM at this;simp[World.setCell,ZhT,this,YM]
def Mv{B:Nat}{W:Z3}{b:Nat}{g:Hp}{x:Z9}(S:NowI B W b g x):W.grownBy (((W.setCell ⟨b,3,U⟩<|.bool xw).setCell ⟨b,7,U⟩<|.slice U 0 0).setCell ⟨b,8,U⟩<|.slice U 0 0) (J b)/\
  NowI B (((W.setCell ⟨b,3,U⟩<|.bool xw).setCell ⟨b,7,U⟩<|.slice U 0 0).setCell ⟨b,8,U⟩<|.slice U 0 0) b {g with aa:=xw,ah:=[],aj:=[]} (λj=>if j=2\/j=3 then .slice U 0 0 else x j):=by
 have d:∀c,c≠b->(((W.setCell ⟨b,3,U⟩<|.bool xw).setCell ⟨b,7,U⟩<|.slice U 0 0).setCell ⟨b,8,U⟩<|.slice U 0 0).heap[c]?=W.heap[c]? :=λc a=>by
  simp[World.setCell,ZhT,ZiX a]
 refine⟨⟨rfl,rfl,rfl,by simp[World.setCell],λc _ a=>d c<|λe=>a (by rw[e])⟩,S.le,?_,S.own.to (Zhc _) (Z6Q xw) (λj f c a _ _ _ _ _=>d c<|S.aj j f c a),λj f c a=> ?_⟩;have:=S.nb;unfold YM at this;simp[World.setCell,ZhT,this,YM];split at a;cases a;exact S.aj j f c a
def EH(W:Z3)(B:Nat)(b:Nat)(g:Hp)(x:Z9)(S:NowI B W b g x)(p:g.ok)(i:Nat)(t:g.Z=i)(w:i<I g.H)(pt:Bool)(A:pt=xw\/g.H[i]?=J 0):
  Calls xP 63 #[.bool pt,.pointer<|J ⟨b,0,U⟩] W (Kg B W b<|Yy {g with Z:=(i:Int)+1}):=by
 obtain⟨u,D⟩:∃u,g.H[i]?=J u:=⟨_,Zh8 w⟩;obtain⟨F,go,cap,k,q,o⟩:=LM (S.rd 0 Z0) D;rw[show I (Zw g 0)=(I g.H) from rfl]at k;have d:=S.nb;unfold YM at d;rw[k,t]at d;have M:∀j,W.cell? ⟨b,j,U⟩=(#[.int .u64 g.base,.int .i64 g.cap,.int .i64 g.to,.bool g.aa,.int .i64 i,.slice (J ⟨F,go,U⟩) (I g.H) cap,x 1,x 2,x 3,x 4]:Array Value)[j]? :=λj=>Zhl _ _ _ _ _ _ d;have K:∀j,W.frozen? ⟨b,j,U⟩=xw:=λj=>YA d;have G:=p.H;have L:=ZA ((i:Int)+1) Z0 Z0;have C:((i:Int)< (I g.H:Int))=True:=Zje Z0;have z:=Zhf S;have H:=Zhf<|And.intro d<|And.intro k<|And.intro o t;have n:pt=xw\/pt=xk/\u=0:=by
  obtain h|h:=A;exact .inl h;rw[D]at h;cases pt;exact .inl rfl;exact .inr ⟨rfl,ZiJ h⟩
 clear S d k o A t;go_enter A3,Tryz.ntmps63;by_cases a:i+1=I g.H
 .have l:((i:Int)+1==(I g.H:Int))=xk:=Zge;have f:=Zhf a;clear a;have fin:Kg B W b (Yy {g with Z:=(i:Int)+1}) (.returned<|.int .i64 0)<|(((W.setCell ⟨b,4,U⟩<|.int .i64<|(i:Int)+1).setCell ⟨b,3,U⟩<|.bool xw).setCell ⟨b,7,U⟩<|.slice U 0 0).setCell ⟨b,8,U⟩<|.slice U 0 0:=by
   have r:Yy {g with Z:=(i:Int)+1}= {g with Z:=(i:Int)+1,aa:=xw,ah:=[],aj:=[]}:=by
    unfold Yy;rw[Zhi (by show(i:Int)+1=(I g.H:Int);have:=f.out;omega)]
   rw[r];obtain⟨y,p2⟩:=qq z.out<|(i:Int)+1;obtain⟨p3,p4⟩:=Mv p2;exact⟨rfl,Ve y p3,_,p4⟩
  obtain rfl|⟨rfl,rfl⟩:=n;all_goals
   go_wp2;exact Zi0 (v:=.int .i64 0) ZgK rfl fin
 .have l:((i:Int)+1==(I g.H:Int))=xw:=Zge;have f:=Zhf a;clear a;have fin:Kg B W b (Yy {g with Z:=(i:Int)+1}) (.returned<|.int .i64 0)<|W.setCell ⟨b,4,U⟩<|.int .i64<|(i:Int)+1:=by
   have r:Yy {g with Z:=(i:Int)+1}= {g with Z:=(i:Int)+1}:=by
    unfold Yy;rw[Zhg (by show ¬(i:Int)+1=(I g.H:Int);have:=f.out;omega)]
   rw[r];obtain⟨y,p2⟩:=qq z.out<|(i:Int)+1;exact⟨rfl,y,_,p2⟩
  obtain rfl|⟨rfl,rfl⟩:=n;all_goals
   go_wp2;exact Zi0 (v:=.int .i64 0) ZgK rfl fin
def Z14(W:Z3)(B:Nat)(b:Nat)(b3:B<=xz (xj W))(g:Hp)(x:Z9)(S:NowI B W b g x)(X:g.ok)(i:Nat)(hi:g.Z=i)(e5:i<I g.H){u:Int}(hu:g.H[i]?=J u)(e7:¬u=0){v:Int}{g1:Hp}(hf:fwd g u=(v,g1,0))(d0:i<I g1.H)(d5:g1.Z=i):
  Calls xP 63 #[.bool xk,.pointer<|J ⟨b,0,U⟩] W (Kg B W b<|Yy {g1 with H:=g1.H.set i v,Z:=(i:Int)+1}):=by
 obtain⟨gb,go,cap,D,d7,b8⟩:=LM (S.rd 0 Z0) hu;rw[show I (Zw g 0)=(I g.H) from rfl]at D;have t:=S.nb;unfold YM at t;rw[D,hi]at t;have yb:∀j,W.cell? ⟨b,j,U⟩=(#[.int .u64 g.base,.int .i64 g.cap,.int .i64 g.to,.bool g.aa,.int .i64 i,.slice (J ⟨gb,go,U⟩) (I g.H) cap,x 1,x 2,x 3,x 4]:Array Value)[j]? :=λj=>Zhl _ _ _ _ _ _ t;have e6:=X.H;have uu:=X.gq u<|Zhh hu;have wi:=ZA ((i:Int)+1) Z0 Z0;have e0:((i:Int)< (I g.H:Int))=True:=Zje Z0;have hF:∀W',Below (xz<|xj W) W W'->Calls xP 64 #[.agg #[.int .u64 g.base,.int .i64 g.cap,.int .i64 g.to,.bool g.aa,.int .i64 i,.slice (J ⟨gb,go,U⟩) (I g.H) cap,x 1,x 2,x 3,x 4],.int .u64 u] W' (FwdPost W' (v,g1,0)):=λW' hb=>by
  have:=Z0K W' (λc=>B<=c/\c<xz (xj W)/\c≠b) (λc f=>Zhj f.2.1 hb.size) g X x (λj hj=>(S.rd j hj).keep (λc f=>hb.block c f.2.1) λ_ q=>q) u uu;rw[hf]at this;unfold ZJ at this;rw[D,hi]at this;exact this
 have HF:=Zhf hF;have c7:=Zhf b3;have HS:=Zhf S;have HN:=Zhf<|And.intro t<|And.intro D<|And.intro b8 hi;have z:=(H6 X uu);rw[hf]at z;have e1:=Zhf z;have d6:=Y2 t;clear S t D b8 hi hF hf z b3;go_enter A3,Tryz.ntmps63;go_upto_region 6 with (go_at_call 64;refine(HF.out _<|Zhw _ _).mono ?_;rintro e w9 ⟨x9,rfl,b6,h⟩;obtain⟨a0,N,f0⟩:=YW<|h.own 0 Z0;obtain⟨H,O,f1⟩:=YW<|h.own 1 Z0;obtain⟨K,P,f2⟩:=YW<|h.own 2 Z0;obtain⟨L,Q,f3⟩:=YW<|h.own 3 Z0;obtain⟨M,R,f4⟩:=YW<|h.own 4 Z0;obtain⟨a,rfl⟩:=MZ (h.own 0 Z0) f0 (by show 0<I g1.H;omega);rw[show I (Zw g1 0)=(I g1.H) from rfl]at f0;unfold ZJ;rw[f0,f1,f2,f3,f4];have n:=Zhf<|And.intro b6<|And.intro h<|And.intro f0<|And.intro f1<|And.intro f2<|And.intro f3 f4;clear b6 h f0 f1 f2 f3 f4);have d8:=n.out.1.size;have a5:Below (xz<|xj W) W<|w9.alloc<|.cells #[.int .u64 g1.base,.int .i64 g1.cap,.int .i64 g1.to,.bool g1.aa,.int .i64 i,.slice (J ⟨a,0,U⟩) (I g1.H) N,.slice H (I<|Zw g1 1) O,.slice K (I<|Zw g1 2) P,.slice L (I<|Zw g1 3) Q,.slice M (I<|Zw g1 4) R] 30:=n.out.1.alloc d8 _;have a8:=ZhB w9<|.cells #[.int .u64 g1.base,.int .i64 g1.cap,.int .i64 g1.to,.bool g1.aa,.int .i64 i,.slice (J ⟨a,0,U⟩) (I g1.H) N,.slice H (I<|Zw g1 1) O,.slice K (I<|Zw g1 2) P,.slice L (I<|Zw g1 3) Q,.slice M (I<|Zw g1 4) R] 30;have b2:xz (xj<|w9.alloc<|.cells #[.int .u64 g1.base,.int .i64 g1.cap,.int .i64 g1.to,.bool g1.aa,.int .i64 i,.slice (J ⟨a,0,U⟩) (I g1.H) N,.slice H (I<|Zw g1 1) O,.slice K (I<|Zw g1 2) P,.slice L (I<|Zw g1 3) Q,.slice M (I<|Zw g1 4) R] 30)=xz (xj w9)+1:=Z1;have k:HOwn (xz<|xj W) (w9.alloc<|.cells #[.int .u64 g1.base,.int .i64 g1.cap,.int .i64 g1.to,.bool g1.aa,.int .i64 i,.slice (J ⟨a,0,U⟩) (I g1.H) N,.slice H (I<|Zw g1 1) O,.slice K (I<|Zw g1 2) P,.slice L (I<|Zw g1 3) Q,.slice M (I<|Zw g1 4) R] 30) g1 x9:=⟨λj hj=>Xs (n.out.2.1.own j hj) λc f=>Zht w9 _ c ((n.out.2.1.own j hj).lt c f).2,n.out.2.1.apart⟩;have e3:xz (xj W)<=a/\a<xz (xj w9):=(n.out.2.1.own 0 Z0).lt a (by rw[n.out.2.2.1];rfl);obtain⟨G,b4⟩:∃G,G=w9.alloc (.cells #[.int .u64 g1.base,.int .i64 g1.cap,.int .i64 g1.to,.bool g1.aa,.int .i64 i,.slice (J ⟨a,0,U⟩) (I g1.H) N,.slice H (I<|Zw g1 1) O,.slice K (I<|Zw g1 2) P,.slice L (I<|Zw g1 3) Q,.slice M (I<|Zw g1 4) R] 30):=⟨_,rfl⟩;rw[<-b4]at a5 a8 b2 k⊢;clear b4;have Y:=(a5.block b d6).trans HN.out.1;have y7:∀j,G.cell? ⟨xz<|xj w9,j,U⟩=(#[.int .u64 g1.base,.int .i64 g1.cap,.int .i64 g1.to,.bool g1.aa,.int .i64 i,.slice (J ⟨a,0,U⟩) (I g1.H) N,.slice H (I<|Zw g1 1) O,.slice K (I<|Zw g1 2) P,.slice L (I<|Zw g1 3) Q,.slice M (I<|Zw g1 4) R]:Array Value)[j]? :=λj=>Zhl _ _ _ _ _ _ a8;have d9:∀j,G.cell? ⟨b,j,U⟩=(#[.int .u64 g.base,.int .i64 g.cap,.int .i64 g.to,.bool g.aa,.int .i64 i,.slice (J ⟨gb,go,U⟩) (I g.H) cap,x 1,x 2,x 3,x 4]:Array Value)[j]? :=λj=>Zhl _ _ _ _ _ _ Y;have c8:∀j,G.frozen? ⟨b,j,U⟩=xw:=λj=>YA Y;have y:=Zhf<|And.intro a5<|And.intro k<|And.intro b2 Y;clear a5 k b2 Y a8;go_upto_region 7 with fail;obtain⟨d,r⟩:∃d,d=((((((((((G.setCell ⟨b,0,U⟩<|.int .u64 g1.base).setCell ⟨b,1,U⟩<|.int .i64 g1.cap).setCell ⟨b,2,U⟩<|.int .i64 g1.to).setCell ⟨b,3,U⟩<|.bool g1.aa).setCell ⟨b,4,U⟩<|.int .i64 i).setCell ⟨b,5,U⟩<|.slice (J ⟨a,0,U⟩) (I g1.H) N).setCell ⟨b,6,U⟩<|.slice H (I<|Zw g1 1) O).setCell ⟨b,7,U⟩<|.slice K (I<|Zw g1 2) P).setCell ⟨b,8,U⟩<|.slice L (I<|Zw g1 3) Q).setCell ⟨b,9,U⟩<|.slice M (I<|Zw g1 4) R):=⟨_,rfl⟩;rw[<-r];have a9:d.heap[b]?=J (.cells #[.int .u64 g1.base,.int .i64 g1.cap,.int .i64 g1.to,.bool g1.aa,.int .i64 i,.slice (J ⟨a,0,U⟩) (I g1.H) N,.slice H (I<|Zw g1 1) O,.slice K (I<|Zw g1 2) P,.slice L (I<|Zw g1 3) Q,.slice M (I<|Zw g1 4) R] 30 (0,0)):=by rw[r];exact Z8F y.out.2.2.2
 have p:∀c,c≠b->d.heap[c]?=G.heap[c]? :=λc f=>by rw[r];exact JE f
 have c0:xz (xj d)=xz (xj G):=by rw[r];simp[World.setCell]
 have Z:Below 0 G d:=by rw[r];exact TL (Zhw _ _)<|Zjc _
 have a6:G.grownBy d<|J b:=⟨Z.os,Z.tape,Z.output,Z.size,λc _ f=>p c<|λe=>f (by rw[e])⟩;clear r;have l:HOwn (xz<|xj W) d g1 x9:=⟨λj hj=>Xs (y.out.2.1.own j hj) λc f=>p c (by have:=((y.out.2.1.own j hj).lt c f).1;omega),y.out.2.1.apart⟩;have C:=l.own 0 Z0;rw[n.out.2.2.1,show I (Zw g1 0)=(I g1.H) from rfl]at C;obtain⟨z0,b9⟩:∃z0,g1.H[i]?=J z0:=⟨_,Zh8 d0⟩;have ec:d.cell? ⟨a,i,U⟩=J (.int .u64 z0):=by
  rw[C.cellAt i Z0];simp[Yo,Zw,b9]
 have ef:d.frozen? ⟨a,i,U⟩=xw:=C.frozenAt i;have y3:∀j,d.cell? ⟨b,j,U⟩=(#[.int .u64 g1.base,.int .i64 g1.cap,.int .i64 g1.to,.bool g1.aa,.int .i64 i,.slice (J ⟨a,0,U⟩) (I g1.H) N,.slice H (I<|Zw g1 1) O,.slice K (I<|Zw g1 2) P,.slice L (I<|Zw g1 3) Q,.slice M (I<|Zw g1 4) R]:Array Value)[j]? :=λj=>Zhl _ _ _ _ _ _ a9;have e4:((i:Int)< (I g1.H:Int))=True:=Zje Z0;have a7:=Zhf<|And.intro a9<|And.intro p<|And.intro c0<|And.intro a6<|And.intro l C;clear a9 p c0 a6 l C y7 d9 c8 b9;go_upto_region 8 with fail;have b7:a≠b:=Z0;have F:∀c,c≠a->(d.setCell ⟨a,i,U⟩<|.int .u64 v).heap[c]?=d.heap[c]? :=λc f=>Zhv _ _ _ _ f;have c1:xz (xj<|d.setCell ⟨a,i,U⟩<|.int .u64 v)=xz (xj d):=by simp[World.setCell]
 have A:=(F b<|ZiX b7).trans a7.out.1;have b1:=a7.out.2.2.2.2.1.put (j:=0) (i:=i) Z0 n.out.2.2.1 v;have S4:NowI B (d.setCell ⟨a,i,U⟩<|.int .u64 v) b {g1 with H:=g1.H.set i v} x9:=by
  refine⟨HS.out.le,?_,b1.ue c7.out λ_ _ _ _ _=>rfl,λj hj c f=>by have:=((b1.own j hj).lt c f).1;omega⟩;rw[A];unfold YM;rw[n.out.2.2.1,n.out.2.2.2.1,n.out.2.2.2.2.1,n.out.2.2.2.2.2.1,n.out.2.2.2.2.2.2];simp only[d5]
 have G4:W.grownBy (d.setCell ⟨a,i,U⟩<|.int .u64 v)<|J b:=by
  have g2:=V3 y.out.1<|J b;have g3:=Ve g2 a7.out.2.2.2.1;refine⟨g3.os,g3.tape,g3.output,by rw[c1];exact g3.size,λc f hn=> ?_⟩;rw[F c Z0];exact g3.block c f hn
 obtain⟨W4,b5⟩:∃W4,W4=d.setCell ⟨a,i,U⟩ (.int .u64 v):=⟨_,rfl⟩;rw[<-b5]at S4 G4 A⊢;clear b5 F c1 b1;have y4:∀j,W4.cell? ⟨b,j,U⟩=(#[.int .u64 g1.base,.int .i64 g1.cap,.int .i64 g1.to,.bool g1.aa,.int .i64 i,.slice (J ⟨a,0,U⟩) (I g1.H) N,.slice H (I<|Zw g1 1) O,.slice K (I<|Zw g1 2) P,.slice L (I<|Zw g1 3) Q,.slice M (I<|Zw g1 4) R]:Array Value)[j]? :=λj=>Zhl _ _ _ _ _ _ A;have e2:∀j,W4.frozen? ⟨b,j,U⟩=xw:=λj=>YA A;have T:=Zhf<|And.intro S4 G4;clear S4 G4 A ec ef y3;by_cases o:i+1=I g1.H
 .have b0:((i:Int)+1==(I g1.H:Int))=xk:=Zge;have w:=Zhf o;clear o;go_wp2;refine Zi0 (v:=.int .i64 0) ZgK rfl ?_;have he:Yy {g1 with H:=g1.H.set i v,Z:=(i:Int)+1}= {g1 with H:=g1.H.set i v,Z:=(i:Int)+1,aa:=xw,ah:=[],aj:=[]}:=by
   unfold Yy;rw[Zhi (by show(i:Int)+1=(I (g1.H.set i v):Int);rw[Zjt];have:=w.out;omega)]
  rw[he];obtain⟨p1,p2⟩:=qq T.out.1<|(i:Int)+1;obtain⟨p3,p4⟩:=Mv p2;exact⟨rfl,Ve (Ve T.out.2 p1) p3,_,p4⟩
 .have b0:((i:Int)+1==(I g1.H:Int))=xw:=Zge;have w:=Zhf o;clear o;go_wp2;refine Zi0 (v:=.int .i64 0) ZgK rfl ?_;have he:Yy {g1 with H:=g1.H.set i v,Z:=(i:Int)+1}= {g1 with H:=g1.H.set i v,Z:=(i:Int)+1}:=by
   unfold Yy;rw[Zhg (by show ¬(i:Int)+1=(I (g1.H.set i v):Int);rw[Zjt];have:=w.out;omega)]
  rw[he];obtain⟨p1,p2⟩:=qq T.out.1<|(i:Int)+1;exact⟨rfl,Ve T.out.2 p1,_,p2⟩
def Pk{g:Hp}{p:Pts}(r:Rt g p){i:Nat}(B:g.Z=i)(w:XY p.H i=xk){u:Int}(x:g.H[i]?=J u):Gos g p u 1 2\/Gos g p u 3 4:=by
 obtain⟨o,d,z,A⟩:=SY.1 w;obtain⟨a,n,m,f,y,em,l,_,t⟩:=r.toTld.ob (k:=1) Z0 d;have q:o.gone=xw:=(r.am 1 Z0).dk o d;obtain⟨j,h⟩:∃j,i=a+1+j:=⟨i-a-1,Z0⟩;have:=r.ptr 1 Z0 o d q j Z0 u (by rw[f,Zhm,<-h];exact x);unfold Xw at this;rw[Zhg Z0,Zhi ⟨rfl,by rw[f,Zhm,<-h];omega⟩]at this;exact this
def Za7{l:Z6}{i:Nat}{u:Int}(h:l[i]?=J u):l.set i u=l:=by
 apply ZiV;intro j;rw[ZiA];by_cases e:i=j;subst e;rw[Zhi rfl,h,Zhi (Zh9.1 h).1];rw[Zhg e]
def Z13(W:Z3)(B:Nat)(b:Nat)(n:B<=xz (xj W))(g:Hp)(x:Z9)(S:NowI B W b g x)(h:g.ok){p:Pts}(r:Rt g p)(hc:g.aa=xk):
  Calls xP 63 #[.bool<|XY p.H g.Z,.pointer<|J ⟨b,0,U⟩] W (Kg B W b<|scan1 g):=by
 obtain⟨i,a⟩:=Zhp r.ft;have d:i<I g.H:=by have:=r.ku hc;omega
 have w:=r.km;obtain⟨u,j⟩:∃u,g.H[i]?=J u:=⟨_,Zh8 d⟩;have o:(g.H[g.Z.toNat]?).getD 0=u:=by rw[a,Zhm,j];rfl
 cases q:XY p.H g.Z with
 |false=>
  have l:scan1 g=Yy {g with Z:=(i:Int)+1}:=by
   unfold scan1;rw[w,Zhg (by rw[q];simp),a]
  rw[l];exact EH W B b g x S h i a d xw<|.inl rfl
 |true=>
  have l:scan1 g=Yy {(fwd g u).2.1 with H:=(fwd g u).2.1.H.set i (fwd g u).1,Z:=(i:Int)+1}:=by
   unfold scan1;rw[w,Zhi q,o,a,Zhm]
  by_cases k:u=0;subst k;have:scan1 g=Yy {g with Z:=(i:Int)+1}:=by
   rw[l,yr r.be];simp only;rw[Za7 j]
  rw[this];exact EH W B b g x S h i a d xk<|.inr j;obtain⟨v,g1,y,f⟩:=r.toBody.iw r.fu<|Pk r a (by rw[<-a];exact q) j;rw[l,f.fwd];obtain⟨z,t⟩:=f.ext.H;exact Z14 W B b n g x S h i a d j k f.fwd (by rw[t,ZhY];omega) (by rw[f.ext.Z];exact a)
section
def ER{α:Type}(F:Fence)(n:Nat)(P:Z5)(g:Nat)(lb:Ze)(d:α->Array Value)(Kp:World->World->Prop)(o:List α->α->World->Prop)(S:List α->World->Prop)(N:Nat)(k:List α->World->Prop)(w:Z3):Prop:=
 ∀(l:Nat) (p h:List α->World->Prop) (W:Z3),Below (xz<|xj w) w W->(∀pre W,p pre W->k pre W)->AbidesFrom (xz<|xj W) p->AbidesFrom (xz<|xj W) h->
  (∀pre x f,p pre f->o pre x f->I pre<N->YieldAt F (n-1) P l (d x) f λe a=>
   (e=.returned (.bool xk)/\p (pre++[x]) a/\Kp f a)\/(e=.returned (.bool xw)/\h (pre++[x]) a))->
  p [] W->
  CallsIn F n P g (#[.func (.yield l) #[] #[]]++lb) W λe a=>(∃v,e=.returned v)/\((∃j,S j a/\p j a)\/(∃pre,h pre a))
variable {F:Fence}{n:Nat}{P:Z5}
def Zbx{α:Type}{g:Operand}{ps:Array Tmp}{assign body:Code}{Q:Zk}{a:Act}{w:Z3}
  (d6:F.round=U) (h1:1<=n) {gf:Nat} {lb:Ze} (hg:a.eval g=.func (.func gf) #[] lb) (b3:F.fn gf) (eg:∀args w,(callFunc gf args).run P w=.ok (.enter gf args) w)
  {M:α->Array Value} {Kp:World->World->Prop} {Px:List α->α->World->Prop} {S:List α->World->Prop} {N:Nat} {Ex:List α->World->Prop} {w0:Z3} (b1:ER F (n-1) P gf lb M Kp Px S N Ex w0)
  (a5:∀ {A B C:Z3},Kp A B->Kp B C->Kp A C) (a4:∀(W:Z3) (l:Nat) (o o':Obj),xz (xj w)<=l->W.heap[l]?=J o->o.isCells=xw->o.isWalk=xw->Kp W (W.putObj l o')) (a6:Below (xz<|xj w0) w0 w) (d0:∀x,(M x).size=ps.size)
  (I:List α->World->Prop) (Ix:Code->List α->World->Prop) (hI:OwnFrom (xz<|xj w) I) (b2:∀pre W,I pre W->Ex pre W) (X:∀c,OwnFrom (xz<|xj w)<|Ix c) (b7:∀pre x,OwnFrom (xz<|xj w)<|λ(_:Unit) W=>Px pre x W) (hS:OwnFrom (xz<|xj w) S) (h0:I [] w) (a₁:α->Act)
  (Y:∀(l:Nat) (x:α) (W:Z3) (K:Act->World->Prop),K (a₁ x) W->
   assign.wpIn (F.inRound l) (n-1-1) P (Exit.then K<|λ_ _ _=>False) {tmps:=(ps.zip<|M x).foldl (λt (p,v)=>t.setIfInBounds p v) a.tmps,defers:=[]} W)
  (a0:∀(l:Nat) (pre:List α) (x:α) (W:Z3),I pre W->Px pre x W->xq pre<N->body.wpIn (F.inRound l) (n-1-1) P (ownPostG (xz<|xj w) Kp I Ix (pre++[x]) W) (a₁ x) W)
  (a1:∀(D:Nat) (xs:List α) (W:Z3),xz (xj w)<=D->S xs W->I xs W->W.heap[D]?=J (.deferred<|J [])->Q .normal {a with defers:= {target:=.collected D,args:=#[]}::a.defers} W)
  (a2:∀(D:Nat) (c:Code) (pre:List α) (W:Z3),xz (xj w)<=D->Ix c pre W->W.heap[D]?=J (.deferred<|J [])->c.wpIn F n P Q {a with defers:= {target:=.collected D,args:=#[]}::a.defers} W):
  (Code.rangeFunc g ps assign body).wpIn F n P Q a w:=by
 refine wpIn_rangeFunc λfn c0=> ?_;rw[d6];obtain⟨f,j⟩:∃f:LoopState->Option Code->Loop,f=λst pe=> {state:=st,pending:=pe,fn,tmps:=a.tmps,params:=ps,assign,body,defers:=xz (xj w)}:=⟨_,rfl⟩;obtain⟨T,O⟩:∃T,(w.alloc<|.deferred<|J []).alloc (.loop<|f .ready U)=T:=⟨_,rfl⟩;have b6:T.heap[xz (xj w)+1]?=J (.loop<|f .ready U):=by
  have:=Zim (w.alloc<|.deferred<|J [])<|.loop<|f .ready U;rw[ZjA]at this;rw[<-O];exact this
 have b5:T.heap[xz<|xj w]?=J (.deferred<|J []):=by
  rw[<-O];exact(Zht _ _ _ Z1).trans (Zim w _)
 have b4:I [] T:=by rw[<-O];exact hI.alloc _<|hI.alloc _ h0
 have b9:Below (xz<|xj w0) w0 T:=by
  rw[<-O];exact a6.trans<|(((Zhw _ w).alloc (Zhc _) _).alloc Z1 _).mono a6.size
 refine⟨xz (xj w)+1,[{target:=.collected<|xz<|xj w,args:=#[]}],T,{target:=.fn (.func gf) lb,args:=#[.func (.yield<|xz (xj w)+1) #[] #[]]},T,gf,
  #[.func (.yield<|xz (xj w)+1) #[] #[]]++lb,T,?_,?_,?_,?_,λ_=>h1,?_⟩
 rw[<-O,j];exact run_enterLoop_outer _ _ _ _ _
 .simp only[resolve,hg];simp[go_sem]
 intro f' a7;simp[Target.leads]at a7;subst a7;exact b3
 .simp[invoke,go_sem,eg]
 have b0:∀ {A B:Z3} {row:Zt},(∀r,row=J r->xz (xj T)<=r/\∃o:Obj,A.heap[r]?=J o/\o.isWalk=xk)->(∀r,row=J r->xz (xj w)<=r/\∃o:Obj,A.heap[r]?=J o/\o.isCells=xw):=
  λu r e=>by obtain⟨hB,o,ho,hw⟩:=u r e;exact⟨by rw[<-O]at hB;simp at hB;omega,o,ho,Obj.not_cells_of_walk hw⟩
 refine(b1 (xz (xj w)+1)
  (λpre W=>I pre W/\W.heap[xz (xj w)+1]?=J (.loop<|f .ready U)/\W.heap[xz<|xj w]?=J (.deferred<|J []))
  (λpre W=>∃c,Ix c pre W/\W.heap[xz (xj w)+1]?=J (.loop<|f .done<|J c)/\W.heap[xz<|xj w]?=J (.deferred<|J []))
  T b9 (λpre W h=>b2 pre W h.1)
  (λs A B row hs z u=>⟨hI s A B row hs.1 z<|b0 (B:=B) u,(ZkW z (λr e=>(u r e).2) hs.2.1 rfl).trans hs.2.1,(ZkW z (λr e=>(u r e).2) hs.2.2 rfl).trans hs.2.2⟩)
  (λs A B row hs z u=>by
   obtain⟨c,hc,y,Z⟩:=hs;exact⟨c,X c s A B row hc z<|b0 (B:=B) u,(ZkW z (λr e=>(u r e).2) y rfl).trans y,(ZkW z (λr e=>(u r e).2) Z rfl).trans Z⟩)
  ?_ ⟨b4,b6,b5⟩).mono ?_
 rintro pre x W ⟨hi,y,Z⟩ d5 a9;have c8:xz (xj w)+1<xz (xj W):=(Zhe.1 y).1;have hy:=run_yield (P:=P) (args:=M x) y (by rw[j];exact d0 x);rw[j]at hy;refine⟨fn,_,assign,body,hy,roundIn_of_wpIn c0<|Y _ x W _ ⟨_,run_beginRound y (by rw[j]),?_⟩⟩;have c7:(W.putObj (xz (xj w)+1)<|.loop {f .ready U with state:=.busy}).heap[xz (xj w)+1]?=J (.loop {f .ready U with state:=.busy}):=ZjF c8;have c1:(W.putObj (xz (xj w)+1)<|.loop {f .ready U with state:=.busy}).heap[xz<|xj w]?=J (.deferred<|J []):=(ZhR Z0).trans Z;have d7:Kp W<|W.putObj (xz (xj w)+1)<|.loop {f .ready U with state:=.busy}:=a4 _ _ _ _ Z0 y rfl rfl;refine wpIn_mono (a0 _ pre x _ (hI.putObj _ hi Z0 y rfl) ((b7 pre x).putObj (s:=()) _ d5 Z0 y rfl) a9) ?_
 have fin:∀(d:Option Code) (R:Z3),KeepsFrom (xz<|xj w) (W.putObj (xz (xj w)+1)<|.loop {f .ready U with state:=.busy}) R->
   (Instr.endRound (xz (xj w)+1) d).run P R=.ok (.bool d.isNone) (R.putObj (xz (xj w)+1)<|.loop<|f (if d.isNone then .ready else .done) d)/\
   R.heap[xz (xj w)+1]?=J (.loop {f .ready U with state:=.busy})/\
   (R.putObj (xz (xj w)+1)<|.loop<|f (if d.isNone then .ready else .done) d).heap[xz (xj w)+1]?=J (.loop<|f (if d.isNone then .ready else .done) d)/\
   (R.putObj (xz (xj w)+1)<|.loop<|f (if d.isNone then .ready else .done) d).heap[xz<|xj w]?=J (.deferred<|J []):=λd R q=>by
  have k:=q.same _ _ Z0 c7 rfl;have:=run_endRound (P:=P) d k;rw[j]at this⊢;exact⟨this,by rw[j]at k;exact k,ZjF (Zhe.1 k).1,(ZhR Z0).trans<|q.same _ _ (Zhc _) c1 rfl⟩
 rintro e a3 R hp;cases e with
 |normal=>
  obtain⟨q,a8,G⟩:=hp;obtain⟨u,k,L,H⟩:=fin U R q;exact⟨_,_,u,.inl ⟨rfl,⟨hI.putObj _ G Z0 k rfl,L,H⟩,a5 (a5 d7 a8)<|a4 _ _ _ _ Z0 k rfl rfl⟩⟩
 |ret=>
  obtain⟨q,G⟩:=hp;obtain⟨u,k,L,H⟩:=fin (J .ret) R q;exact⟨_,_,u,.inr ⟨rfl,.ret,(X _).putObj _ G Z0 k rfl,L,H⟩⟩
 |exit id=>
  obtain⟨q,G⟩:=hp;obtain⟨u,k,L,H⟩:=fin (J<|.exit id) R q;exact⟨_,_,u,.inr ⟨rfl,.exit id,(X _).putObj _ G Z0 k rfl,L,H⟩⟩
 |goto t=>
  obtain⟨q,G⟩:=hp;obtain⟨u,k,L,H⟩:=fin (J<|.goto t) R q;exact⟨_,_,u,.inr ⟨rfl,.goto t,(X _).putObj _ G Z0 k rfl,L,H⟩⟩
 |panic ch=>exact hp.elim
 |outgrown=>exact hp.elim
 rintro e W2 ⟨⟨v,rfl⟩,(⟨xs,b8,hi,y,Z⟩|⟨pre,c,hi,y,Z⟩)⟩;exact⟨U,_,by have:=run_endLoop (P:=P) y (by rw[j];simp);rw[j]at this;exact this,a1 _ xs _ (Zhc _) (hS.putObj _ b8 Z0 y rfl) (hI.putObj _ hi Z0 y rfl)<|(ZhR Z0).trans Z⟩;exact⟨J c,_,by have:=run_endLoop (P:=P) y (by rw[j];simp);rw[j]at this;exact this,a2 _ c pre _ (Zhc _) ((X c).putObj _ hi Z0 y rfl)<|(ZhR Z0).trans Z⟩
end
def Z8S{W:Z3}{G G':Z4}{l j:Z6}{y:Zg}(h:Rd W G (.sl<|l.map vu) y)(h':Rd W G' (.sl<|j.map vu) y):l=j:=by
 obtain⟨a,c,e⟩:=Rd.dz h;obtain⟨x,A,n⟩:=Rd.dz h';have C:I l=I j:=by rw[e]at n;simp at n;exact n.2.1
 apply ZiV;intro k;cases p:l[k]? with
 |none=>rw[ZiY]at p;rw[ZhP Z0]
 |some u=>
  have B:=(Zh9.1 p).1;obtain⟨r,g⟩:∃r,j[k]?=J r:=⟨_,Zh8 Z0⟩;obtain⟨b,o,cap,w,t,_⟩:=LM h p;obtain⟨z,D,q,d,f,_⟩:=LM h' g;rw[w]at d;simp at d;obtain⟨⟨rfl,rfl⟩,_,_⟩:=d;rw[t]at f;cases f;exact g.symm
def NowI.ed{B:Nat}{W d:Z3}{b:Nat}{g:Hp}{x:Z9}{row:Zt}(S:NowI B W b g x)(k:W.grownBy d row)(n:∀r,row=J r->∃o:Obj,W.heap[r]?=J o/\o.isCells=xw):NowI B d b g x:=by
 have q:∀(c:Nat) a T f,W.heap[c]?=J (Obj.cells a T f)->d.heap[c]?=W.heap[c]? :=λc a T f h=>k.block c (Y2 h) λe=>by
  obtain⟨o,j,l⟩:=n c e.symm;rw[h]at j;cases j;cases l
 exact⟨S.le,(q _ _ _ _ S.nb).trans S.nb,S.own.to (Zhc _) (λ_ _=>.inl ⟨rfl,rfl⟩) λ_ _ c _ _ a T f h=>q c a T f h,S.aj⟩
def NowI.et{B B':Nat}{W:Z3}{b:Nat}{g g':Hp}{x h:Z9}(S:NowI B W b g x)(a:NowI B' W b g' h):g'=g:=by
 have e:=S.nb.symm.trans a.nb;unfold YM at e;simp at e;obtain⟨n,o,p,r,t,u,w,y,z,A⟩:=e;have q:∀j,j<5->Zw g' j=Zw g j:=λj f=>by
  have d:=S.rd j f;have l:=a.rd j f;have k:x j=h j:=by
   have:j=0\/j=1\/j=2\/j=3\/j=4:=Z0;obtain rfl|rfl|rfl|rfl|rfl:=this<;>assumption
  rw[k]at d;exact Z8S l d
 have C:=q 0 Z0;have D:=q 1 Z0;have F:=q 2 Z0;have G:=q 3 Z0;have H:=q 4 Z0;cases g;cases g';simp[Zw]at*;simp_all
def InBox(B:Nat)(b:Nat)(p:Pts)(W:Z3):Prop:=∃g x,NowI B W b g x/\g.ok/\Rt g p
def InBox.ed{B:Nat}{W a:Z3}{b:Nat}{p:Pts}{row:Zt}(S:InBox B b p W)(j:W.grownBy a row)(k:∀r,row=J r->∃o:Obj,W.heap[r]?=J o/\o.isCells=xw):InBox B b p a:=by
 obtain⟨g,x,d,f,h⟩:=S;exact⟨g,x,d.ed j k,f,h⟩
def InBox.H{B B':Nat}{W:Z3}{b:Nat}{p f:Pts}(S:InBox B b p W)(h:InBox B' b f W):f.H=p.H:=by
 obtain⟨g,x,j,o,l⟩:=S;obtain⟨n,q,a,k,d⟩:=h;have:=j.et a;subst this;exact Tiles.np (l.am 1 Z0)<|d.am 1 Z0
structure KpN (B:Nat) (b kb:Nat) (A C:World):Prop where
 size:xz (xj A)<=xz (xj C)
 same:∀(c:Nat) (o:Obj),A.heap[c]?=J o->o.isCells=xk->c≠b->c≠kb->C.heap[c]?=J o
 H:∀p,InBox B b p A->∃q r,InBox B b q C/\q.H=p.H++r
theorem KpN.trans{B:Nat}{b kb:Nat}{X Y Z:Z3}(h:KpN B b kb X Y)(k:KpN B b kb Y Z):KpN B b kb X Z:=
 ⟨ZhD h.size k.size,λc o d a f g=>k.same c o (h.same c o d a f g) a f g,λp j=>by
  obtain⟨q,r,d,a⟩:=h.H p j;obtain⟨s,t,k1,l⟩:=k.H q d;exact⟨s,r++t,k1,by rw[l,a,ZhW]⟩⟩
theorem KpN.put{B:Nat}{b kb:Nat}{W:Z3}{l:Nat}{o:Obj}(j:Obj)(g:W.heap[l]?=J o)(h:o.isCells=xw):KpN B b kb W<|W.putObj l j:=by
 have f:=Zk0 W l j;have n:∀r,J l=J r->∃o:Obj,W.heap[r]?=J o/\o.isCells=xw:=λr e=>by cases e;exact⟨o,g,h⟩
 refine⟨f.size,λc q a d _ _=>(ZhR<|λe=> ?_).trans a,λp k=>⟨p,[],k.ed f n,Z1⟩⟩;subst e;rw[g]at a;cases a;rw[h]at d;cases d
def Z5B{ws:Z6}{l:Zi}(t:Tiles ws xw 0 l){o:Ob}(a:o∈l){i:Int}(g:o.Y<=i)(h2:i<=o.Y+o.size):XY l i=(decide (o.Y<i)&&decide (i<=o.Y+o.M)):=by
 rw[Zkv,SY];simp only[Zhb,ZhG];constructor;rintro⟨x,d,k1,f⟩;have j:=YN.1 (t.bd x d).1.shape;obtain e|e|e:=t.apart x d o a;subst e;exact⟨k1,f⟩;omega;omega;exactλh=>⟨o,a,h⟩
def By(x:Nat×Bool):Array Value:=#[.int .i64 (x.1:Nat),.bool x.2]
def EM(B:Nat)(b:Nat)(pre:List<|Nat×Bool)(x:Nat×Bool)(W:Z3):Prop:=∃p,InBox B b p W/\x=(I pre,XY p.H<|I pre)
def SN(B:Nat)(b:Nat)(xs:List<|Nat×Bool)(W:Z3):Prop:=∃g x,NowI B W b g x/\I g.H<=I xs
structure KnI (B:Nat) (b bk:Nat) (q:Pts) (W:World):Prop where
 bx:W.heap[bk]?=J (.cells #[.pointer<|J ⟨b,0,U⟩] 147 (0,0))
 ou:InBox B b q W
def KnI.grown{B:Nat}{b bk:Nat}{q:Pts}{W a:Z3}(h:KnI B b bk q W)(d:W.grownBy a U):KnI B b bk q a:=
 ⟨(d.block _ (Y2 h.bx) Z1).trans h.bx,h.ou.ed d<|λr e=>by cases e⟩
end Vm
end
section
namespace Vm
open Go Go.Proofs Go.RowKit Go.Shelf
def Z5I(n:Nat){w:Z3}{B:Nat}{b bk kb:Nat}{p0:Pts}(hI:KnI B b bk p0 w)(a7:bk≠b)(K:bk≠kb)(hb:b<xz (xj w))(f4:kb<xz (xj w)):
  ER Fence.wide n xP 84 #[.pointer<|J ⟨bk,0,U⟩] By (KpN B b kb) (EM B b) (SN B b) 1000001 (λ_ _=>True) w:=by
 intro l h Jx W hW _ hJ f2 hY h0;refine callsIn_of_wp Fc rfl trivial ?_ rfl;simp only[Tryz.ntmps84,ZiF,Zip,ZiI,Nat.reduceAdd,Nat.reduceSub,Zj1,Zj2,Zju,Zj9,Zi8,Zix];have d8:=Zhf<|hI.grown<|V3 hW U;have f1:=hW.size;have d9:=Zhf h0;have e6:∀ {A:Z3},xz (xj w)<=xz (xj A)->xz (xj A)≠b/\xz (xj A)≠kb:=λh=>⟨Z0,Z0⟩;clear h0;gi_wp2
 gi_loopw [3] (λp wr=>∃(a:Nat),p=.int .i64 a/\Hid (∃(pre:List<|Nat×Bool) (q:Pts) (n:Nat),h pre wr/\KnI B b bk q wr/\xz (xj W)<=xz (xj wr)/\n<=I q.H/\a=UJ (q.H.take n)/\I pre=a))
  (λp _=>1000001- (intOf p).toNat)
 case atStart=>exact⟨0,rfl,Zhf ⟨[],p0,0,d9.out,d8.out,Zhc _,Z0,rfl,rfl⟩⟩
 case round=>
  obtain⟨a,rfl,HI⟩:=hrel;obtain⟨pre,q,n1,X,Y,b8,e7,a6,b7⟩:=HI.out;obtain⟨g,x,S,b2,r⟩:=Y.ou;obtain⟨sa,sc,a4⟩:=Rd.dz<|S.rd 0 Z0;rw[ZhM,show I (Zw g 0)=(I g.H) from rfl]at a4;have N:=S.nb;unfold YM at N;rw[a4]at N;have y0:wr.cell? ⟨bk,0,U⟩=J (.pointer<|J ⟨b,0,U⟩):=by rw[Zhl _ _ _ _ _ _ Y.bx];rfl
  have yb:∀j,wr.cell? ⟨b,j,U⟩=(#[.int .u64 g.base,.int .i64 g.cap,.int .i64 g.to,.bool g.aa,.int .i64 g.Z,.slice sa (I g.H) sc,x 1,x 2,x 3,x 4]:Array Value)[j]? :=λj=>Zhl _ _ _ _ _ _ N;have t1:=r.am 1 Z0;simp only[WD,Pts.sg]at t1;have b5:=b2.H;have c8:=t1.sum<|Zjc _;by_cases f5:a<I g.H
  .have b6:((a:Int)< (I g.H:Int))=True:=Zje Z0;obtain⟨o,ho⟩:∃o,q.H[n1]?=J o:=by
    refine⟨_,Zh8<|Nat.lt_of_le_of_ne e7 λe=> ?_⟩;rw[e,Ziy]at a6;omega
   have a0:=t1.place ho;rw[ZhZ,<-a6]at a0;have a1:=Zhh ho;have a3:=(t1.bd o a1).1;have c0:=YN.1 a3.shape;have M:=t1.dk o a1;have L:=a3.an;obtain⟨u,hu,P⟩:=a3.word;rw[M,Zhg Z1]at P;replace P:=P.2.1;rw[a0,Zhm]at hu;have d5:=b2.gq u<|Zhh hu;obtain⟨gb,go,cap,a5,e1,e2⟩:=LM (S.rd 0 Z0) hu;rw[a4]at a5;rw[show I (Zw g 0)=(I g.H) from rfl]at a5;simp only[Zkd,true_and]at a5;obtain⟨rfl,rfl⟩:=a5;have O:=JT d5;rw[P]at O;obtain⟨m,hm⟩:∃m:Nat,o.size=m:=⟨o.size.toNat,Z0⟩;obtain⟨pt,a8⟩:∃pt:Nat,o.M=pt:=⟨o.M.toNat,Z0⟩;rw[hm]at O L c0;rw[a8]at O c0;have e0:=Zhf O;have HO:=Zhf<|And.intro a1<|And.intro a0<|And.intro hm<|And.intro a8<|And.intro t1<|And.intro ho<|And.intro b7 b8;have b0:=Zhf L;have b1:=Zhf<|And.intro X Y;have d7:=Zhf b5;have q1:IntKind.i64.wrap ((m:Int)+1)=((m+1:Nat):Int):=Zgq;clear O N t1 a1 a0 P hu d5 a4 e2 hm a8 L ho a3 M a6 c8 S r X Y b7 b8 b5;gi_wp2
   refine⟨trivial,λh=>Zgt,(Zjj.2<|e0.out _).mono ?_⟩;rintro e w1 ⟨rfl,b3⟩;have a9:=Zhf b3;clear b3;gi_wp2
   have f7:=a9.out.size;have Z:wr.grownBy (w1.alloc<|.cells #[.int .i64 m,.int .i64 pt] 69) U:=Ve (V3 a9.out U)<|Ziu _ _ _;have HA:=Zhf<|And.intro (hJ _ _ _ _ b1.out.1 Z<|λr e=>by cases e)<|And.intro (b1.out.2.grown Z)<|And.intro (ZhB w1<|.cells #[.int .i64 m,.int .i64 pt] 69) Z.size;have hT:xz (xj W)<=xz (xj w1):=by have:=HO.out.2.2.2.2.2.2.2;omega
   have C:=e6 (A:=w1) Z0;have f3:xz (xj W)<=xz (xj<|w1.alloc<|.cells #[.int .i64 m,.int .i64 pt] 69):=Zge;clear Z;generalize f6:w1.alloc (.cells #[.int .i64 m,.int .i64 pt] 69)=w2 at*;have d6:=b0.out;have f0:=d7.out;gi_loopw [30] (λiv wi=>∃i:Nat,iv=.int .i64 i/\Hid (∃(f:List<|Nat×Bool) (Q:Pts) (r':Zi),h f wi/\KnI B b bk Q wi/\xz (xj w2)<=xz (xj wi)/\Q.H=q.H++r'/\I f=a+i/\i<=m+1/\wi.heap[xz<|xj w1]?=J (.cells #[.int .i64 m,.int .i64 pt] 69 (0,0)))) (λiv _=>m+1- (intOf iv).toNat)
   case atStart=>exact⟨0,rfl,Zhf ⟨pre,q,[],HA.out.1,HA.out.2.1,Zhc _,Z1,by have:=HO.out.2.2.2.2.2.2.1;omega,Z0,HA.out.2.2.1⟩⟩
   case round=>
    obtain⟨i,rfl,HJ⟩:=hrel;obtain⟨f,Q,r',H,z,b9,F,a2,e3,D⟩:=HJ.out;have d0:wr.cell? ⟨xz<|xj w1,0,U⟩=J (.int .i64 m):=by rw[Zhl _ _ _ _ _ _ D];rfl
    have d1:wr.cell? ⟨xz<|xj w1,1,U⟩=J (.int .i64 pt):=by rw[Zhl _ _ _ _ _ _ D];rfl
    by_cases e5:i=m+1
    .subst e5;have e4:(((m+1:Nat):Int)< (m:Int)+1)=False:=ZiM Z0;have q2:IntKind.i64.wrap ((a:Int)+((m:Int)+1))=((a+(m+1):Nat):Int):=Zgq;clear z D H;gi_wp2
     obtain⟨k1,k2,k3,k4,k5,k6,k7⟩:=HO.out;obtain⟨f,Q,r',H,z,b9,F,a2,e3,D⟩:=HJ.out;have b4:n1+1<=I q.H:=by have:=(Zh9.1 k6).1;omega
     refine⟨⟨a+(m+1),Z1,Zhf ⟨f,Q,n1+1,H,z,Z0,by rw[F,ZhY];omega,?_,Z0⟩⟩,by simp[intOf];omega⟩;rw[F,Zko b4,ZaV k6,k3];have:=k5.place k6;omega
    .have e4:((i:Int)< (m:Int)+1)=True:=Zje Z0;obtain⟨k1,k2,k3,k4,k5,k6,k7,k8⟩:=HO.out;have hx:EM B b f (a+i,XY Q.H ((a+i:Nat):Int)) wr:=⟨Q,z.ou,by rw[a2]⟩;obtain⟨fn,e9,assign,e8,hy,hR⟩:=hY f _ wr H hx Z0;have hq:XY Q.H ((a+i:Nat):Int)=(decide (0<i)&&decide (i<=pt)):=by
      obtain⟨g',x',_,_,r2⟩:=z.ou;have t2:=r2.am 1 Z0;simp only[WD,Pts.sg]at t2;rw[Z5B t2 (o:=o) (by rw[F];exact Zij _ k1) Z0 Z0,k2,k4];congr 1;exact decide_eq_decide.2 Z0;exact decide_eq_decide.2 Z0
     unfold By at hy;simp only[hq]at hy;have HQ:=Zhf<|And.intro hq<|And.intro hR<|And.intro b9<|And.intro F<|And.intro a2<|And.intro D z;have q2:IntKind.i64.wrap ((a:Int)+(i:Int))=((a+i:Nat):Int):=Zgq;have q3:IntKind.i64.wrap ((i:Int)+1)=((i+1:Nat):Int):=Zgq;clear hx H z hq hR D k1 k2 k3 k4 k5 k6 k7 k8 F a2;have h3:(i=0/\(0<i)=False)\/(((0:Int)< (i:Int))=True/\(0<i)=True/\((i:Int)<=(pt:Int))=True/\(i<=pt)=True)\/(((0:Int)< (i:Int))=True/\(0<i)=True/\((i:Int)<=(pt:Int))=False/\(i<=pt)=False):=by
      by_cases h0:i=0;exact .inl ⟨h0,ZiM Z0⟩;by_cases h1:i<=pt;exact .inr<|.inl ⟨Zje Z0,Zje Z0,Zje Z0,Zje h1⟩;exact .inr<|.inr ⟨Zje Z0,Zje Z0,ZiM Z0,ZiM h1⟩
     obtain⟨h0,h1⟩|⟨h0,h1,h2,h3⟩|⟨h0,h1,h2,h3⟩:=h3
     .subst h0;simp only[h1,Zln,ZkL,Zlo,ZjN,Zkg,Zkh,ZiS,Zl8]at hy;gi_wp2
      refine⟨λh=>Zgt,HQ.out.2.1.mono ?_⟩;rintro e W3 (⟨rfl,t,y⟩|⟨rfl,k⟩)
      .have d:=Zhf<|And.intro t y;clear t y;gi_wp2
       obtain⟨c1,c2,c3,c4,c5,c6,c7⟩:=HQ.out;obtain⟨R,T,i1,i2⟩:=d.out.2.H Q c7.ou;refine⟨⟨1,Z1,Zhf ⟨f++[_],R,r'++T,d.out.1,⟨d.out.2.same _ _ c7.bx rfl a7 K,i1⟩,ZhD c3 d.out.2.size,by rw[i2,c4,ZhW],by simp<;>omega,Z0,d.out.2.same _ _ c6 rfl C.1 C.2⟩⟩,by simp[intOf]<;>omega⟩
      .have G:=Zhf k;clear k;gi_wp2
       refine Zi0 (ZkH rfl _ _ _) rfl ?_;exact⟨⟨_,rfl⟩,.inr ⟨_,G.out⟩⟩
     .simp only[h1,h3,Zln,ZkL,Zlo,ZjN,Zkg,Zkh,ZiS,Zl8]at hy;gi_wp2
      refine⟨λh=>Zgt,HQ.out.2.1.mono ?_⟩;rintro e W3 (⟨rfl,t,y⟩|⟨rfl,k⟩)
      .have d:=Zhf<|And.intro t y;clear t y;gi_wp2
       obtain⟨c1,c2,c3,c4,c5,c6,c7⟩:=HQ.out;obtain⟨R,T,i1,i2⟩:=d.out.2.H Q c7.ou;refine⟨⟨i+1,Z1,Zhf ⟨f++[_],R,r'++T,d.out.1,⟨d.out.2.same _ _ c7.bx rfl a7 K,i1⟩,ZhD c3 d.out.2.size,by rw[i2,c4,ZhW],by simp<;>omega,Z0,d.out.2.same _ _ c6 rfl C.1 C.2⟩⟩,by simp[intOf];omega⟩
      .have G:=Zhf k;clear k;gi_wp2
       refine Zi0 (ZkH rfl _ _ _) rfl ?_;exact⟨⟨_,rfl⟩,.inr ⟨_,G.out⟩⟩
     .simp only[h1,h3,Zln,ZkL,Zlo,ZjN,Zkg,Zkh,ZiS,Zl8]at hy;gi_wp2
      refine⟨λh=>Zgt,HQ.out.2.1.mono ?_⟩;rintro e W3 (⟨rfl,t,y⟩|⟨rfl,k⟩)
      .have d:=Zhf<|And.intro t y;clear t y;gi_wp2
       obtain⟨c1,c2,c3,c4,c5,c6,c7⟩:=HQ.out;obtain⟨R,T,i1,i2⟩:=d.out.2.H Q c7.ou;refine⟨⟨i+1,Z1,Zhf ⟨f++[_],R,r'++T,d.out.1,⟨d.out.2.same _ _ c7.bx rfl a7 K,i1⟩,ZhD c3 d.out.2.size,by rw[i2,c4,ZhW],by simp<;>omega,Z0,d.out.2.same _ _ c6 rfl C.1 C.2⟩⟩,by simp[intOf];omega⟩
      .have G:=Zhf k;clear k;gi_wp2
       refine Zi0 (ZkH rfl _ _ _) rfl ?_;exact⟨⟨_,rfl⟩,.inr ⟨_,G.out⟩⟩
  .have b6:((a:Int)< (I g.H:Int))=False:=ZiM Z0;have HE:Hid<|h pre wr/\SN B b pre wr:=Zhf ⟨X,g,x,S,Z0⟩;clear N X S;gi_wp2
   go_end0
   exact⟨⟨_,rfl⟩,.inl ⟨pre,HE.out.2,HE.out.1⟩⟩
end Vm
end
section
namespace Vm
open Go Go.Proofs Go.RowKit
structure OwR (w:World) (h:Hp) (src x:Nat->Value) (n:Nat) (W:World):Prop where
 dm:Below (xz<|xj w) w W
 box:W.heap[xz<|xj w]?=J (.cells (YM h x) 30 (0,0))
 fq:W.heap[xz (xj w)+1]?=J (.cells Y9 30 (0,0))
 own:∀j,j<n->W.ownsRow (xz (xj w)+2) 24 1 (x j) (I<|Zw h j) (Yo .u64<|Zw h j)
 apart:∀i j,i<j->j<n->∀c,(x i).ownBlock=J c->(x j).ownBlock≠J c
def OwR.call{w:Z3}{h:Hp}{a x:Z9}{n:Nat}{W f:Z3}(o:OwR w h a x n W)(d:Below (xz<|xj W) W f):OwR w h a x n f:=
 ⟨o.dm.trans<|d.mono o.dm.size,(d.block _<|Y2 o.box).trans o.box,(d.block _<|Y2 o.fq).trans o.fq,λj g=>Xs (o.own j g) λc k=>d.block c ((o.own j g).lt c k).2,o.apart⟩
def OwR.drew{w:Z3}{h:Hp}{a x:Z9}{n:Nat}{W:Z3}(o:OwR w h a x n W):OwR w h a x n W.drew:=
 ⟨o.dm.drew,o.box,o.fq,λj d=>Xs (o.own j d) λc f=>rfl,o.apart⟩
theorem OwR.put{w:Z3}{h:Hp}{g x:Z9}{n B:Nat}{W:Z3}(o:OwR w h g x n W)(z:n<5){v:Zg}(l:W.ownsRow B 24 1 v (I<|Zw h n)<|Yo .u64<|Zw h n)(y:xz (xj w)+2<=B)(r:∀j,j<n->∀c,(x j).ownBlock=J c->c<B):
  OwR w h g (λj=>if j=n then v else x j) (n+1) (W.setCell ⟨xz<|xj w,5+n,U⟩ v):=by
 have f:∀c,c≠xz (xj w)->(W.setCell ⟨xz<|xj w,5+n,U⟩ v).heap[c]?=W.heap[c]? :=λc a=>Zhv _ _ _ _ a;refine⟨o.dm.setCell (Zhc _) _,?_,(f _ Z0).trans o.fq,λj u=> ?_,λi j k u c a d=> ?_⟩;have t:=o.box;have:n=0\/n=1\/n=2\/n=3\/n=4:=Z0;obtain rfl|rfl|rfl|rfl|rfl:=this<;>simp[World.setCell,ZhT,t,YM];by_cases e:j=n;subst e;rw[Zhi rfl];exact qH (Xs l λc a=>f c (by have:=(l.lt c a).1;omega)) λc q p=>⟨Z0,p⟩;rw[Zhg e];have:=o.own j Z0;exact Xs this λc a=>f c (by have:=(this.lt c a).1;omega);rw[Zhg Z0]at a;by_cases e:j=n;rw[Zhi e]at d;have q:=(l.lt c d).1;have p:=r i Z0 c a;omega;rw[Zhg e]at d;exact o.apart i j k Z0 c a d
def OwR.cw{w:Z3}{h:Hp}{g x:Z9}{n:Nat}{W f k:Z3}(o:OwR w h g x n W)(u:n+1<5){v0 v1:Zg}(p:Below (xz<|xj W) W f)(l:f.ownsRow (xz<|xj W) 24 1 v0 (I<|Zw h n)<|Yo .u64<|Zw h n)
  (h2:Below (xz<|xj f) f k) (r:k.ownsRow (xz<|xj f) 24 1 v1 (I<|Zw h<|n+1)<|Yo .u64<|Zw h<|n+1):
  OwR w h g (λj=>if j=n+1 then v1 else if j=n then v0 else x j) (n+2) ((k.setCell ⟨xz<|xj w,5+n,U⟩ v0).setCell ⟨xz<|xj w,5+(n+1),U⟩ v1):=by
 have y:=Y2 o.fq;have t:=p.size;have a:=((o.call p).call h2).put Z0 (Xs l λc d=>h2.block c (l.lt c d).2) Z0 λj q c d=>((o.own j q).lt c d).2;refine a.put Z0 (Xs r λc d=>Zhv _ _ _ _ (by have:=(r.lt c d).1;show c≠xz (xj w);omega)) Z0 λj q c d=> ?_;by_cases e:j=n;rw[Zhi e]at d;exact(l.lt c d).2;rw[Zhg e]at d;have:=((o.own j Z0).lt c d).2;omega
def OwR.F{w:Z3}{h:Hp}{a x:Z9}{n:Nat}{W:Z3}(o:OwR w h a x n W):(∀j,W.cell? ⟨xz<|xj w,j,U⟩=(#[.int .u64 h.base,.int .i64 h.cap,.int .i64 h.to,.bool h.aa,.int .i64 h.Z,x 0,x 1,x 2,x 3,x 4]:Array Value)[j]?)/\∀j,W.frozen? ⟨xz<|xj w,j,U⟩=xw:=
 ⟨λj=>Zhl _ _ _ _ _ _ o.box,λj=>YA o.box⟩
def OwR.start(w:Z3)(h:Hp)(a:Z9):∃d,(w.alloc<|.cells (YM h a) 30).alloc (.cells Y9 30)=d/\OwR w h a a 0 d:=
 ⟨_,rfl,((Zhw _ _).alloc (Zhc _) _).alloc Z1 _,(Zht _ _ _ Z1).trans<|ZhB _ _,by have:=ZhB (w.alloc<|.cells (YM h a) 30)<|.cells Y9 30;simpa using this,λj f=>Z0,λi j _ f=>Z0⟩
def Z7G(w:Z3)(G:Z4)(hG:∀b,G b->b<xz (xj w))(h:Hp)(hh:h.ok)(d:Z9)(hs:∀j,j<5->Rd w G (.sl<|(Zw h j).map vu) (d j)):
  Calls xP 62 #[ZJ h d] w λe w'=>∃x,e=.returned (ZJ h x)/\Below (xz<|xj w) w w'/\HOwn (xz<|xj w) w' h x:=by
 have D:=Zhf (λW (hb:Below (xz<|xj w) w W) j (y:j<5)=>Z0F W (G:=G) (λb q=>Zhj (hG b q) hb.size) (R0 hh j)<|(hs j y).keep (λb R=>hb.block b<|hG b R) λ_ q=>q);clear hs;unfold ZJ;go_enter F5,Tryz.ntmps62;go_upto_region 1 with fail;obtain⟨W0,A,o⟩:=OwR.start w h d;unfold YM Y9 at A;rw[A];clear A;rename_i Q' K hK;have R2:∀(v0 v1:Zg) (W:Z3),OwR w h d (λj=>if j=1 then v1 else if j=0 then v0 else d j) 2 W->K {tmps:=#[.agg #[.int .u64 h.base,.int .i64 h.cap,.int .i64 h.to,.bool h.aa,.int .i64 h.Z,d 0,d 1,d 2,d 3,d 4],.pointer<|J ⟨xz<|xj w,0,U⟩,.pointer<|J ⟨xz (xj w)+1,0,U⟩,.pointer<|J ⟨xz<|xj w,5,U⟩,d 0,v0,.pointer<|J ⟨xz<|xj w,6,U⟩,d 1,v1,.pointer<|J ⟨xz<|xj w,5,U⟩,.pointer<|J ⟨xz<|xj w,6,U⟩,xy,xy,xy,xy,xy,xy,xy,xy,xy,xy,xy,xy,xy],defers:=[]} W:=by
  intro v0 v1 W o;refine hK _ _ ?_;go_upto_region 2 with fail;rename_i K' H;have R3:∀(M N:Zg) (W:Z3),OwR w h d (λj=>if j=3 then N else if j=2 then M else if j=1 then v1 else if j=0 then v0 else d j) 4 W->K' {tmps:=#[.agg #[.int .u64 h.base,.int .i64 h.cap,.int .i64 h.to,.bool h.aa,.int .i64 h.Z,d 0,d 1,d 2,d 3,d 4],.pointer<|J ⟨xz<|xj w,0,U⟩,.pointer<|J ⟨xz (xj w)+1,0,U⟩,.pointer<|J ⟨xz<|xj w,5,U⟩,d 0,v0,.pointer<|J ⟨xz<|xj w,6,U⟩,d 1,v1,.pointer<|J ⟨xz<|xj w,5,U⟩,.pointer<|J ⟨xz<|xj w,6,U⟩,.pointer<|J ⟨xz<|xj w,7,U⟩,d 2,M,.pointer<|J ⟨xz<|xj w,8,U⟩,d 3,N,.pointer<|J ⟨xz<|xj w,7,U⟩,.pointer<|J ⟨xz<|xj w,8,U⟩,xy,xy,xy,xy,xy],defers:=[]} W:=by
   intro M N W o;refine H _ _ ?_;obtain⟨b0,p0,rfl⟩:∃a q,v0=.slice a (I<|Zw h 0) q:=YW<|o.own 0 Z0;obtain⟨b1,p1,rfl⟩:∃a q,v1=.slice a (I<|Zw h 1) q:=YW<|o.own 1 Z0;obtain⟨b2,p2,rfl⟩:∃a q,M=.slice a (I<|Zw h 2) q:=YW<|o.own 2 Z0;obtain⟨b3,p3,rfl⟩:∃a q,N=.slice a (I<|Zw h 3) q:=YW<|o.own 3 Z0;obtain⟨C,B⟩:=o.F;have l:=Zhf o;clear o;go_upto_region 4 with (go_at_call 79;refine(D.out _ l.out.dm 4 Z0).mono ?_;rintro e w1 ⟨v4,rfl,g,f⟩;obtain⟨P,p4,rfl⟩:=YW f;have X:=l.out.call g;obtain⟨u,t⟩:=X.F;have Z:=Zhf (X.put Z0 f (by have:=Y2 l.out.fq;omega) λj y c S=>((l.out.own j y).lt c S).2);clear g f C B X);obtain⟨W7,L⟩:∃W7,w1.setCell ⟨xz<|xj w,9,U⟩ (.slice P (I<|Zw h 4) p4)=W7:=⟨_,rfl⟩;have o:=Z.out;rw[L]at o⊢;clear L Z u t;obtain⟨C,B⟩:=o.F;have yz:=λj=>Zhl _ _ j _ _ _ o.fq;unfold Y9 at yz;have fz:=λj=>YA (o:=j) o.fq;have z:=Qo o.fq (.int .u64 h.base) (.int .i64 h.cap) (.int .i64 h.to) (.bool h.aa) (.int .i64 h.Z) (.slice b0 (I<|Zw h 0) p0) (.slice b1 (I<|Zw h 1) p1) (.slice b2 (I<|Zw h 2) p2) (.slice b3 (I<|Zw h 3) p3)<|.slice P (I<|Zw h 4) p4;have O:=Zhf o;clear o;go_wp2;refine Zi0 (v:=.agg #[.int .u64 h.base,.int .i64 h.cap,.int .i64 h.to,.bool h.aa,.int .i64 h.Z,.slice b0 (I<|Zw h 0) p0,.slice b1 (I<|Zw h 1) p1,.slice b2 (I<|Zw h 2) p2,.slice b3 (I<|Zw h 3) p3,.slice P (I<|Zw h 4) p4]) (by simp[results,Tryz.results62,go_sem,z]) rfl ⟨_,rfl,TL O.out.dm Z0,λj y=>qH (Xs (O.out.own j y) λc S=>JE (by have:=((O.out.own j y).lt c S).1;omega)) λc h1 h2=>⟨Z0,h2⟩,λi j T y=>O.out.apart i j T y⟩
  have o:=o.drew;obtain⟨C,B⟩:=o.F;have l:=Zhf o;clear o H
  go_region_with (first|(go_at_call 79;go_loud (first
   |(refine(D.out _ (l.out.dm) 2<|by omega).mono ?_;rintro e w1 ⟨M,rfl,g,f⟩;obtain⟨a0,q0,rfl⟩:=YW f;obtain⟨u,t⟩:=(l.out.call g).F;have k:=Zhf<|And.intro g f;clear g f C B)
   |(refine(D.out _ (l.out.call k.out.1).dm 3<|by omega).mono ?_;rintro e w2 ⟨N,rfl,n,p⟩;obtain⟨a1,q1,rfl⟩:=YW p;obtain⟨Y,Q⟩:=((l.out.call k.out.1).call n).F;have r:=Zhf<|And.intro n p;clear n p u t))))
  all_goals exact R3 _ _ _<|l.out.cw Z0 k.out.1 k.out.2 r.out.1 r.out.2
 have o:=o.drew;obtain⟨C,B⟩:=o.F;have l:=Zhf o;clear o hK
 go_region_with (first|(go_at_call 79;go_loud (first
  |(refine(D.out _ (l.out.dm) 0<|by omega).mono ?_;rintro e w1 ⟨v0,rfl,g,f⟩;obtain⟨a0,q0,rfl⟩:=YW f;obtain⟨u,t⟩:=(l.out.call g).F;have k:=Zhf<|And.intro g f;clear g f C B)
  |(refine(D.out _ (l.out.call k.out.1).dm 1<|by omega).mono ?_;rintro e w2 ⟨v1,rfl,n,p⟩;obtain⟨a1,q1,rfl⟩:=YW p;obtain⟨Y,Q⟩:=((l.out.call k.out.1).call n).F;have r:=Zhf<|And.intro n p;clear n p u t))))
 all_goals exact R2 _ _ _<|l.out.cw Z0 k.out.1 k.out.2 r.out.1 r.out.2
end Vm
end
section
namespace Vm
open Go Go.Proofs
def Dr{h:Hp}(hc:h.aa=xw):∀k,scanK h k=h
 |0=>rfl
 |k+1=>by unfold scanK;rw[hc];simp
def So(h:Hp):∀k,scanK h (k+1)=if(scanK h k).aa then scan1 (scanK h k)else scanK h k
 |0=>by unfold scanK;cases a:h.aa<;>simp[scanK,a]
 |k+1=>by
  cases a:h.aa with
  |false=>rw[Dr a,Dr a,a];simp
  |true=>
   have e:∀j,scanK h (j+1)=scanK (scan1 h) j:=λj=>by rw[scanK.eq_2,a];simp
   rw[e<|k+1,e k];exact So (scan1 h) k
def Pi(h:Hp)(a:Nat):∀b,scanK h (a+b)=scanK (scanK h a) b
 |0=>rfl
 |b+1=>by rw[<-Zik,So,So,Pi h a b]
structure ScansTo (h:Hp) (p:Pts) (k:Nat) (g:Hp) (q:Pts):Prop where
 rt:Rt g q
 len:I h.H<=I g.H
 keep:∀j:Nat,(j:Int)<h.Z->g.H[j]?=h.H[j]?
 ae:g.ae=h.ae
 E:g.E=h.E
 num:g.base=h.base/\g.cap=h.cap/\g.to=h.to
 Z:h.Z<=g.Z/\g.Z<=h.Z+k
 ld:∃r,q.H=p.H++r
 ny:q.ae=p.ae
 ku:g.aa=xk->h.aa=xk/\g.Z=h.Z+k/\(I g.H:Int)+X4 q=I h.H+X4 p
 ul:(I g.H:Int)<=I h.H+X4 p
 whole:g.aa=xw->h.aa=xk->g.Z=I g.H
def Rt.ii{h:Hp}{p:Pts}(r:Rt h p):∀k,∃q,ScansTo h p k (scanK h k) q
 |0=>⟨p,r,Zhc _,λ_ _=>rfl,rfl,rfl,⟨rfl,rfl,rfl⟩,⟨by show h.Z<=h.Z;omega,by show h.Z<=h.Z+((0:Nat):Int);omega⟩,⟨[],Z1⟩,rfl,λa=>⟨a,by show h.Z=h.Z+((0:Nat):Int);omega,rfl⟩,by show(I h.H:Int)<=_;omega,λa l=>(by rw[show scanK h 0=h from rfl,l]at a;cases a)⟩
 |k+1=>by
  obtain⟨q,s⟩:=r.ii k;rw[So];generalize scanK h k=g at*;have o:=s.Z.1;have y:=s.Z.2;cases a:g.aa with
  |false=>
   simp only[Zhu,Zif];exact⟨q,s.rt,s.len,s.keep,s.ae,s.E,s.num,⟨o,Z0⟩,s.ld,s.ny,λh=>(by rw[a]at h;cases h),s.ul,λ_ h=>s.whole a h⟩
  |true=>
   simp only[Zi9];obtain⟨H,D,f⟩:=s.rt.Z a;obtain⟨t,c2,c3⟩:=s.ku a;rw[f.eq];obtain⟨L,z,n⟩:=f.H;obtain⟨F,u⟩:=s.ld;obtain⟨G,w⟩:=f.ld;obtain⟨A,B,C,K⟩:=f.num;refine⟨D,f.rt,by have:=s.len;omega,λj x=>(n j Z0).trans<|s.keep j x,f.ae.trans s.ae,f.E.trans s.E,⟨A.trans s.num.1,B.trans s.num.2.1,C.trans s.num.2.2⟩,⟨Z0,Z0⟩,⟨F++G,by rw[w,u,ZhW]⟩,f.ny.trans s.ny,λd=>⟨t,Z0,by have:=f.room d;omega⟩,by have:=f.ul;omega,λd _=>(f.rt.rest d).1⟩
def Z9W{h:Hp}{p:Pts}(a:h.ok)(r:Rt h p)(hc:h.aa=xk):(scan1 h).ok:=by
 have t:=r.km;obtain⟨i,o⟩:=Zhp r.ft;have l:i<I h.H:=by have:=r.ku hc;omega
 obtain⟨u,q⟩:∃u,h.H[i]?=J u:=⟨_,Zh8 l⟩;have y:=a.H;have n:∀g:Hp,g.ok->(Yy g).ok:=λg d=>by
  unfold Yy;split;exact⟨d.base,d.cap,d.to,d.Z,d.H,d.ae,Z1,Z1,d.E,d.gq,d.ic,Z1,Z1,d.gc⟩;exact d
 have k:Y7<|h.Z+1:=⟨Z0,Z0⟩;unfold scan1;rw[o,Zhm,q,ZhE];rw[o]at k;have f:=H6 a<|a.gq u<|Zhh q;split;refine n _ ?_;obtain⟨f,x⟩:=f
 exact⟨f.base,f.cap,f.to,k,by simp;exact f.H,f.ae,f.ah,f.aj,f.E,λw t=>by
  obtain j|j:=ZiB t;exact f.gq w j;rw[j];exact x,f.ic,f.ml,f.lz,f.gc⟩
 exact n _ ⟨a.base,a.cap,a.to,k,a.H,a.ae,a.ah,a.aj,a.E,a.gq,a.ic,a.ml,a.lz,a.gc⟩
def LX{h:Hp}{p:Pts}(a:h.ok)(r:Rt h p):∀k,(scanK h k).ok
 |0=>a
 |k+1=>by
  obtain⟨q,s⟩:=r.ii k;have:=LX a r k;rw[So];generalize scanK h k=g at*;cases d:g.aa with
  |false=>simpa using this
  |true=>simpa using Z9W this s.rt d
end Vm
end
section
namespace Vm
open Go Go.Proofs Go.RowKit Go.Shelf
section
attribute [local go_sem] Oper.semAt_some
def Zby{n P c Q a w}(h:c.wpIn Fence.wide n P (Exit.noGoto Q) a w):(Code.scope c).wpIn Fence.wide n P Q a w:=
 wpIn_wide.2 (wp_scope_straight<|wpIn_wide.1 h)
theorem NowI.kept{B:Nat}{W a:Z3}{b r:Nat}{g:Hp}{x:Z9}(S:NowI B W b g x)(d:W.grownBy a<|J r)(l:r<B):NowI B a b g x:=
 ⟨S.le,(d.block b (Y2 S.nb) λe=>by cases e;have:=S.le;omega).trans S.nb,S.own.ue (Zhc _) λj k c f h=>d.block c ((S.own.own j k).lt c f).2 λe=>ZgY,S.aj⟩
def Ka:Array Value:=#[.int .u64 0,.int .i64 0,.int .i64 0,.bool xw,.int .i64 0,.slice U 0 0,.slice U 0 0,.slice U 0 0,.slice U 0 0,.slice U 0 0]
structure ScI (B:Nat) (w:World) (b:Nat) (h:Hp) (k done:Nat) (W:World):Prop where
 ke:∃x,NowI B W b (scanK h done) x
 le:done<=k
 kb:W.heap[xz (xj w)+1]?=J (.cells #[.int .i64<|(k:Int) - (done:Nat)] 3 (0,0))
 r0:W.heap[xz (xj w)+2]?=J (.cells Ka 30 (0,0))
 r1:W.heap[xz (xj w)+3]?=J (.cells #[.int .i64 0] 34 (0,0))
 fn:W.heap[b+1]?=J (.cells #[.func (.func 63) #[] #[.pointer<|J ⟨b,0,U⟩]] 143 (0,0))
 gr:w.grownBy W U
def ScI.ed{B:Nat}{w:Z3}{b:Nat}{h:Hp}{k done:Nat}{W a:Z3}{row:Zt}(S:ScI B w b h k done W)(f:W.grownBy a row)(g:∀r,row=J r->xz (xj w)<=r/\∃o:Obj,W.heap[r]?=J o/\o.isCells=xw):ScI B w b h k done a:=by
 obtain⟨x,p⟩:=S.ke
 have q:∀(c:Nat) (o:Obj),W.heap[c]?=J o->o.isCells=xk->a.heap[c]?=J o:=λc o d n=>(f.block c (Y2 d) λe=>by
  obtain⟨_,t,j,l⟩:=g c e.symm;rw[d]at j;cases j;rw[n]at l;cases l).trans d
 exact⟨⟨x,p.ed f λr e=>(g r e).2⟩,S.le,q _ _ S.kb rfl,q _ _ S.r0 rfl,q _ _ S.r1 rfl,q _ _ S.fn rfl,UZ S.gr f λr e=>.inr (g r e).1⟩
def Z5J(W:Z3)(b:Nat):Calls xP 65 #[.pointer<|J ⟨b,0,U⟩] W λe d=>e=.returned (.func (.func 84) #[] #[.pointer<|J ⟨xz<|xj W,0,U⟩])/\d=W.alloc (.cells #[.pointer<|J ⟨b,0,U⟩] 147):=by
 have a:∀(fn:Go.Fn) (first cap:Ze) (w:Z3),(Instr.makeFunc fn first cap).run xP w=.ok (.func fn first cap) w:=λ_ _ _ _=>rfl;go_enter F7,Tryz.ntmps65;go_wp2;exact Zi0 (v:=.func (.func 84) #[] #[.pointer<|J ⟨xz<|xj W,0,U⟩]) (by simp[results,Tryz.results65,go_sem]) rfl ⟨rfl,rfl⟩
def Z3Y(w:Z3)d a f g:∃W,(((w.alloc d).alloc a).alloc f).alloc g=W/\xz (xj W)=xz (xj w)+4/\w.grownBy W U/\W.heap[xz (xj w)+1]?=J a/\W.heap[xz (xj w)+2]?=J f/\W.heap[xz (xj w)+3]?=J g:=by
 refine⟨_,rfl,Z1,⟨rfl,rfl,rfl,Zge,λk h _=> ?_⟩,?_,?_,?_⟩;rw[Zht _ _ _ Zge,Zht _ _ _ Zge,Zht _ _ _ Zge,Zht _ _ _ h];rw[Zht _ _ _ Z1,Zht _ _ _ Z1];have:=Zim (w.alloc d) a;rwa[ZjA]at this;rw[Zht _ _ _ Z1];have:=Zim ((w.alloc d).alloc a) f;simpa using this;have:=Zim (((w.alloc d).alloc a).alloc f) g;simpa using this
def Z9Y{w w0 w1:Z3}{h:Hp}(A:h.ok){p:Pts}(r:Rt h p){k:Nat}{a:Z9}(F:xz (xj w0)=xz (xj w)+4)(n:w.grownBy w0 U)
  (k1:w0.heap[xz (xj w)+1]?=J (.cells #[.int .i64 k] 3 (0,0))) (G:w0.heap[xz (xj w)+2]?=J (.cells Ka 30 (0,0))) (H:w0.heap[xz (xj w)+3]?=J (.cells #[.int .i64 0] 34 (0,0)))
  (l:Below (xz<|xj w0) w0 w1) (hx:HOwn (xz<|xj w0) w1 h a):
  ∃w3,((w1.alloc<|.cells (YM h a) 30).alloc<|.cells #[.func (.func 63) #[] #[.pointer<|J ⟨xz<|xj w1,0,U⟩]] 143).alloc (.cells #[.pointer<|J ⟨xz<|xj w1,0,U⟩] 147)=w3/\
   xz (xj w3)=xz (xj w1)+3/\xz (xj w0)<=xz (xj w1)/\ScI (xz (xj w)+4) w (xz<|xj w1) h k 0 w3/\KnI (xz (xj w)+4) (xz<|xj w1) (xz (xj w1)+2) p w3:=by
 refine⟨_,rfl,Z1,l.size,?_⟩;have g:∀c,c<xz (xj w1)->(((w1.alloc<|.cells (YM h a) 30).alloc<|.cells #[.func (.func 63) #[] #[.pointer<|J ⟨xz<|xj w1,0,U⟩]] 143).alloc<|.cells #[.pointer<|J ⟨xz<|xj w1,0,U⟩] 147).heap[c]?=w1.heap[c]? :=λc d=>by
  rw[Zht _ _ _ Zge,Zht _ _ _ Zge,Zht _ _ _ d]
 have D:xz (xj<|((w1.alloc<|.cells (YM h a) 30).alloc<|.cells #[.func (.func 63) #[] #[.pointer<|J ⟨xz<|xj w1,0,U⟩]] 143).alloc<|.cells #[.pointer<|J ⟨xz<|xj w1,0,U⟩] 147)=xz (xj w1)+3:=Z1;have x:(((w1.alloc<|.cells (YM h a) 30).alloc<|.cells #[.func (.func 63) #[] #[.pointer<|J ⟨xz<|xj w1,0,U⟩]] 143).alloc<|.cells #[.pointer<|J ⟨xz<|xj w1,0,U⟩] 147).heap[xz<|xj w1]?=J (.cells (YM h a) 30 (0,0)):=by
  rw[Zht _ _ _ Zge,Zht _ _ _ Z1];exact Zim _ _
 have y:(((w1.alloc<|.cells (YM h a) 30).alloc<|.cells #[.func (.func 63) #[] #[.pointer<|J ⟨xz<|xj w1,0,U⟩]] 143).alloc<|.cells #[.pointer<|J ⟨xz<|xj w1,0,U⟩] 147).heap[xz (xj w1)+1]?=J (.cells #[.func (.func 63) #[] #[.pointer<|J ⟨xz<|xj w1,0,U⟩]] 143 (0,0)):=by
  rw[Zht _ _ _ Z1];have:=Zim (w1.alloc<|.cells (YM h a) 30)<|.cells #[.func (.func 63) #[] #[.pointer<|J ⟨xz<|xj w1,0,U⟩]] 143;rwa[ZjA]at this
 have z:(((w1.alloc<|.cells (YM h a) 30).alloc<|.cells #[.func (.func 63) #[] #[.pointer<|J ⟨xz<|xj w1,0,U⟩]] 143).alloc<|.cells #[.pointer<|J ⟨xz<|xj w1,0,U⟩] 147).heap[xz (xj w1)+2]?=J (.cells #[.pointer<|J ⟨xz<|xj w1,0,U⟩] 147 (0,0)):=by
  have:=Zim ((w1.alloc<|.cells (YM h a) 30).alloc<|.cells #[.func (.func 63) #[] #[.pointer<|J ⟨xz<|xj w1,0,U⟩]] 143)<|.cells #[.pointer<|J ⟨xz<|xj w1,0,U⟩] 147;simpa using this
 have C:=l.size;have t:w1.grownBy (((w1.alloc<|.cells (YM h a) 30).alloc<|.cells #[.func (.func 63) #[] #[.pointer<|J ⟨xz<|xj w1,0,U⟩]] 143).alloc<|.cells #[.pointer<|J ⟨xz<|xj w1,0,U⟩] 147) U:=⟨rfl,rfl,rfl,Z0,λc d _=>g c d⟩;generalize ((w1.alloc<|.cells (YM h a) 30).alloc<|.cells #[.func (.func 63) #[] #[.pointer<|J ⟨xz<|xj w1,0,U⟩]] 143).alloc (.cells #[.pointer<|J ⟨xz<|xj w1,0,U⟩] 147)=w3 at*;have f:NowI (xz (xj w)+4) w3 (xz<|xj w1) h a:=⟨Z0,x,hx.ue Z0 λj u c d _=>g c ((hx.own j u).lt c d).2,λj u c d=>by have:=((hx.own j u).lt c d).2;omega⟩;have q:∀c o,w0.heap[c]?=J o->w3.heap[c]?=J o:=λc o d=>by
  have B:=Y2 d;rw[g c Z0,l.block c B];exact d
 exact⟨⟨⟨a,f⟩,Zjc _,by rw[q _ _ k1];simp,q _ _ G,q _ _ H,y,Ve n<|Ve (V3 l U) t⟩,z,h,a,f,A,r⟩
def ScI.step{B:Nat}{w:Z3}{b:Nat}{h:Hp}{p q:Pts}{k done:Nat}{W a:Z3}(F:h.ok)(r:Rt h p)(S:ScI B w b h k done W)(G:Rt (scanK h done) q)(hc:(scanK h done).aa=xk)(L:xz (xj w)+1<B)(T:xz (xj w)+4<=b)(X:done<k)(d:W.grownBy a<|J b)(M:∃x,NowI B a b (scan1<|scanK h done) x):
  ScI B w b h k (done+1) (a.setCell ⟨xz (xj w)+1,0,U⟩<|.int .i64<|(k:Int) - (done:Nat) -1)/\KpN B b (xz (xj w)+1) W (a.setCell ⟨xz (xj w)+1,0,U⟩<|.int .i64<|(k:Int) - (done:Nat) -1)/\
   W.grownBy a (J b)/\a.grownBy (a.setCell ⟨xz (xj w)+1,0,U⟩<|.int .i64<|(k:Int) - (done:Nat) -1) (J<|xz (xj w)+1):=by
 have n:=ZjB a (xz (xj w)+1)<|.int .i64<|(k:Int) - (done:Nat) -1;obtain⟨x,N⟩:=M;have g:=N.kept n L;have D:scanK h (done+1)=scan1 (scanK h done):=by rw[So,hc];simp
 have l:∀(c:Nat) (o:Obj),W.heap[c]?=J o->c≠b->c≠xz (xj w)+1->(a.setCell ⟨xz (xj w)+1,0,U⟩<|.int .i64<|(k:Int) - (done:Nat) -1).heap[c]?=J o:=λc o j H t=>
  (Zhv _ _ _ _ t).trans ((d.block c (Y2 j)<|λe=>H (by cases e;rfl)).trans j)
 have z:a.heap[xz (xj w)+1]?=J (.cells #[.int .i64<|(k:Int) - (done:Nat)] 3 (0,0)):=(d.block _ (Y2 S.kb)<|λe=>ZgY).trans S.kb;refine⟨⟨⟨x,by rw[D];exact g⟩,Z0,?_,l _ _ S.r0 Z0 Z0,l _ _ S.r1 Z0 Z0,l _ _ S.fn Z0 Z0,?_⟩,⟨ZhD d.size n.size,λc o j _ t K=>l c o j t K,λY A=> ?_⟩,d,n⟩
 .have:(k:Int) - ((done+1:Nat):Int)=(k:Int) - (done:Nat) -1:=Z0;rw[this];simp[World.setCell,ZhT,z]
 exact UZ (UZ S.gr d λr e=>.inr ZgY) n λr e=>.inr ZgY
 .obtain⟨y,O⟩:=S.ke;have u:InBox B b q W:=⟨_,y,O,LX F r done,G⟩;obtain⟨R,P,f⟩:=G.Z hc;obtain⟨Q,C⟩:=f.ld;refine⟨P,Q,⟨_,x,g,?_,?_⟩,?_⟩
  .have:=LX F r<|done+1;rwa[D]at this
  rw[f.eq];exact f.rt;rw[C,u.H A]
def A0(w:Z3)(g:Hp)(e:Ending)(w':Z3):Prop:=∃x,e=.returned (.tuple #[ZJ g x,.int .i64 0])/\Below (xz<|xj w) w w'/\HOwn (xz<|xj w) w' g x
def Z9X{w:Z3}{b:Nat}{h g:Hp}{k done:Nat}{W W8:Z3}{y:Z9}{D:Nat}(S:ScI (xz (xj w)+4) w b h k done W)(u:scanK h done=g)(t:done=k\/(scanK h done).aa=xw)(X:NowI (xz (xj w)+4) W b g y)
  (hD:xz (xj w)+4<=D) (q:W.heap[D]?=J (.deferred<|J [])) (F:Below (xz<|xj w) W W8) (G:xz (xj W8)=xz (xj W)) (p:∀c,c≠xz (xj w)+1+1->W8.heap[c]?=W.heap[c]?) (P:W8.heap[xz (xj w)+1+1]?=J (.cells (YM g y) 30 (0,0))):
  (W8.setCell ⟨xz (xj w)+1+1+1,0,U⟩<|.int .i64 0).heap[D]?=J (.deferred<|J [])/\(∀j,((W8.setCell ⟨xz (xj w)+1+1+1,0,U⟩<|.int .i64 0).putObj D<|.deferred U).cell? ⟨xz (xj w)+1+1,j,U⟩=(YM g y)[j]?)/\((W8.setCell ⟨xz (xj w)+1+1+1,0,U⟩<|.int .i64 0).putObj D<|.deferred U).cell? ⟨xz (xj w)+1+1+1,0,U⟩=J (.int .i64 0)/\
   A0 w (scanK h k) (.returned<|.tuple #[ZJ g y,.int .i64 0]) ((W8.setCell ⟨xz (xj w)+1+1+1,0,U⟩<|.int .i64 0).putObj D<|.deferred U):=by
 have a:=ZjB W8 (xz (xj w)+1+1+1)<|.int .i64 0;have n:=S.r1;have M:(W8.setCell ⟨xz (xj w)+1+1+1,0,U⟩<|.int .i64 0).heap[xz (xj w)+1+1+1]?=J (.cells #[.int .i64 0] 34 (0,0)):=
  Boxed.set _ (show Boxed W8 (xz (xj w)+1+1+1) 34 (.int .i64 0)from(p _ Z0).trans n)
 have L:(W8.setCell ⟨xz (xj w)+1+1+1,0,U⟩<|.int .i64 0).heap[xz (xj w)+1+1]?=J (.cells (YM g y) 30 (0,0)):=(Zhv _ _ _ _ (by show xz (xj w)+1+1≠xz (xj w)+1+1+1;omega)).trans P;have l:∀c,c≠xz (xj w)+1+1->c≠xz (xj w)+1+1+1->(W8.setCell ⟨xz (xj w)+1+1+1,0,U⟩<|.int .i64 0).heap[c]?=W.heap[c]? :=λc B C=>(Zhv _ _ _ _ C).trans<|p c B;have Y:xz (xj<|W8.setCell ⟨xz (xj w)+1+1+1,0,U⟩<|.int .i64 0)=xz (xj W):=by rw[<-G];simp[World.setCell]
 have A:Below (xz<|xj w) W<|W8.setCell ⟨xz (xj w)+1+1+1,0,U⟩<|.int .i64 0:=F.trans ⟨a.os,a.tape,a.output,a.size,λc K=>a.block c (by have:=Y2 n;omega)<|λe=>ZgY⟩;generalize W8.setCell ⟨xz (xj w)+1+1+1,0,U⟩ (.int .i64 0)=o at*;have H:o.heap[D]?=J (.deferred<|J []):=(l D Z0 Z0).trans q;have Z:=S.gr.size;have R:=Y2 n;have N:(o.putObj D<|.deferred U).heap[xz (xj w)+1+1]?=J (.cells (YM g y) 30 (0,0)):=(ZhR Z0).trans L;have O:(o.putObj D<|.deferred U).heap[xz (xj w)+1+1+1]?=J (.cells #[.int .i64 0] 34 (0,0)):=(ZhR Z0).trans M;have z:=Zk0 o D<|.deferred U;have heq:scanK h k=g:=by
  obtain e|e:=t;rw[<-e,u]
  .obtain⟨d,Q⟩:∃d,k=done+d:=⟨k-done,by have:=S.le;omega⟩;rw[Q,Pi,Dr e,u]
 have x:∀c,c≠xz (xj w)+1+1->c≠xz (xj w)+1+1+1->c≠D->(o.putObj D<|.deferred U).heap[c]?=W.heap[c]? :=λc B C h3=>(ZhR Z0).trans<|l c B C;refine⟨H,λj=>Zhl _ _ j _ _ _ N,by rw[Zhl _ _ _ _ _ _ O];rfl,y,by rw[heq],⟨?_,?_,?_,?_,λc K=> ?_⟩,?_⟩;rw[z.os,A.os];exact S.gr.os;rw[z.tape,A.tape];exact S.gr.tape;rw[z.output,A.output];exact S.gr.output;have:=z.size;omega;rw[x c Z0 Z0 Z0];exact S.gr.block c K Z1;rw[heq];refine X.own.to Z0 (λ_ _=>.inl ⟨rfl,rfl⟩) λj hj c K h4 cs T f r=>x c Z0 Z0 λe=> ?_;rw[e,q]at r;cases r
def Pj{w:Z3}{b:Nat}{h g:Hp}{k done:Nat}{W:Z3}{y:Z9}{D:Nat}(S:ScI (xz (xj w)+4) w b h k done W)(f:scanK h done=g)(a:done=k\/(scanK h done).aa=xw)(o:NowI (xz (xj w)+4) W b g y)
  (l:xz (xj w)+4<=D) (d:W.heap[D]?=J (.deferred<|J [])):
  ((RB W (xz (xj w)+1+1) g y).setCell ⟨xz (xj w)+1+1+1,0,U⟩<|.int .i64 0).heap[D]?=J (.deferred<|J [])/\(∀j,(((RB W (xz (xj w)+1+1) g y).setCell ⟨xz (xj w)+1+1+1,0,U⟩<|.int .i64 0).putObj D<|.deferred U).cell? ⟨xz (xj w)+1+1,j,U⟩=(YM g y)[j]?)/\(((RB W (xz (xj w)+1+1) g y).setCell ⟨xz (xj w)+1+1+1,0,U⟩<|.int .i64 0).putObj D<|.deferred U).cell? ⟨xz (xj w)+1+1+1,0,U⟩=J (.int .i64 0)/\
    A0 w (scanK h k) (.returned<|.tuple #[ZJ g y,.int .i64 0]) (((RB W (xz (xj w)+1+1) g y).setCell ⟨xz (xj w)+1+1+1,0,U⟩<|.int .i64 0).putObj D<|.deferred U):=by
 exact Z9X (W8:=RB W (xz (xj w)+1+1) g y) S f a o l d (TL (Zhw (xz<|xj w) W) Z0) (by simp[World.setCell]) (λc n=>JE n)<|Ol S.r0
def Za0(w:Z3)(G:Z4)(hG:∀b,G b->b<xz (xj w))(h:Hp)(hh:h.ok)(a:Z9)(hs:∀j,j<5->Rd w G (.sl<|(Zw h j).map vu) (a j)){p:Pts}(r:Rt h p){k:Nat}(hk:(k:Int)<9223372036854775808):
  Calls xP 47 #[ZJ h a,.int .i64 k] w (A0 w<|scanK h k):=by
 refine(Zjj (n:=5)).1 ?_;have i2:∀(fn:Go.Fn) (first cap:Ze) (w:Z3),(Instr.makeFunc fn first cap).run xP w=.ok (.func fn first cap) w:=λ_ _ _ _=>rfl;refine callsIn_of_wp_marks Z1B rfl trivial ?_ rfl;simp only[Tryz.ntmps47,ZiF,Zip,ZiI,Nat.reduceAdd,Nat.reduceSub,Zj1,Zj2,Zju,Zj9,Zi8,Zix];have HO:=λW (hb:Below (xz<|xj w) w W)=>Z7G W G (λb q=>Zhj (hG b q) hb.size) h hh a λj hj=>(hs j hj).keep (λb f6=>hb.block b<|hG b f6) λ_ q=>q;have b2:=Zhf HO;clear HO;unfold ZJ;gi_wp2
 refine Zby ?_;gi_wp2
 refine⟨trivial,(Zjj.2<|b2.out _<|((((Zhw _ _).alloc (Zhc _) _).alloc Z1 _).alloc Zge _).alloc Zge _).mono ?_⟩;rintro e w1 ⟨x1,rfl,b4,F⟩;obtain⟨a0,c0,e0⟩:=YW<|F.own 0 Z0;obtain⟨a1,c1,e1⟩:=YW<|F.own 1 Z0;obtain⟨a2,c2,e2⟩:=YW<|F.own 2 Z0;obtain⟨a3,c3,e3⟩:=YW<|F.own 3 Z0;obtain⟨a4,c4,e4⟩:=YW<|F.own 4 Z0;have b1:=Zhf<|And.intro b4 F;clear b4 F;unfold ZJ;gi_wp2
 refine wpIn_label ?_;gi_wp2
 refine⟨trivial,(Zjj.2<|Z5J _ _).mono ?_⟩;rintro e w3 ⟨rfl,d5⟩;obtain⟨w0,a9,g9,f8,k1,R,T⟩:=Z3Y w (.cells #[.int .u64 h.base,.int .i64 h.cap,.int .i64 h.to,.bool h.aa,.int .i64 h.Z,a 0,a 1,a 2,a 3,a 4] 30) (.cells #[.int .i64 k] 3) (.cells Ka 30)<|.cells #[.int .i64 0] 34;have hC:YM h x1=#[.int .u64 h.base,.int .i64 h.cap,.int .i64 h.to,.bool h.aa,.int .i64 h.Z,.slice a0 (I<|Zw h 0) c0,.slice a1 (I<|Zw h 1) c1,.slice a2 (I<|Zw h 2) c2,.slice a3 (I<|Zw h 3) c3,.slice a4 (I<|Zw h 4) c4]:=by
  simp only[YM,e0,e1,e2,e3,e4]
 have N:=b1.out;unfold Ka at a9;rw[a9]at N;obtain⟨i5,L,h0,i3,f5,e9⟩:=Z9Y hh r g9 f8 k1 R T N.1 N.2;rw[hC]at L;rw[L]at d5;subst d5;clear b1 N L hC e0 e1 e2 e3 e4 a9 k1 R T b2;simp only[ZjA];gi_wp2
 have f7:xz (xj w)+4<=xz (xj w1):=Z0;generalize i0:xz (xj w1)=b at*;have c7:=Z5I 4 (B:=xz (xj w)+4) (b:=b) (bk:=b+2) (kb:=xz (xj w)+1) e9 Z0 Z0 Z0 Z0
 refine Zbx rfl Z0 (gf:=84) (lb:=#[.pointer<|J ⟨b+2,0,U⟩]) ?hg trivial (enters_of Fc Z2 rfl)
  c7 KpN.trans (λW l o o' _ h2 h3 _=>KpN.put o' h2 h3) (Zhw _ _) (λ_=>rfl)
  (λpre W=>∃done,ScI (xz (xj w)+4) w b h k done W/\(I pre:Int)<=(scanK h done).Z)
  (λc pre W=>c=.exit 0/\∃done,ScI (xz (xj w)+4) w b h k done W/\(done=k\/(scanK h done).aa=xw))
  ?hI (λ_ _ _=>trivial) ?hIx ?hPx ?hS ⟨0,f5,by have:=r.ft;show((0:Nat):Int)<=h.Z;omega⟩
  (fun x=> {tmps:=#[.agg #[.int .u64 h.base,.int .i64 h.cap,.int .i64 h.to,.bool h.aa,.int .i64 h.Z,a 0,a 1,a 2,a 3,a 4],.int .i64 k,.pointer<|J ⟨xz<|xj w,0,U⟩,.pointer<|J ⟨xz (xj w)+1,0,U⟩,.pointer<|J ⟨xz (xj w)+1+1,0,U⟩,.pointer<|J ⟨xz (xj w)+1+1+1,0,U⟩,.pointer<|J ⟨b,0,U⟩,.pointer<|J ⟨b+1,0,U⟩,.int .i64 (x.1:Nat),.bool x.2,xy,
    .agg #[.int .u64 h.base,.int .i64 h.cap,.int .i64 h.to,.bool h.aa,.int .i64 h.Z,a 0,a 1,a 2,a 3,a 4],.agg #[.int .u64 h.base,.int .i64 h.cap,.int .i64 h.to,.bool h.aa,.int .i64 h.Z,.slice a0 (I<|Zw h 0) c0,.slice a1 (I<|Zw h 1) c1,.slice a2 (I<|Zw h 2) c2,.slice a3 (I<|Zw h 3) c3,.slice a4 (I<|Zw h 4) c4],
    .func (.func 63) #[] #[.pointer<|J ⟨b,0,U⟩],.func (.func 84) #[] #[.pointer<|J ⟨b+2,0,U⟩],.int .i64 (x.1:Nat),.bool x.2,xy,xy,xy,xy,xy,xy,xy,xy,xy,xy,xy,xy,xy,xy,xy,xy,xy,xy,xy,xy,xy,xy,xy],defers:=[]})
  ?assign ?body ?done ?stop
 case hg=>rfl
 case hI=>
  rintro pre X Y row ⟨done,S,hl⟩ hg Q;exact⟨done,S.ed hg λr e=>⟨by have:=(Q r e).1;omega,(Q r e).2⟩,hl⟩
 case hIx=>
  rintro c pre X Y row ⟨hc,done,S,hl⟩ hg Q;exact⟨hc,done,S.ed hg λr e=>⟨by have:=(Q r e).1;omega,(Q r e).2⟩,hl⟩
 case hPx=>
  rintro pre x _ X Y row ⟨p',g6,hx⟩ hg Q;exact⟨p',g6.ed hg λr e=>(Q r e).2,hx⟩
 case hS=>
  rintro xs X Y row ⟨g,x,hx,hl⟩ hg Q;exact⟨g,x,hx.ed hg λr e=>(Q r e).2,hl⟩
 case assign=>
  rintro l x W K2 e8;simp only[List.zip_cons_cons,Array.zip,By];gi_wp2
  exact e8
 case body=>
  rintro l pre x W ⟨done,S,a7⟩ ⟨p',P,hx⟩ h8;obtain⟨q,sc⟩:=r.ii done;have b3:=LX hh r done;obtain⟨y,t⟩:=S.ke;have rq:Rt (scanK h done) p'/\x=(I pre,XY p'.H<|I pre):=by
   obtain⟨g',x',h1,h2,h3⟩:=P;have:=t.et h1;subst this;exact⟨h3,hx⟩
  obtain⟨rg,g8⟩:=rq;subst g8;obtain⟨g,H⟩:∃g,scanK h done=g:=⟨_,rfl⟩;have d:=t.nb;have z:=Z13 W (xz (xj w)+4) b (by have:=Y2 d;omega) _ y t b3 rg;rw[H]at a7 b3 rg d z;unfold YM at d;have yb:∀j,W.cell? ⟨b,j,U⟩=(#[.int .u64 g.base,.int .i64 g.cap,.int .i64 g.to,.bool g.aa,.int .i64 g.Z,y 0,y 1,y 2,y 3,y 4]:Array Value)[j]? :=λj=>Zhl _ _ _ _ _ _ d;have h5:=Zhl _ _ 0 _ _ _ S.kb;have h4:=Zhl _ _ 0 _ _ _ S.fn;simp only[ZiN,Zjz]at h5 h4;have h9:W.frozen? ⟨xz (xj w)+1,0,U⟩=xw:=YA S.kb;by_cases A:done=k\/g.aa=xw
  .have HE:=Zhf<|And.intro S<|And.intro A H;have g5:((k:Int) - (done:Nat)==0)=xk\/(((k:Int) - (done:Nat)==0)=xw/\g.aa=xw):=by
    obtain e|e:=A;exact .inl Zge
    .by_cases e2:done=k;exact .inl Zge;exact .inr ⟨Zge,e⟩
   clear t S d A H P z;obtain hq|⟨hq,i1⟩:=g5
   .gi_wp2
    exact⟨Zlj _ _,rfl,done,HE.out.1,by rw[HE.out.2.2];exact HE.out.2.1⟩
   .gi_wp2
    exact⟨Zlj _ _,rfl,done,HE.out.1,by rw[HE.out.2.2];exact HE.out.2.1⟩
  .have hd:done<k:=by have:=S.le;omega
   have O:g.aa=xk:=by cases b5:g.aa<;>simp_all
   have hq:((k:Int) - (done:Nat)==0)=xw:=Zge;have g7:=rg.fu;have HH:=Zhf<|And.intro S<|And.intro t<|And.intro H<|And.intro rg hd;have d7:=Zhf<|z O;have Z:=t.rd 0 Z0;by_cases b6:I pre<g.Z
   .have b7:((I pre:Int)<g.Z)=True:=Zje b6;clear t S d A H P z rg Z;gi_wp2
    exact⟨Zlj _ _,⟨Zhc _,λ_ _ h _ _ _=>h,λp hp=>⟨p,[],hp,Z1⟩⟩,done,HH.out.1,by rw[HH.out.2.2.1];simp;omega⟩
   .have b7:((I pre:Int)<g.Z)=False:=ZiM b6;have b9:(I pre:Int)=g.Z:=Z0;clear t S d A H P z rg Z;gi_wp2
    refine⟨trivial,(CallsIn.inRound l<|Zjj.2 d7.out).mono ?_⟩;rintro e W2 ⟨rfl,a6,a8⟩;have i4:=ZA ((k:Int) - (done:Nat) -1) Z0 Z0;obtain⟨s1,s2,s3,s4,s5⟩:=HH.out;rw[<-s3]at a8;have c8:=s1.step hh r (by rw[s3];exact s4) (by rw[s3];exact O) Z0 f7 s5 a6 a8;have K:W2.heap[xz (xj w)+1]?=J (.cells #[.int .i64<|(k:Int) - (done:Nat)] 3 (0,0)):=(a6.block _ (Y2 s1.kb)<|λe=>ZgY).trans s1.kb;have d6:=Zhl _ _ 0 _ _ _ K;simp only[ZiN,Zjz]at d6;have h7:W2.frozen? ⟨xz (xj w)+1,0,U⟩=xw:=YA K;have d9:=Zhf c8;have d8:=Zhf b9;clear s1 s2 s3 s4 s5 a6 a8 c8 K b9;gi_wp2
    obtain⟨t1,t2,t3,t4⟩:=d9.out;obtain⟨s1,s2,s3,s4,s5⟩:=HH.out;have h0:=s1.gr.size;refine⟨(KeepsFrom.of_grownBy t3 λj e=>ZgY).trans (KeepsFrom.of_grownBy t4 λj e=>ZgY),t2,done+1,t1,?_⟩;obtain⟨g',q',f⟩:=s4.Z O;rw[So,s3,O];simp only[Zi9];rw[f.eq,f.num.2.2.2];have:=d8.out;simp;omega
 case done=>
  rintro D xs W hD ⟨g0,x0,b8,f9⟩ ⟨done,S,a7⟩ a5;have u:done=k\/(scanK h done).aa=xw:=by
   obtain⟨q,sc⟩:=r.ii done;obtain⟨y,t⟩:=S.ke;have:=t.et b8;subst this;cases b5:(scanK h done).aa with
   |false=>exact .inr rfl
   |true=>have:=sc.rt.ku b5;omega
  obtain⟨y,t⟩:=S.ke;have HF:=Zhf<|And.intro S<|And.intro u t;have d:=t.nb;obtain⟨d0,f0,C⟩:=Rd.dz<|t.rd 0 Z0;obtain⟨d1,f1,g1⟩:=Rd.dz<|t.rd 1 Z0;obtain⟨d2,f2,g2⟩:=Rd.dz<|t.rd 2 Z0;obtain⟨d3,f3,g3⟩:=Rd.dz<|t.rd 3 Z0;obtain⟨d4,f4,g4⟩:=Rd.dz<|t.rd 4 Z0;unfold YM at d;rw[C,g1,g2,g3,g4]at d;have yb:∀j,W.cell? ⟨b,j,U⟩=_:=λj=>Zhl _ _ _ _ _ _ d;have b0:∀j,W.cell? ⟨xz (xj w)+1+1,j,U⟩=_:=λj=>Zhl _ _ _ _ _ _ S.r0;have h6:∀j,W.cell? ⟨xz (xj w)+1+1+1,j,U⟩=_:=λj=>Zhl _ _ _ _ _ _ S.r1;have e6:∀j,W.frozen? ⟨xz (xj w)+1+1,j,U⟩=xw:=λj=>YA S.r0;have e7:∀j,W.frozen? ⟨xz (xj w)+1+1+1,j,U⟩=xw:=λj=>YA S.r1;unfold Ka at b0;have M:=Pj S rfl u t Z0 a5;unfold RB Ri at M;unfold YM ZJ at M;rw[C,g1,g2,g3,g4]at M;simp only[ZhM]at M;obtain⟨k1,R,k4,T⟩:=M;have HK:=Zhf T;clear b8 f9 a7 u t d S C g1 g2 g3 g4 T;gi_wp2
  refine⟨Z1,.inl ⟨D,_,rfl,Zkn k1,?_⟩⟩;refine⟨_,?_,HK.out⟩;clear HK HF k1;generalize World.putObj _ D (.deferred U)=e5 at R k4⊢;simp[results,Tryz.results47,go_sem,R,k4]
 case stop=>
  rintro D c pre W hD ⟨rfl,done,S,u⟩ a5;obtain⟨y,t⟩:=S.ke;have HF:=Zhf<|And.intro S<|And.intro u t;have d:=t.nb;obtain⟨d0,f0,C⟩:=Rd.dz<|t.rd 0 Z0;obtain⟨d1,f1,g1⟩:=Rd.dz<|t.rd 1 Z0;obtain⟨d2,f2,g2⟩:=Rd.dz<|t.rd 2 Z0;obtain⟨d3,f3,g3⟩:=Rd.dz<|t.rd 3 Z0;obtain⟨d4,f4,g4⟩:=Rd.dz<|t.rd 4 Z0;unfold YM at d;rw[C,g1,g2,g3,g4]at d;have yb:∀j,W.cell? ⟨b,j,U⟩=_:=λj=>Zhl _ _ _ _ _ _ d;have b0:∀j,W.cell? ⟨xz (xj w)+1+1,j,U⟩=_:=λj=>Zhl _ _ _ _ _ _ S.r0;have h6:∀j,W.cell? ⟨xz (xj w)+1+1+1,j,U⟩=_:=λj=>Zhl _ _ _ _ _ _ S.r1;have e6:∀j,W.frozen? ⟨xz (xj w)+1+1,j,U⟩=xw:=λj=>YA S.r0;have e7:∀j,W.frozen? ⟨xz (xj w)+1+1+1,j,U⟩=xw:=λj=>YA S.r1;unfold Ka at b0;have M:=Pj S rfl u t Z0 a5;unfold RB Ri at M;unfold YM ZJ at M;rw[C,g1,g2,g3,g4]at M;simp only[ZhM]at M;obtain⟨k1,R,k4,T⟩:=M;have HK:=Zhf T;clear u t d S C g1 g2 g3 g4 T;gi_wp2
  refine⟨Z1,.inl ⟨D,_,rfl,Zkn k1,?_⟩⟩;refine⟨_,?_,HK.out⟩;clear HK HF k1;generalize World.putObj _ D (.deferred U)=e5 at R k4⊢;simp[results,Tryz.results47,go_sem,R,k4]
end
end Vm
end
section
namespace Vm
open Go Go.Proofs
def Nj:Fn:=⟨5,[0,1,2,3,6],pQ [pR [(1,pS 0 10),(2,pZ),pV 3<|pI 0],pQ [pC [pK 5 10 [.mm 1 0 10]] [pV 4<|.un .not<|.s 5]]<|pw (.s 4)<|pQ [.au ⟨[],[([],pY)],[(2,pZ),pV 3<|pI 1]⟩] .ret,pC [pK 6 47 [.mm 1 0 10,pI 9223372036854775807]] [(2,pM (.sz (.ext (.s 6) 0) 10) 10),pV 3<|.ext (.s 6) 1]] .ret,[(2,(.ag 10)),(3,.v)]⟩
def c26:xQ [.fz] Tryz.f26=J Nj:=Z2
section
structure Made (b:Bt) (x:Rw):Prop where
 pl:Placed b x
 be:ZD (Zv b.h)=xk
 tu:∀n∈b.g.nodes,ZL n<=9
 ku:b.h.aa=xk->∀i,i<I b.g.nodes->(ZF b i).part=1->(Y6 b i).part≠0
 Z:0<=b.h.Z/\b.h.Z<=I b.h.H/\(if b.h.aa then b.h.Z<(I b.h.H) else b.h.Z=I b.h.H/\b.h.ah=[]/\b.h.aj=[])
 room:(I b.h.H:Int)+I b.h.ae+((Yx (obs b 3)+Yx (obs b 4):Nat):Int)<=b.h.cap
 ma:Y7 b.h.Z
def Qn(b:Bt):Pts:=⟨obs b 1,obs b 2,obs b 3,obs b 4⟩
theorem D2 b{k}(d:1<=k/\k<=4):(Qn b).at k=obs b k:=by
 have a:k=1\/k=2\/k=3\/k=4:=Z0;obtain rfl|rfl|rfl|rfl:=a<;>rfl
section
variable {b:Bt}{x:Rw}
def Made.fill(m:Made b x):(Yu x b).ok/\Zv (Yu x b)=Zv b.h/\(Yu x b).Z=b.h.Z/\(Yu x b).aa=b.h.aa:=AL m.pl.ok m.ma
def Made.am(m:Made b x){k}(a:1<=k/\k<=4):Tiles (Zx (Yu x b) k) (decide (2<k)) 0<|obs b k:=Z7b m.pl m.be m.tu a
def Made.start(m:Made b x){k a}(f:1<=k/\k<=4)(d:0<=a/\a<Y5 (Zv b.h) k):X3 (Yu x b) k a=ZC (Zv b.h) k+a:=by
 unfold X3;rw[m.fill.2.1,SD m.be f d]
def jE n:1<=ZL n:=by grind [ZL]
def Made.mi(m:Made b x){i}(a:i<I b.g.nodes)(d:(ZF b i).part≠0):∃o∈obs b (ZF b i).part,o.Y=(ZF b i).Y/\o.size=((ZR b i).M.length:Int)+(ZR b i).data.length/\o.M=(ZR b i).M.length/\o.gone=xw:=
 ⟨_,Jj.2 ⟨i,a,by unfold Xe;rw[Zhi rfl];exact .head _⟩,rfl,rfl,rfl,rfl⟩
def Made.su(m:Made b x){i}(f:i<I b.g.nodes)(h:(Y6 b i).part≠0):∃o∈obs b (Y6 b i).part,o.Y=(Y6 b i).Y:=by
 let⟨j,k,l,n⟩:=m.pl.dn f h;have a:¬(ZF b i).part=(Y6 b i).part:=by
  by_cases d:(ZF b i).part=0;omega;have:=(m.pl.da f d).1;omega
 by_cases d:(ZF b i).part=0;exact⟨_,Jj.2 ⟨i,f,by unfold Xe;rw[Zhg a,Zhi rfl,Zhi d];exact .head _⟩,rfl⟩;exact⟨_,Jj.2 ⟨i,f,by unfold Xe;rw[Zhg a,Zhi rfl,Zhg d];exact .head _⟩,rfl⟩
def Made.my(m:Made b x){i}(d:i<I b.g.nodes):XD (Yu x b) (Qn b) (YI b.h<|ZF b i) 1 2=xk:=by
 by_cases a:(ZF b i).part=0;simp_all[YI,ZF,Zhi,XD];let⟨k,l,n⟩:=m.pl.da d a;have p:=jE<|ZR b i;let⟨o,j,f,_⟩:=m.mi d a;rw[m.pl.ga m.be d a];unfold XD;rw[V9 m.be Z0];have:(YF (Yu x b) (ZF b i).part (obs b (ZF b i).part)<|ZC (Zv b.h) (ZF b i).part+(ZF b i).Y).isSome=xk:=by
  refine Aj.2 ⟨o,j,?_⟩;rw[f,m.start Z0 ⟨Z0,Z0⟩]
 grind [D2]
def Made.te(m:Made b x){i}(d:i<I b.g.nodes):XD (Yu x b) (Qn b) (YI b.h<|Y6 b i) 3 4=xk:=by
 by_cases a:(Y6 b i).part=0;simp_all[YI,Y6,Zhi,XD];let⟨k,l,_,n⟩:=m.pl.dn d a;have p:=jE<|ZR b i;let⟨o,j,f⟩:=m.su d a;rw[m.pl.rr m.be d a];unfold XD;rw[V9 m.be Z0];have:(YF (Yu x b) (Y6 b i).part (obs b (Y6 b i).part)<|ZC (Zv b.h) (Y6 b i).part+(Y6 b i).Y).isSome=xk:=by
  refine Aj.2 ⟨o,j,?_⟩;rw[f,m.start Z0 ⟨Z0,Z0⟩]
 grind [D2]
def Made.db(m:Made b x){k}(j:1<=k/\k<=4){o q}(f:o∈obs b k)(g:q∈obs b k)(h:q.Y=o.Y):q=o:=by
 have d:=m.am j;obtain a|a|a:=d.apart q g o f;exact a;have:=YN.1 (d.bd q g).1.shape;omega;have:=YN.1 (d.bd o f).1.shape;omega
def Made.lu(m:Made b x){k}(d:1<=k/\k<=4){o}(f:o∈obs b k):0<=o.Y/\o.Y<Y5 (Zv b.h) k:=by
 have a:=((m.am d).bd o f).1;have g:=YN.1 a.shape;have j:=a.an;have l:=a.kx;have:Y5 (Zv b.h) k=I (Zx (Yu x b) k):=by rw[<-m.fill.2.1,TN _ d]
 omega
def Made.find(m:Made b x){k}(a:1<=k/\k<=4){o}(d:o∈obs b k):YF (Yu x b) k (obs b k) (ZC (Zv b.h) k+o.Y)=J o:=by
 rw[<-m.start a (m.lu a d)];refine FM d λq f e=>m.db a d f ?_;rw[m.start a<|m.lu a d,m.start a<|m.lu a f]at e;omega
def Z6k{k i o}(h:o∈Xe b k i)(a:o.gone=xk):¬(ZF b i).part=k/\(Y6 b i).part=k/\¬(ZF b i).part=0/\o=⟨(Y6 b i).Y,((ZR b i).M.length:Int)+(ZR b i).data.length,(ZR b i).M.length,xk,(adr<|YI b.h<|ZF b i).1⟩:=by
 grind [Xe]
def Made.gone(m:Made b x){k}(y:3<=k/\k<=4):QI (Yu x b) (obs b 1)<|obs b k:=by
 intro o n j;let⟨i,d,g⟩:=Jj.1 n;obtain⟨u,w,f,rfl⟩:=Z6k g j;let⟨z,A,B⟩:=m.pl.da d f;have l:=(m.pl.dn d Z0).2.2.1;have a:(ZF b i).part=1:=Z0;let⟨q,h,p,r,t,_⟩:=m.mi d f;rw[a]at h;refine⟨q,?_,r,t⟩;rw[m.pl.ga m.be d f,V9 m.be Z0,a,<-p];exact m.find Z0 h
def Made.ei(m:Made b x):Xo (Yu x b)=J (Qn b):=
 NZ (m.am (k:=1) Z0) (m.am (k:=2) Z0) (m.am (k:=3) Z0) (m.am (k:=4) Z0) (m.gone Z0) (m.gone Z0)
def PV l r a:Xc (l++r) a=Xc l a+Xc r a:=by simp[Xc]
def PY b k j a:Xc (Xe b k j) a=if ¬(ZF b j).part=k/\(Y6 b j).part=k/\¬(ZF b j).part=0/\(adr<|YI b.h<|ZF b j).1=a then 1 else 0:=by
 unfold Xe;by_cases g:(ZF b j).part=k;simp_all[Zhi,Zhg,Xc];by_cases d:(Y6 b j).part=k;rw[Zhi d];by_cases f:(ZF b j).part=0;simp_all[Zhi,Zhg,Xc];rw[Zhg f];by_cases l:(adr<|YI b.h<|ZF b j).1=a;simp_all[Zhi,Xc];simp_all[Zhg,Xc];simp_all[Zhg,Xc]
def Made.lf(m:Made b x)(hc:b.h.aa=xk){i}(n:i<I b.g.nodes)(w:(ZF b i).part=1):UK (Qn b) (ZC (Zv b.h) 1+(ZF b i).Y)=1:=by
 have key:∀j,j<=I b.g.nodes->Xc ((List.range j).flatMap<|Xe b 3) (ZC (Zv b.h) 1+(ZF b i).Y)+Xc ((List.range j).flatMap<|Xe b 4) (ZC (Zv b.h) 1+(ZF b i).Y)=if i<j then 1 else 0:=by
  intro j;induction j with
  |zero=>grind [Xc]
  |succ j B=>
   intro F;have B:=Z0;have a:j<I b.g.nodes:=Z0;rw[Zjv,Zja,Zja,PV,PV];simp[ZkS,List.flatMap_nil,ZiE];have p:Xc (Xe b 3 j) (ZC (Zv b.h) 1+(ZF b i).Y)+Xc (Xe b 4 j) (ZC (Zv b.h) 1+(ZF b i).Y)=if j=i then 1 else 0:=by
    rw[PY,PY];by_cases l:(ZF b j).part=0;grind;let⟨G,H,K⟩:=m.pl.da a l;by_cases d:(ZF b j).part=1;have u:=m.ku hc j a d;let⟨v1,_⟩:=m.pl.dn a u;have A:(adr<|YI b.h<|ZF b j).1=ZC (Zv b.h) 1+(ZF b j).Y:=by rw[m.pl.ga m.be a l,V9 m.be Z0,d]
    have heq:(ZC (Zv b.h) 1+(ZF b j).Y=ZC (Zv b.h) 1+(ZF b i).Y)↔j=i:=by
     constructor;intro e;let⟨w1,w2,w3⟩:=m.pl.da n Z0;have y:=jE<|ZR b i;have z:=jE<|ZR b j;have C:I (YX b x 1 i)=ZL (ZR b i):=by unfold YX;rw[Zhi w];exact Uz _ _ _ _
     have D:I (YX b x 1 j)=ZL (ZR b j):=by unfold YX;rw[Zhi d];exact Uz _ _ _ _
     by_cases t:j<i;let⟨r,k⟩:=Kq b x 1 (Z0:j+1<=i);rw[U6]at k;grind;by_cases q:i<j;let⟨r,k⟩:=Kq b x 1 (Z0:i+1<=j);rw[U6]at k;grind;omega;simp_all
    grind;have f:(ZF b j).part=2:=Z0;have o:(Y6 b j).part=0:=by
     by_cases h:(Y6 b j).part=0;exact h;exact absurd f (m.pl.dn a h).2.2.1
    grind
   grind
 have:=key (I b.g.nodes)<|Zhc _;rw[Zhi n]at this;exact this
end
end
section
section
variable {b:Bt}{x:Rw}
def Made.word(m:Made b x){k:Int}(a:1<=k/\k<=4){i t:Nat}(d:i<I b.g.nodes)(h:t< I (YX b x k i)):(Zx (Yu x b) k)[I (X6 b x k i)+t]?=(YX b x k i)[t]? :=by
 rw[GA m.pl a];obtain⟨r,f⟩:=Kq b x k (Z0:i+1<=I b.g.nodes);simp_all[U6,ZhW,Zhy,Zk6,ZhI]
def Ir{p:Pl}{n:Nd}{tw:Int}{j:Nat}(a:j<I n.M):∃q∈n.M,(XR b p n tw)[1+j]?=J (Vl b ⟨p.part,((p.Y.toNat+1+j:Nat):Int)⟩ q<|IntKind.i64.wrap<|tw+j):=by
 refine⟨n.M[j],Zhx a,?_⟩;simp_all[XR,Zkl,Zk3,ZhI,XX]
theorem B1(h:Hp)(p:Pts)(k j:Int):XD h p 0 k j=xk:=Zh2
def Made.oh(m:Made b x)(r:∀n∈b.g.nodes,∀q∈n.M,-1<=q/\q< (I b.g.nodes:Int)){i:Nat}(y:i<I b.g.nodes){k:Int}{p:Pl}(o:p.part=k){a:Nat}{d tw:Int}(f:d∈(ZR b i).M)(u:((Zx (Yu x b) k)[a]?).getD 0=Vl b ⟨p.part,(a:Int)⟩ d tw):Ui (Yu x b) (Qn b) k a=xk:=by
 have w:=r (ZR b i) (by simp_all[ZR,Zh8,Zhx]) d f;unfold Ui;simp only[u];unfold Vl;rw[o];by_cases l:d<0;simp_all[Zhi,B1];obtain⟨t,rfl⟩:=Zhp (Z0:0<=d);have j:t<I b.g.nodes:=Z0;rw[Zhg l];have g1:=m.my (i:=t) j;have g2:=m.te (i:=t) j;unfold ZF at g1;unfold Y6 at g2;simp only[Zhm];by_cases h:2<k;simp_all;rw[Zhg h,Zhg h];rw[m.fill.2.2.1];grind
def Made.M(m:Made b x)(C:∀n∈b.g.nodes,∀q∈n.M,-1<=q/\q< (I b.g.nodes:Int)){k:Int}(u:1<=k/\k<=4):WE (Yu x b) (Qn b) k=xk:=by
 unfold WE;rw[D2 b u,Zhn];intro o D;obtain⟨i,d,a⟩:=Jj.1 D;unfold qs;rw[Zhn];intro j h;rw[ZjR]at h;unfold Xe at a;split at a;rename_i f;simp at a;subst a;simp only[Zhm]at h;obtain⟨_,B,_⟩:=m.pl.da d Z0;rw[f]at B;have r:YX b x k i=XR b (ZF b i) (ZR b i) (IntKind.i64.wrap<|x.bj+i):=by unfold YX;rw[Zhi f]
 obtain⟨q,z,A⟩:=Ir (b:=b) (p:=ZF b i) (tw:=IntKind.i64.wrap<|x.bj+i) h;have w:=m.word u d (t:=1+j) Zgc;rw[r,A]at w;simp only;refine m.oh C d f (tw:=IntKind.i64.wrap<|IntKind.i64.wrap (x.bj+i)+j) z ?_;grind;rename_i f;split at a;rename_i l;obtain⟨_,B,_⟩:=m.pl.dn d Z0;rw[l]at B;split at a;rename_i y;simp at a;subst a;simp only[Zhm]at h;have r:YX b x k i=XR b (Y6 b i) (ZR b i) 0:=by unfold YX;rw[Zhg f,Zhi l,Zhi y]
 obtain⟨q,z,A⟩:=Ir (b:=b) (p:=Y6 b i) (tw:=0) h;have w:=m.word u d (t:=1+j) Zgc;rw[r,A]at w;simp only;refine m.oh C d l (tw:=IntKind.i64.wrap<|0+j) z ?_;grind;rename_i y;simp at a;subst a;simp only[Zhm]at h;have r:YX b x k i=VM b (ZF b i) (ZR b i):=by unfold YX;rw[Zhg f,Zhi l,Zhg y]
 have w:=m.word u d (t:=1+j) (by grind [Q1,ZL]);have F:(VM b (ZF b i)<|ZR b i)[1+j]?=J 0:=by
  unfold VM;rw[Zkl 1 j,Zk3,List.getElem?_replicate,Zhi (by grind [ZL])]
 grind [Ui,Int.toNat_natCast,X6,B1];grind
theorem Made.right(m:Made b x)(z:∀n∈b.g.nodes,∀q∈n.M,-1<=q/\q< (I b.g.nodes:Int)):YQ (Yu x b)=xk:=by
 have j:=m.fill.2.1;have a:(Yu x b).H.length=I b.h.H:=by have:=Zii Ly.H j;simp only[Zv]at this;omega
 have d:(Yu x b).ae.length=I b.h.ae:=by have:=Zii Ly.ae j;simp only[Zv]at this;omega
 have u:(Yu x b).ah.length=I b.h.ah:=by have:=Zii Ly.ah j;simp only[Zv]at this;omega
 have p:(Yu x b).aj.length=I b.h.aj:=by have:=Zii Ly.aj j;simp only[Zv]at this;omega
 have l:(Yu x b).cap=b.h.cap:=Zii Ly.cap j;refine OY ?_ m.ei ?_;unfold TC;have O:=m.Z;have y:=m.pl.ok.rl;have M:(Yu x b).E.length<=5:=by simp only[Yu,ZhM];exact y
 rw[j,m.be,m.fill.2.2.1,m.fill.2.2.2,a,u,p];grind;unfold Sk;simp only[Zhb,ZhG];refine⟨⟨⟨⟨⟨⟨?_,?_⟩,m.M z Z0⟩,m.M z Z0⟩,m.M z Z0⟩,m.M z Z0⟩,?_⟩;rw[m.fill.2.2.2];cases K:b.h.aa;rfl;simp only[Zkq,Zkp,Zhn];intro o G;obtain⟨i,F,f⟩:=Jj.1 G;have D:(ZF b i).part=1/\o.Y=(ZF b i).Y:=by
  unfold Xe at f;split at f;simp_all;split at f;rename_i N;have:=(m.pl.dn F Z0).1;omega;grind
 have A:=m.lu (k:=1) Z0 G;unfold Rr;rw[m.start Z0 A,D.2,ZhG];exact m.lf K F D.1;rw[Zhn];intro w H;simp only[Yu,Zhq]at H;obtain⟨r,L,rfl⟩:=H;have y:=m.pl.ok.vj r L;by_cases C:0<=r;rw[Zhi C];have B:=L5 (x:=x) m.pl.ok (I b.g.nodes)<|Zhc _;rw[Dc B];obtain⟨t,rfl⟩:=Zhp C;exact m.my (i:=t) Z0;simp_all[Zhg,B1];rw[a,d,l];exact m.room
end
end
section
def Z0p(l r:Zi):Yx (l++r)=Yx l+Yx r:=by simp[Yx]
section
variable {x:Rw}{c:Bool}
def ZbG{b:Bt}(f:Placed b x){i:Nat}(p:i<I b.g.nodes):Yx (Xe b 3 i)+Yx (Xe b 4 i)=if(ZF b i).part=0 then ZL (ZR b i)else 0:=by
 have q:((1:Nat)+(((ZR b i).M.length:Int)+(ZR b i).data.length).toNat)=ZL (ZR b i):=by unfold ZL;omega
 obtain⟨l,k,a,d⟩|⟨l,_⟩:=f.az i p;have j:(ZF b i).part=0:=by rw[l]
 rw[Zhi j];obtain rfl|rfl:=a<;>simp[Xe,j,d,Yx,WH,q];have h:¬(ZF b i).part=0:=Z0;have n:¬(ZF b i).part=3:=Z0;have o:¬(ZF b i).part=4:=Z0;have:∀k:Int,¬(ZF b i).part=k->Yx (Xe b k i)=0:=λk a=>by
  unfold Xe;rw[Zhg a,Zhg h];split<;>simp[Yx,WH]
 rw[Zhg h,this 3 n,this 4 o]
def Z0t(hx:x.ok):∀j,j<=(ZY x.nodes x.E).nodes.length->Yx ((List.range j).flatMap<|Xe (Ym x c) 3)+Yx ((List.range j).flatMap<|Xe (Ym x c) 4)=(Y3 x c (ZY x.nodes x.E) j).wt
 |0,_=>rfl
 |j+1,g=>by
  have h:=Z0t hx j Z0;have a:=ZbG (PM (c:=c) hx) (i:=j) (by rw[Rq];omega);rw[KS Z0]at a;have f:ZR (Ym x c) j=((ZY x.nodes x.E).nodes[j]?).getD default:=rfl;rw[f]at a;rw[Zjv,Zja,Zja,Z0p,Z0p,Y3];simp only[ZkS,List.flatMap_nil,ZiE];generalize ((ZY x.nodes x.E).nodes[j]?).getD default=n at*;unfold Q2 at a;simp only[X9];obtain d|d|⟨d,rfl⟩:=SL x j c;simp[d]at a⊢;omega;simp[d]at a⊢;omega;simp[d]at a⊢;omega
def Z6r(x:Rw)(c:Bool):∀n∈(Ym x c).g.nodes,∀q∈n.M,-1<=q/\q< ((Ym x c).g.nodes.length:Int):=by
 rw[Rq];exact IZ x.nodes x.E
def Mq(hc:c=xw):∀j,(Y3 x c (ZY x.nodes x.E) j).n3=0/\(Y3 x c (ZY x.nodes x.E) j).n4=0
 |0=>⟨rfl,rfl⟩
 |j+1=>by
  have:=Mq hc j;subst hc;simpa[Y3,X9]using this
def IS(hx:x.ok)(hc:c=xk->(Ym x xk).h.H.length≠0):Made (Ym x c) x:=by
 obtain⟨k1,y,z⟩:=JR hx c;refine⟨PM hx,z,?_,?_,?_,?_,y⟩;rw[Rq];exact DR x;intro a i l j;have k:c=xk:=a;subst k;rw[Rq]at l;rw[KS l]at j;rw[qA l];unfold Q2 at j;unfold Jv;obtain f|f|⟨f,_⟩:=SL x i xk;simp[f]at j;simp[f];cases Wx x i<;>simp;simp[f]at j;have d:(Ym x c).h.H.length=(Y3 x c (ZY x.nodes x.E) (ZY x.nodes x.E).nodes.length).n1:=by simp[Ym]
 cases c;obtain⟨p,q⟩:=Mq (x:=x) (c:=xw) rfl (ZY x.nodes x.E).nodes.length;rw[d];have o:(Ym x xw).h.Z=((Y3 x xw (ZY x.nodes x.E) (ZY x.nodes x.E).nodes.length).n1:Int):=by simp[Ym]
 have a:(Ym x xw).h.aa=xw:=rfl;rw[o,a];simp only[Zhu,Zif];refine⟨Z0,Z0,trivial,?_,?_⟩<;>simp[Ym,p,q];have f:=hc rfl;rw[d]at f;rw[d];have o:(Ym x xk).h.Z=pick x.Z (Y3 x xk (ZY x.nodes x.E) (ZY x.nodes x.E).nodes.length).n1:=by
  simp only[Ym];rw[Zhi ⟨trivial,Z0⟩]
 have a:(Ym x xk).h.aa=xk:=rfl;have u:=Uh (c:=x.Z) (n:=((Y3 x xk (ZY x.nodes x.E) (ZY x.nodes x.E).nodes.length).n1:Int)) Z0;rw[o,a];simp only[Zi9];omega;have w:=Z0t (c:=c) hx (ZY x.nodes x.E).nodes.length<|Zhc _;have t:(Ym x c).h.H.length=(Y3 x c (ZY x.nodes x.E) (ZY x.nodes x.E).nodes.length).n1:=by simp[Ym]
 have r:(Ym x c).h.ae.length=(Y3 x c (ZY x.nodes x.E) (ZY x.nodes x.E).nodes.length).n2:=by simp[Ym]
 have g:(Ym x c).h.cap=max (((Y3 x c (ZY x.nodes x.E) (ZY x.nodes x.E).nodes.length).n1:Int)+(Y3 x c (ZY x.nodes x.E) (ZY x.nodes x.E).nodes.length).n2+(Y3 x c (ZY x.nodes x.E) (ZY x.nodes x.E).nodes.length).wt) (((Y3 x c (ZY x.nodes x.E) (ZY x.nodes x.E).nodes.length).n3:Int)+(Y3 x c (ZY x.nodes x.E) (ZY x.nodes x.E).nodes.length).n4)+pick x.bj 12:=rfl;have u:=Uh (c:=x.bj) (n:=12) Z0;unfold obs;rw[Rq,w,t,r,g];omega
def Z4j(hx:x.ok):∃c,Ub x=Yu x (Ym x c)/\Made (Ym x c) x:=by
 unfold Ub;by_cases h:(Ym x xk).h.H.length=0;rw[Zhi h];exact⟨xw,rfl,IS hx Z1⟩;rw[Zhg h];exact⟨xk,rfl,IS hx λ_=>h⟩
def Z4l(hx:x.ok):YQ (Ub x)=xk:=by
 obtain⟨c,h,m⟩:=Z4j hx;rw[h];exact m.right<|Z6r x c
end
end
def Kh:Prop:=∀(h:Hp) (p:Pts) (k:Int),h.ok->Rt h p->0<=k->Y7 k->VC xP 47 xw [ZM h,vi k] (.aq [ZM<|scanK h k.toNat,vi 0])
def yh(h:Hp):Hp×Int:=if YQ h=xw then(Hp.zero,1)else(scanK h 9223372036854775807,0)
def Z0J(f:Kh){h:Hp}(a:h.ok):VC xP 26 xw [ZM h]<|.aq [ZM (yh h).1,vi (yh h).2]:=by
 refine ZT Z1l follows Z2 c26 rfl ?_;have k1:=zA a;simp only[ZM]at k1;unfold yh;simp[Nj];refine Zz k1 Z1 ?_;cases g:YQ h;simp[ZM,Hp.zero];obtain⟨p,r⟩:=jj.1 g;have d:=f h p 9223372036854775807 a r Z0 ⟨Z0,Z0⟩;simp only[ZM]at d⊢;simp;refine Zz d Z1 ?_;simp
end Vm
end
section
namespace Vm
open Go Go.Proofs Go.RowKit
def Z9Z:Kh:=by
 intro h p k D r K C;obtain⟨n,rfl⟩:=Zhp K;rw[Zhm];refine⟨Z2,λw G vs A l d=> ?_⟩;have r0:=d 0 _ rfl;have N:=d 1 _ rfl;have B:vs=#[vs.getD 0 xy,vs.getD 1 xy]:=by
  have a:vs.size=2:=l;apply ZjX;simp[a];intro i q t;have F:i<2:=Z0
  match i,F with
  |0,_=>simp[Array.getD,a]
  |1,_=>simp[Array.getD,a]
 obtain⟨o,u,M⟩:=Hk r0;have z:=Uj N;rw[B,u,z];refine(Za0 w G A h D o M r (by have:=C.2;omega)).mono ?_;rintro e O ⟨x,rfl,g,L⟩;refine⟨_,rfl,g,?_⟩;refine .aq _ _ rfl ?_;intro i y f
 match i,f with
 |0,f=>cases f;exact yE λj H=>qG (k:=.u64) (L.own j H) λc q t=>.inr ⟨q,t⟩
 |1,f=>cases f;exact .int _ _
end Vm
end
section
namespace Vm
open Go Go.Proofs
def Un(h:Hp)(p:Pts):Int:=I h.H+I h.ae+X4 p
end Vm
end
section
namespace Vm
open Go Go.Conc Go.ConcN
section
section
variable {P:Z5}{Stop:Za}{b:Zf}{k:Zn}{cs:Z8}{a:Act}{w:Z3}
def Walk.cw{x y:Code}(h:Walk P Stop (b.at a<|.code x:: .code y::k) cs w):Walk P Stop (b.at a<|.code (.seq x y)::k) cs w:=.go (λw=>stepG_seq) h
def Walk.region{id:Nat}{ops:Zm}(h:Walk P Stop (b.at a<|.inRegion ops (List.range ops.size)::k) cs w):Walk P Stop (b.at a<|.code (.region id ops xw)::k) cs w:=.go (λw=>stepG_region) h
def Walk.gw{ops:Zm}(h:Walk P Stop (b.at a k) cs w):Walk P Stop (b.at a<|.inRegion ops []::k) cs w:=.go (λw=>stepG_region_end) h
def Walk.val{ops:Zm}{i:Nat}{rest:Zb}{o:Oper}{v:Zg}(q:ops[i]?=J o)(r:Region.wanted o (yielded ops a.tmps)=xk)(p:b.kind≠.early)(n:QU P o.op=xk)(j:∀g:Z3,g.heap=w.heap->(execOp a.eval o).run P g=.ok (.value v) g)
  (h:Walk P Stop (b.at (a.put o.dst v)<|.inRegion ops rest::k) cs w):Walk P Stop (b.at a<|.inRegion ops (i::rest)::k) cs w:=by
 refine .one λd=> ?_;have f:EvsB (xz<|xj<|Ye<|(execOp a.eval o).run P<|w.at d)<|listed P b.fn a o<|w.at d:=λe l=>Gu n a (w.at d) e<|mem_listed l;rw[j (w.at d) rfl]at f;exact⟨_,_,_,_,stepG_value q r p<|j (w.at d) rfl,Zhc _,f,h.at d⟩
def Walk.chan{ops:Zm}{i:Nat}{rest:Zb}{o:Oper}{t p:Zh}{dir:ChanDir}{inf:TypeInfo}{f:IntKind}(z:ops[i]?=J o)(B:Region.wanted o (yielded ops a.tmps)=xk)(y:b.kind≠.early)(j:o.op=.makeChan t (.const<|.int f 0))(l:P.underlying t=J (.chan dir p))(g:P.info? p=J inf)
  (h:Walk P Stop (b.at (a.put o.dst<|.chan<|J<|xz<|xj w)<|.inRegion ops rest::k) cs<|w.alloc<|.chan 0 #[] xw 0 0 xw):Walk P Stop (b.at a<|.inRegion ops (i::rest)::k) cs w:=by
 refine .one λd=> ?_;have n:execOp a.eval o=(do pure (.value<|<-Instr.makeChan t (.int f (0:Nat))):Sem Next):=by unfold execOp;simp only[j];rfl
 have A:(execOp a.eval o).run P (w.at d)=.ok (.value<|.chan<|J<|xz<|xj w) ((w.alloc<|.chan 0 #[] xw 0 0 xw).at d):=by
  rw[n];simp only[ZhV,run_makeChan (w:=w.at d) l g f 0 Z0 Z0,ZhU];rfl
 have x:(execOp a.eval o).events P (w.at d) #[]=#[]:=by
  rw[n];have q:=events_makeChan (P:=P) (w:=w.at d) l g f 0 Z0 Z0 #[];have r:(Instr.makeChan t<|.int f (0:Nat)).runT P (w.at d) #[]=(.ok (.chan<|J<|xz<|xj w)<|(w.alloc<|.chan 0 #[] xw 0 0 xw).at d, #[]):=by
   refine ZjP ?_ q;rw[Zji];exact run_makeChan (w:=w.at d) l g f 0 Z0 Z0
  show((Sem.bind _ _).runT P (w.at d) #[]).2=_;rw[Zjn,r];rfl
 refine⟨_,_,_,_,stepG_value z B y A,by show xz (xj w)<=xz (xj<|w.alloc _);simp,λe u=> ?_,h.at d⟩;have:=mem_listed u;simp_all
def Walk.uy{fr B:Zf}{f:Zj}(T:∀w:Z3,stepG P xk (G fr cs) w=.spawn (G B cs) f w #[])
  (H:∀(n d:Nat) (gs:Zd) (sl:Option<|Nat×Nat) (t:Trace) (q:Zl),0<n->gs.size=n+1->gs[0]?=J (G B cs)->gs[n]?=J f->YO P n gs q->(∀Z OB M,TI n Z OB M (xz<|xj w) t)->Win P (Et P Stop) gs (w.at d) sl t):Walk P Stop fr cs w:=by
 intro d0 gs sl t q hl N o;have R:∀(a:Zd) g,a[a.size]? ≠J g:=λa g e=>by
  simp_all
 refine skip hl (λi g O r=> ?_) ⟨0,_,.inl rfl,N,rfl⟩ λa d L q' i g a1 z Q O a2 a0=> ?_;obtain rfl|rfl:=O;rw[N]at r;cases r;exact⟨awake_of<|.inl rfl,λg1 g2 d=>woken_run rfl⟩;simp_all;obtain rfl|rfl:=O;have C:a[0]?=J (G fr cs):=by rw[z 0<|.inl rfl];exact N
 have F:0<a.size:=(Zhe.1 C).1;have u:=runT_crowd_spawn (P:=P) (sl:=L) (i:=0) (w:=w.at d) C<|T<|w.at d;refine⟨_,_,_,_,u,?_⟩;generalize hx:({g:=0,fn:=(G fr cs).frame.fn,pos:=(G fr cs).frame.place,act:=.go a.size}:MemOp)=x;generalize hy:({g:=a.size,fn:=f.frame.fn,pos:=(G fr cs).frame.place,act:=.start}:MemOp)=y;have D:((MemOp.ofEvents 0 (G fr cs).frame.fn (G fr cs).frame.place #[]).push x).push y=#[x,y]:=by simp[MemOp.ofEvents]
 rw[D];have W:x.g=0/\x.act=.go a.size:=by rw[<-hx];exact⟨rfl,rfl⟩
 have X:y.g=a.size/\y.act=.start:=by rw[<-hy];exact⟨rfl,rfl⟩
 refine H a.size d _ L _ q' F Z1 ?_ Zgc (λj g hj a3 r=> ?_) λZ OB M=> ?_;grind;rw[Zjx]at r;simp only[Zjs]at r;rw[Zhg Z0,Zi5 Z0]at r;exact Q j g hj Z0 r;have t0:TI a.size (λ_=>True) (λ_=>False) M (xz<|xj w) t:=⟨o.gi,o.du,o.H,λi op x l k A=>.inl<|o.iy i op x l k A,λi op x l k A=>.inr<|.inr ⟨λ_=>by simp_all[IX,trivial],λb _ h=>h⟩⟩
 have Y:=t0.comm (Zhc _) #[x,y] (λop S=>by
  have:op=x\/op=y:=by simpa using S
  obtain rfl|rfl:=this;simp_all[MemAct.touch?];simp_all[MemAct.touch?])
 have K:∀(i:Nat) (op:MemOp) (p:Touch),(t++ #[x,y])[i]?=J op->op.act.touch?=J p->t[i]?=J op:=λi op p l k=>by
  obtain⟨_,h⟩|⟨_,h⟩:=getElem?_append_cases l;exact h;have:op=x\/op=y:=Zh5;obtain rfl|rfl:=this;simp_all[MemAct.touch?];simp_all[MemAct.touch?]
 refine⟨Y.gi,Y.du,Y.H,λi op p l k A=>.inl<|(o.iy i op p (K i op p l k) k A).app _,λi op p l k A=>.inr<|.inl ?_⟩;exact fork_knows W X (o.du 0) (o.du _)<|o.iy i op p (K i op p l k) k A;simp_all
def Walk.uz{fr o:Zf}{f:Zj}{c:Nat}{KA KB OA0:Z4}{StopA:(Nat->Prop)->Goroutine->World->Prop}{vs:Zp}{z:Zg}(C:∀w:Z3,stepG P xk (G fr cs) w=.spawn (G o cs) f w #[])
  (Q:Play P xk c KA StopA (vs.map .recv++[.closed z]) OA0 (G o cs) w) (R:Play P xw c KB (UN P c) (vs.map .send) (λ_=>False) f w) (p:w.heap[c]?=J (.chan 0 #[] xw 0 0 xw))
  (la:∀b,OA0 b->b<xz (xj w)) (ka:∀b,KA b->b<xz (xj w)) (kb:∀b,KB b->b<xz (xj w)) (H:∀b,OA0 b->¬KB b) (N:¬OA0 c) (x:¬KA c) (y:¬KB c)
  (r:∀u a j,StopA u a j->xz (xj w)<=xz (xj j)->j.tape=w.tape->(j.os,j.output)=(w.os,w.output)->(∀b,u b->(OA0 b\/xz (xj w)<=b)/\b<xz (xj j))->(∀b,b<xz (xj w)->¬OA0 b->b≠c->j.heap[b]?=w.heap[b]?)->∃l k,a=G l k/\Walk P Stop l k j):Walk P Stop fr cs w:=by
 refine .uy C λn d gs sl t q X D O B W F=> ?_;have S:Cfg P n c KA KB OA0 (w.at d) OA0 (λ_=>False) gs (w.at d) t q:=
  ⟨X,W,F _ _ _,la,λ_ h=>h.elim,ka,kb,λ_ _ h=>h,H,N,x,y,(Zhe.1 p).1,Zhc _,rfl,rfl,λ_ h=>.inl h,λ_ h=>h.elim,λ_ _ _ _=>rfl⟩
 have Y:=(Z7U (P:=P) (n:=n) (KB:=KB) (OA0:=OA0) (w0:=w.at d) Q).ug vs z (λ_=>False) f gs (w.at d) sl t q 0 0 xw rfl S D O B (Rely.at _ _ _ d) (.run<|R.gx<|Rely.at _ _ _ d) p;refine Y.bind λA w1 K t1 ⟨M,u,OB,q1,Z,k1,k2,g,k4,k5⟩=> ?_;obtain⟨l,k,rfl,T⟩:=r u M w1 k2 g.b0 g.tape g.os (λb L=>⟨g.oa b L,g.la b L⟩) g.fr;exact T w1.drawn A K t1 q1 k4 Z ⟨g.ti.gi,g.ti.du,g.ti.H,k5⟩
end
end
end Vm
end
section
namespace Vm
open Go Go.Conc
section
section
variable {Q:Z5}{c:Nat}{Post:Za}{es:List Ev}{fr fr':Zf}{cs cs':Z8}{w w':Z3}
def LS.ci:∀ {es:List Ev} {fr fr':Zf} {cs cs':Z8} {w w':Z3},Steps Q (lone fr (cs++[YS Q]) w) (lone fr' (cs'++[YS Q]) w')->LS Q c Post es fr' cs' w'->LS Q c Post es fr cs w
 | [],_,_,_,_,_,_,h,⟨n,a,c2,w2,d,f⟩=>let⟨m,g⟩:=Steps.trans h ⟨n,d⟩;⟨m,a,c2,w2,g,f⟩
 |e::es,_,_,_,_,_,_,h,⟨n,a,c2,w2,d,f⟩=>let⟨m,g⟩:=Steps.trans h ⟨n,d⟩;⟨m,a,c2,w2,g,f⟩
def LS.ev{e:Ev}(h:VG Q c e fr)(k:LS Q c Post es (XB e fr) cs w):LS Q c Post (e::es) fr cs w:=⟨0,fr,cs,w,rfl,h,k⟩
def LS.ke(h:Post fr cs w):LS Q c Post [] fr cs w:=⟨0,fr,cs,w,rfl,h⟩
end
def Ei{P:Z5}{ops:Zm}{w:Z3}{Q g:Act->Prop}(h:∀a,Q a->g a):∀(l:List Oper) (a:Act),wpStill P ops w Q l a->wpStill P ops w g l a
 | [],a,d=>h a d
 |o::l,a,d=>by
  simp only[wpStill]at d⊢;split;rename_i f;rw[Zhi f]at d;exact Oper.still_mono (λa=>Ei h l a) d;rename_i f;rw[Zhg f]at d;exact Ei h l _ d
def Ys:Code->List Nat->Code
 |c,[]=>c
 |.seq a _,0::l=>Ys a l
 |.seq _ b,_::l=>Ys b l
 |.cond _ a _,0::l=>Ys a l
 |.cond _ _ b,_::l=>Ys b l
 |.block _ a,_::l=>Ys a l
 |.loop a,_::l=>Ys a l
 |.scope a,_::l=>Ys a l
 |c,_=>c
def Ls:Code->Array Oper
 |.region _ ops _=>ops
 |_=> #[]
def jU(Q:Z5)(c:Nat)(Post:Za)(es:List Ev)(b:Zf)(k:Zn)(cs:Z8):Exit->Act->World->Prop
 |.normal,a,w=>LS Q c Post es (b.at a k) cs w
 |.exit id,a,w=>∃k',exitTo id k=J k'/\LS Q c Post es (b.at a k') cs w
 |.ret,a,w=>∀d,LS Q c Post es {b.at a d with mode:=.returning} cs w
 |_,_,_=>False
def SC(Q:Z5)(c:Nat)(x:Code)(R:List Ev->Exit->Act->World->Prop)(es:List Ev)(a:Act)(w:Z3):Prop:=
 ∀(Post:Za) (b:Zf) (k:Zn) (cs:Z8),(∀d e f w',R d e f w'->jU Q c Post d b k cs e f w')->LS Q c Post es (b.at a<|.code x::k) cs w
def ST(Q:Z5)(c:Nat)(ops:Zm)(R:List Ev->Exit->Act->World->Prop)(l:Zb)(es:List Ev)(a:Act)(w:Z3):Prop:=
 ∀(Post:Za) (b:Zf) (k:Zn) (cs:Z8),(∀d e f w',R d e f w'->jU Q c Post d b k cs e f w')->LS Q c Post es (b.at a<|.inRegion ops l::k) cs w
section
variable {Q:Z5}{c:Nat}{R R':List Ev->Exit->Act->World->Prop}{es:List Ev}{a:Act}{w:Z3}{x y:Code}
variable {ops:Zm}{l:Zb}
def SC.ux{id:Nat}(h:∀t,ST Q c ops R (Region.schedule (Q.follows .mixedOrders) ops t) es a {w with drawn:=w.drawn+1}):SC Q c (.region id ops xk) R es a w:=λPost b k cs d=>LS.ci (.one step_region_draw)<|h _ Post b k cs d
def ST.nil(h:R es .normal a w):ST Q c ops R [] es a w:=λPost b k cs d=>LS.ci (.one step_region_end)<|d _ _ _ _ h
def ST.tv{i:Nat}(g:((ops[i]?).map (Region.wanted · (yielded ops a.tmps))).getD xw=xw)(f:ST Q c ops R l es (a.put ((ops[i]?).bind (·.dst)) xy) w):ST Q c ops R (i::l) es a w:=λPost b k cs d=>
 LS.ci (.one<|step_op_skip g) (f Post b k cs d)
def ST.still{i:Nat}{K:Act->Prop}(h:stOp Q ops w i K a)(t:∀a,K a->ST Q c ops R l es a w):ST Q c ops R (i::l) es a w:=by
 unfold stOp at h;cases q:ops[i]? with
 |none=>
  rw[q]at h;refine .tv (by simp[q]) ?_;simp_all[Option.bind_none,Act.put]
 |some o=>
  rw[q]at h;dsimp only at h;by_cases u:Region.wanted o (yielded ops a.tmps)=xk;rw[Zhi u]at h;unfold Oper.still at h;intro Post b k cs r;have A:=stepG_op (P:=Q) (b:=b) (k:=k) (cs:=cs++[YS Q]) (w:=w) (rest:=l) q u;have y:∀v,(b.at a<|.inRegion ops (i::l)::k).finish v=b.at (a.put o.dst v) (.inRegion ops l::k):=λv=>by grind [Frame.finish_at]
  revert h
  cases B:(execOp a.eval o).run Q w with
  |halt x w'=>exact False.elim
  |ok n w'=>
   cases n<;>first|exact False.elim|skip
   rename_i v;rintro⟨rfl,h⟩;refine LS.ci (.one<|ZkI ?_)<|t _ h Post b k cs r;simp_all[stepG.apply];rintro⟨rfl,h⟩;refine LS.ci (.one<|ZkI ?_)<|t _ h Post b k cs r;simp_all[stepG.apply];rename_i f args;rintro⟨rfl,v,z,h⟩;obtain⟨e,j,fr,⟨rfl,rfl⟩,g,_,p⟩:=z<|b.at a (.inRegion ops (i::l)::k)::(cs++[YS Q]);have d:step Q (lone (b.at a<|.inRegion ops (i::l)::k) (cs++[YS Q]) j)=.next (lone (Frame.enter Q f args .normal) (b.at a (.inRegion ops (i::l)::k)::(cs++[YS Q])) j):=
    ZkI (by simp_all[stepG.apply,Frame.at])
   refine LS.ci (.head d<|g.trans<|.one ?_)<|t _ h Post b k cs r;grind [step_leave_returned]
  rw[Zhg u]at h;refine .tv Zgd ?_;simp_all
def ST.ev{i:Nat}{o:Oper}{e:Ev}(A:ops[i]?=J o)(G:Region.wanted o (yielded ops a.tmps)=xk)(y:match e with
   |.recv _|.closed _=>∃t f d h inf z,o.op=.recv t f xk/\Y0 f=xk/\a.eval f=.chan (J c)/\Q.underlying t=J (.chan d h)/\Q.info? h=J inf/\inf.zero=J z/\∀B,e=.closed B->B=z
   |.send v=>∃f x,o.op=.send f x/\Y0 f=xk/\Y0 x=xk/\a.eval f=.chan (J c)/\a.eval x=v)
  (F:ST Q c ops R l es (a.put o.dst e.val) w):ST Q c ops R (i::l) (e::es) a w:=λPost b k cs D=>by
 refine LS.ev ⟨ops,i,l,k,o,rfl,rfl,A,G,?_⟩ ?_;have g:∀x,(b.at a<|.inRegion ops (i::l)::k).eval x=a.eval x:=Frame.eval_at b a _;cases e with
 |recv v=>obtain⟨t,f,d,h,inf,z,j,n,p,q,r,u,_⟩:=y;exact⟨t,f,d,h,inf,z,j,n,by rw[g];exact p,q,r,u⟩
 |closed v=>obtain⟨t,f,d,h,inf,z,j,n,p,q,r,u,C⟩:=y;exact⟨t,f,d,h,inf,j,n,by rw[g];exact p,q,r,by rw[C v rfl];exact u⟩
 |send v=>obtain⟨f,x,j,n,p,q,r⟩:=y;exact⟨f,x,j,n,p,by rw[g];exact q,by rw[g];exact r⟩
 have:XB e (b.at a<|.inRegion ops (i::l)::k)=b.at (a.put o.dst e.val) (.inRegion ops l::k):=by
  unfold XB;rw[ZjK,A];rfl
 rw[this];exact F Post b k cs D
def ST.head{md:Region.Mode}{n g:Nat}{L:Array Bool->Act->Prop}:∀(f t:Nat) (listed:Array Bool) (a:Act),wpAnyL Q md ops w n L f listed a->(∀listed a t,L listed a->ST Q c ops R (Region.linearise.go md ops g t listed []) es a w)->
  ST Q c ops R (Region.linearise.go md ops (f+g) t listed []) es a w
 |0,t,listed,a,h,j=>by rw[ZhZ];exact j _ _ _ h
 |f+1,t,listed,a,h,j=>by
  obtain⟨p,q⟩:=h;rw[show f+1+g=(f+g)+1 by omega];simp only[Region.linearise.go]
  change ST Q c ops R (match(Region.ready md ops listed)[t% I (Region.ready md ops listed)]? with
   |some i=>Region.linearise.go md ops (f+g) (t / I (Region.ready md ops listed)) (listed.setIfInBounds i xk) [i]
   |none=>[].reverse) es a w
  cases k:(Region.ready md ops listed)[t% I (Region.ready md ops listed)]? with
  |none=>
   exfalso;have d:0< I (Region.ready md ops listed):=Zkz.2 p;have:=ZiY.1 k;have:=Zks t d;omega
  |some i=>
   simp only[];rw[linearise_go_acc,Zl2,Zlc];exact ST.still (q i<|Zhh k).2 λl o=>ST.head f _ _ l o j
def ST.mc{n:Nat}{listed:Array Bool}{t:Nat}(h:Region.seqB .any ops 1 n listed=xk)(d:ST Q c ops R [n] es a w):ST Q c ops R (Region.linearise.go .any ops 1 t listed []) es a w:=by
 simp only[Region.seqB,Zhb,ZhG]at h;simp only[Region.linearise.go]
 change ST Q c ops R (match(Region.ready .any ops listed)[t% I (Region.ready .any ops listed)]? with
   |some i=>[i]
   |none=>[]) es a w
 grind
def SC.mc{id n:Nat}{l:List Oper}(B:Q.follows .mixedOrders=xk)(u:Region.lexTailB .any l.toArray n=xk)(q:I l=n+1)(h:wpStill Q l.toArray {w with drawn:=w.drawn+1} (λp=>ST Q c l.toArray R [n] es p {w with drawn:=w.drawn+1}) (l.take n) a):SC Q c (.region id l.toArray xk) R es a w:=by
 refine SC.ux λt=> ?_;simp only[Region.lexTailB,Zhb,ZhG]at u;obtain⟨⟨⟨⟨k,y⟩,D⟩,z⟩,f⟩:=u;have C:n<I l:=by simpa using y
 have r:I (l.take n)=n:=Zge;have A:l.toArray.size-n=1:=Zge;rw[A]at f;have o:HeadInv .any l.toArray n<|Array.replicate l.toArray.size xw:=
  ⟨Z1,λj M _ G=>(by grind [getD_replicate_false]),λt _ K=>getD_in Zgc<|getD_replicate_false _ _⟩
 have H:=wpAnyL_lex (md:=.any) (g:=1) k D z y (l.take n) 0 _ a (λj F=>by
  simp_all) Z0 o Zgd h
 simp only[Region.schedule,B,Bool.true_or,Zi9,Region.linearise];have e:l.toArray.size=I (l.take n)+1:=by rw[r];simpa using q
 rw[e];exact ST.head (L:=λd p=>Region.seqB .any l.toArray 1 n d=xk/\ST Q c l.toArray R [n] es p {w with drawn:=w.drawn+1}) _ t _ a (by rw[<-e];exact H) λlisted p N x=>ST.mc x.1 x.2
end
section
variable {Q:Z5}{c:Nat}{Post:Za}{es:List Ev}{a:Act}{w:Z3}{x y:Code}{b:Zf}{k k':Zn}{cs:Z8}
def LS.cw(h:LS Q c Post es (b.at a<|.code x:: .code y::k) cs w):LS Q c Post es (b.at a<|.code (.seq x y)::k) cs w:=LS.ci (.one step_seq) h
def LS.py{o:Operand}(hc:a.eval o=.bool xk)(h:LS Q c Post es (b.at a<|.code x::k) cs w):LS Q c Post es (b.at a<|.code (.cond o x y)::k) cs w:=LS.ci (.one<|step_cond hc) h
def LS.pv{o:Operand}(hc:a.eval o=.bool xw)(h:LS Q c Post es (b.at a<|.code y::k) cs w):LS Q c Post es (b.at a<|.code (.cond o x y)::k) cs w:=LS.ci (.one<|step_cond hc) h
def LS.skip(h:LS Q c Post es (b.at a k) cs w):LS Q c Post es (b.at a<|.code .skip::k) cs w:=LS.ci (.one step_skip) h
def LS.block{id:Nat}(h:LS Q c Post es (b.at a<|.code x:: .inBlock id::k) cs w):LS Q c Post es (b.at a<|.code (.block id x)::k) cs w:=LS.ci (.one step_block) h
def LS.inBlock{id:Nat}(h:LS Q c Post es (b.at a k) cs w):LS Q c Post es (b.at a<|.inBlock id::k) cs w:=LS.ci (.one step_inBlock) h
theorem LS.inLoop(h:LS Q c Post es (b.at a<|.code x:: .inLoop x::k) cs w):LS Q c Post es (b.at a<|.inLoop x::k) cs w:=LS.ci (.one step_inLoop) h
def LS.exit{id:Nat}(d:exitTo id k=J k')(h:LS Q c Post es (b.at a k') cs w):LS Q c Post es (b.at a<|.code (.exit id)::k) cs w:=LS.ci (.one<|step_exit d) h
def LS.rf(I:Nat->List Ev->Act->World->Prop){n:Nat}(d:I n es a w)(f:∀n es a w,I n es a w->(∀m es a w,m<n->I m es a w->LS Q c Post es (b.at a<|.inLoop x::k) cs w)->LS Q c Post es (b.at a<|.code x:: .inLoop x::k) cs w):LS Q c Post es (b.at a<|.code (.loop x)::k) cs w:=by
 have key:∀n es a w,I n es a w->LS Q c Post es (b.at a<|.code x:: .inLoop x::k) cs w:=by
  intro n;induction n using Nat.strongRecOn with
  |_ n g=>grind [inLoop]
 exact LS.ci (.one step_loop)<|key n es a w d
def LS.wp{R:Zk}(h:x.wp Q R a w)(n:∀e f w',R e f w'->jU Q c Post es b k cs e f w'):LS Q c Post es (b.at a<|.code x::k) cs w:=by
 obtain⟨e,f,w',q,r⟩:=h b k<|cs++[YS Q];have g:=n e f w' q;cases e with
 |normal=>exact LS.ci r g
 |exit id=>obtain⟨k',j,l⟩:=g;exact LS.ci (r k' j) l
 |ret=>obtain⟨d,r⟩:=r;exact LS.ci r<|g d
 |_=>exact g.elim
def LS.dv(h:∀K:Act->World->Prop,(∀a w,LS Q c Post es (b.at a k) cs w->K a w)->x.wp Q (λe a w=>e=.normal/\K a w) a w):LS Q c Post es (b.at a<|.code x::k) cs w:=
 LS.wp (h _ λ_ _ q=>q) λe g w' ⟨d,f⟩=>by subst d;exact f
def LS.send{id n:Nat}{l:List Oper}{v:Zg}(z:Q.follows .mixedOrders=xk)(x:Region.lexTailB .any l.toArray n=xk)(q:I l=n+1){o:Oper}{g j:Operand}(B:l[n]?=J o)(y:o.guard=U)(p:o.op=.send g j)(u:Y0 g=xk)(h2:Y0 j=xk)
  (h:wpStill Q l.toArray {w with drawn:=w.drawn+1} (λd=>d.eval g=.chan (J c)/\d.eval j=v/\LS Q c Post es (b.at (d.put o.dst xy) k) cs {w with drawn:=w.drawn+1}) (l.take n) a):LS Q c Post (.send v::es) (b.at a<|.code (.region id l.toArray xk)::k) cs w:=
 SC.mc (R:=λf e d w'=>e=.normal/\LS Q c Post f (b.at d k) cs w') z x q (Ei (λd ⟨r,t,A⟩=>ST.ev (o:=o) Zgc (by simp[Region.wanted,y]) ⟨g,j,p,u,h2,r,t⟩<|.nil ⟨rfl,A⟩) _ _ h) Post b k cs λf e d w' ⟨r,t⟩=>by subst r;exact t
def LS.region{id:Nat}{ops:Zm}(h:LS Q c Post es (b.at a<|.inRegion ops (List.range ops.size)::k) cs w):LS Q c Post es (b.at a<|.code (.region id ops xw)::k) cs w:=LS.ci (.one step_region) h
def LS.value{ops:Zm}{i:Nat}{l:Zb}{o:Oper}{v:Zg}{w':Z3}(g:ops[i]?=J o)(j:Region.wanted o (yielded ops a.tmps)=xk)(h:(execOp a.eval o).run Q w=.ok (.value v) w')(f:LS Q c Post es (b.at (a.put o.dst v)<|.inRegion ops l::k) cs w'):LS Q c Post es (b.at a<|.inRegion ops (i::l)::k) cs w:=by
 have d:(b.at a<|.inRegion ops (i::l)::k).finish v=b.at (a.put o.dst v) (.inRegion ops l::k):=by grind [Frame.finish_at]
 refine LS.ci (.one<|ZkI ?_) f;simp_all[stepG_op,stepG.apply]
def LS.gw{ops:Zm}(h:LS Q c Post es (b.at a k) cs w):LS Q c Post es (b.at a<|.inRegion ops []::k) cs w:=LS.ci (.one step_region_end) h
def LS.ua{ops:Zm}{i:Nat}{l:Zb}{o:Oper}{e:Ev}(n:ops[i]?=J o)(p:Region.wanted o (yielded ops a.tmps)=xk)(q:match e with
   |.recv _|.closed _=>∃t f d g inf z,o.op=.recv t f xk/\Y0 f=xk/\a.eval f=.chan (J c)/\Q.underlying t=J (.chan d g)/\Q.info? g=J inf/\inf.zero=J z/\∀h,e=.closed h->h=z
   |.send v=>∃f x,o.op=.send f x/\Y0 f=xk/\Y0 x=xk/\a.eval f=.chan (J c)/\a.eval x=v)
  (r:LS Q c Post es (b.at (a.put o.dst e.val)<|.inRegion ops l::k) cs w):LS Q c Post (e::es) (b.at a<|.inRegion ops (i::l)::k) cs w:=by
 refine LS.ev ⟨ops,i,l,k,o,rfl,rfl,n,p,?_⟩ ?_;have j:∀x,(b.at a<|.inRegion ops (i::l)::k).eval x=a.eval x:=Frame.eval_at b a _;grind;simp_all[XB,ZjK]
end
end
end Vm
end
section
namespace Vm
open Go Go.Proofs
noncomputable def ofC:Code:=match Tryz.f8.body with|some c=>c|none=>.skip
def Dz(f:Zq):Option<|List OT:=if f=23 then J [.fz,.mem [.fz],.mem [.fz]]else sig f
def Z06:List Nat:=[0,1,2,3,16,4,5,6,7,23,25,8,24,29,9,10,48,47,49,12,46,13]
def Zbh:List Nat:=[15,63,76,79]
def vf(P:Z5):FC:= {P,ix:=pos<|Z06++Zbh,fresh,sig:=Dz,tr:=[3],fix:=[4,23],n:=82,keep:=Z06}
def qX:SS:=[(0,.fz)]
def r0N:SS:=[(0,.fz),(1,(.mem [.fz,.fz,.fz,.fz,.fz,.fz,.fz,.fz,.fz,.fz])),(2,(.mem [.nil,.nil])),(3,.fz)]
def r0:Stm:=
(.au ⟨[],[],[(1,.m [(.ac (.sz (.s 0) 10) 0),(.ac (.sz (.s 0) 10) 1),(.ac (.sz (.s 0) 10) 2),(.ac (.sz (.s 0) 10) 3),(.ac (.sz (.s 0) 10) 4),(.ac (.sz (.s 0) 10) 5),(.ac (.sz (.s 0) 10) 6),(.ac (.sz (.s 0) 10) 7),(.ac (.sz (.s 0) 10) 8),(.ac (.sz (.s 0) 10) 9)]),(2,.m [(.c<|.sl []),(.c<|.sl [])]),(3,.v<|.c<|.int .i64<|0)]⟩)
def r0c:comp (vf<|YC Tryz.prog) (Ys ofC [0]) qX=J (r0,⟨J r0N,[],[]⟩):=Z2
def rXS:SS:=[(0,.fz),(1,(.mem [.fz,.fz,.fz,.fz,.fz,.fz,.fz,.fz,.fz,.fz])),(2,(.mem [.nil,.nil])),(3,.fz)]
def OC:SS:=[(0,.fz),(1,(.mem [.fz,.fz,.fz,.fz,.fz,.fz,.fz,.fz,.fz,.fz])),(2,(.mem [.nil,.nil])),(3,.fz),(16,.fz)]
def D8:SS:=[(0,.fz),(1,(.mem [.fz,.fz,.fz,.fz,.fz,.fz,.fz,.fz,.fz,.fz])),(2,(.mem [.nil,.nil])),(3,.fz),(16,.fz)]
def rX:Stm:=
(.seq
(.au ⟨[.call 22 [] (.id 10) xw xw [(.mm 1 0 10)]],[],[(4,.v<|.un .not<|.s 22)]⟩)
(.cond (.s 4)
 (.seq
 (.au ⟨[],[([],(.ag [(.c<|.sl []),(.c<|.sl [])]))],[(2,.m [(.c<|.sl []),(.c<|.sl [])]),(3,.v<|.c<|.int .i64<|1)]⟩)
 .ret)
 .skip))
def rXc:comp (vf<|YC Tryz.prog) (Ys ofC [1,0]) rXS=J (rX,⟨J OC,[],[D8]⟩):=Z2
def LK:SS:=[(1,(.mem [.fz,.fz,.fz,.fz,.fz,.fz,.fz,.fz,.fz,.fz])),(2,(.mem [.fz,.fz])),(3,.fz)]
def r5N:SS:=[(1,(.mem [.fz,.fz,.fz,.fz,.fz,.fz,.fz,.fz,.fz,.fz])),(2,(.mem [.fz,.fz])),(3,.fz),(5,.nil)]
def r5:Stm:=
(.au ⟨[],[],[(6,.v<|.c<|.sl [])]⟩)
def r5c:comp (vf<|xP) (Ys ofC [1,1,1,1,0]) LK=J (r5,⟨J r5N,[],[]⟩):=Z2
def r6S:SS:=[(1,(.mem [.fz,.fz,.fz,.fz,.fz,.fz,.fz,.fz,.fz,.fz])),(2,(.mem [.fz,.fz])),(3,.fz),(5,.nil)]
def r6N:SS:=[(1,(.mem [.fz,.fz,.fz,.fz,.fz,.fz,.fz,.fz,.fz,.fz])),(2,(.mem [.fz,.fz])),(3,.fz),(5,.nil),(6,(.mem [(.own 75)]))]
def r6:Stm:=
(.au ⟨[],[],[(7,.m [(.c<|.mp 0 [] [])])]⟩)
def r6c:comp (vf<|xP) (Ys ofC [1,1,1,1,1,0]) r6S=J (r6,⟨J r6N,[],[]⟩):=Z2
def r7S:SS:=[(1,(.mem [.fz,.fz,.fz,.fz,.fz,.fz,.fz,.fz,.fz,.fz])),(2,(.mem [.fz,.fz])),(3,.fz),(5,.nil),(6,(.mem [(.own 75)]))]
def r7N:SS:=[(1,(.mem [.fz,.fz,.fz,.fz,.fz,.fz,.fz,.fz,.fz,.fz])),(2,(.mem [.fz,.fz])),(3,.fz),(5,.nil),(6,(.mem [(.own 75)])),(7,(.mem [(.own 76)]))]
def r7:Stm:=
(.au ⟨[],[],[(8,.m [(.c<|.mp 0 [] [])])]⟩)
def r7c:comp (vf<|xP) (Ys ofC [1,1,1,1,1,1,0]) r7S=J (r7,⟨J r7N,[],[]⟩):=Z2
def D5:SS:=[(1,(.mem [.fz,.fz,.fz,.fz,.fz,.fz,.fz,.fz,.fz,.fz])),(2,(.mem [.fz,.fz])),(3,.fz),(5,(.own 78)),(6,(.mem [(.own 75)])),(7,(.mem [(.own 76)])),(24,.fz),(25,.fz)]
def rDN:SS:=[(1,(.mem [.fz,.fz,.fz,.fz,.fz,.fz,.fz,.fz,.fz,.fz])),(2,(.mem [.fz,.fz])),(3,.fz),(5,(.own 78)),(6,(.mem [(.own 75)])),(7,(.mem [(.own 76)])),(25,.fz),(8,(.mem [.fz,.fz,.fz,.fz,.fz,.fz,.fz])),(24,.fz),(29,.fz)]
def D6:SS:=[(1,(.mem [.fz,.fz,.fz,.fz,.fz,.fz,.fz,.fz,.fz,.fz])),(2,(.mem [.fz,.fz])),(3,.fz),(5,(.own 78)),(6,(.mem [(.own 75)])),(7,(.mem [(.own 76)])),(24,.fz),(25,.fz)]
def rD:Stm:=
(.seq
(.cond (.s 10)
 .skip
 (.exit 0))
(.block 1
 (.seq
 (.au ⟨[],[],[(11,.m [(.ac (.sz (.ext (.s 12) 0) 7) 0),(.ac (.sz (.ext (.s 12) 0) 7) 1),(.ac (.sz (.ext (.s 12) 0) 7) 2),(.ac (.sz (.ext (.s 12) 0) 7) 3),(.ac (.sz (.ext (.s 12) 0) 7) 4),(.ac (.sz (.ext (.s 12) 0) 7) 5),(.ac (.sz (.ext (.s 12) 0) 7) 6)])]⟩)
 (.seq
 (.seq
 (.au ⟨[],[],[(13,.v<|.m 11 3)]⟩)
 (.cond (.s 13)
  (.seq
  (.au ⟨[],[],[(8,.m [(.dj (.i .u64) (.m 8 0) (.m 11 5)<|.m 11 4)])]⟩)
  (.exit 1))
  .skip))
 (.seq
 (.au ⟨[],[],[(7,.m [(.dj (.i .u64) (.m 7 0) (.m 11 5)<|.len<|.s 6)])]⟩)
 (.au ⟨[],[],[(6,.v<|.app (.s 6) (.lit [(.mm 11 0 7)]) 7)]⟩))))))
def Oz:comp (vf<|xP) (Ys ofC [1,1,1,1,1,1,1,0,1,0,0,1]) D5=J (rD,⟨J rDN,[(0,D6)],[]⟩):=Z2
def Oy:SS:=[(1,(.mem [.fz,.fz,.fz,.fz,.fz,.fz,.fz,.fz,.fz,.fz])),(2,(.mem [.fz,.fz])),(3,.fz),(5,.fz),(6,(.mem [.fz])),(7,(.mem [.fz]))]
def D4:SS:=[(1,(.mem [.fz,.fz,.fz,.fz,.fz,.fz,.fz,.fz,.fz,.fz])),(2,(.mem [.fz,.fz])),(3,.fz),(5,.fz),(6,(.mem [.fz])),(7,(.mem [.fz])),(9,(.cy 23 [7,6])),(10,(.mem [.fz,.fz])),(48,.fz),(47,.fz),(49,.fz),(46,.fz)]
def rC:Stm:=
(.seq
(.au ⟨[],[],[(14,.no)]⟩)
(.seq
(.au ⟨[],[],[(14,.no),(15,.m [(.c<|.sl []),(.c<|.sl [])])]⟩)
(.seq
(.seq
(.au ⟨[],[],[(14,.no),(16,.v<|.c<|.int .i64<|0),(17,.v<|.len<|.s 6),(20,.v<|.s 6)]⟩)
(.block 2
 (.loop [1,2,3,6,7,8,14,15,16,17,20]
  (.seq
  (.au ⟨[],[],[(14,.no),(18,.v<|.ce .lss (.s 16)<|.s 17)]⟩)
  (.seq
  (.cond (.s 18)
   .skip
   (.exit 2))
  (.seq
  (.block 3
   (.seq
   (.au ⟨[],[],[(14,.no),(19,.m [(.ac (.bi (.ba (.s 20) (.s 16) 7) 0 7) 0),(.ac (.bi (.ba (.s 20) (.s 16) 7) 0 7) 1),(.ac (.bi (.ba (.s 20) (.s 16) 7) 0 7) 2),(.ac (.bi (.ba (.s 20) (.s 16) 7) 0 7) 3),(.ac (.bi (.ba (.s 20) (.s 16) 7) 0 7) 4),(.ac (.bi (.ba (.s 20) (.s 16) 7) 0 7) 5),(.ac (.bi (.ba (.s 20) (.s 16) 7) 0 7) 6)])]⟩)
   (.seq
   (.au ⟨[],[],[(14,.no),(21,.v<|.m 19 2)]⟩)
   (.au ⟨[.ct 23 [] (.id 23) [.fz,(.mem [.fz]),(.mem [.fz])] [(.ik (.m 19 6) (.c<|.int .i64<|0) (.s 21) 1),(.ag [(.m 8 0)]),(.ag [(.m 7 0)])]],[],[(7,.m [(.ac (.ext (.s 23) 2) 0)]),(8,.m [(.ac (.ext (.s 23) 1) 0)]),(14,.no),(15,.m [(.app (.m 15 0) (.lit [(.ag [(.one<|.ext (.s 23) 0),(.fi (.m 19 6) (.s 21) 1)])]) 2),(.m 15 1)])]⟩))))
  (.au ⟨[],[],[(14,.no),(16,.v<|.ce .add (.s 16)<|.c<|.int .i64<|1)]⟩)))))))
(.seq
(.au ⟨[.ct 24 [] (.id 23) [.fz,(.mem [.fz]),(.mem [.fz])] [(.m 1 9),(.ag [(.m 8 0)]),(.ag [(.m 7 0)])]],[],[(7,.m [(.ac (.ext (.s 24) 2) 0)]),(8,.m [(.ac (.ext (.s 24) 1) 0)]),(14,.no),(15,.m [(.m 15 0),(.one<|.ext (.s 24) 0)])]⟩)
(.seq
(.au ⟨[.call 25 [] (.id 25) xw xw [(.mm 15 0 2)]],[],[(2,.m [(.ac (.sz (.ext (.s 25) 0) 2) 0),(.ac (.sz (.ext (.s 25) 0) 2) 1)]),(3,.v<|.fl<|.ext (.s 25) 1),(14,.no)]⟩)
.ret)))))
def rCc:comp (vf<|xP) (Ys ofC [1,1,1,1,1,1,1,1]) Oy=J (rC,⟨U,[],[D4]⟩):=Z2
def NW:Fn:=⟨16,[0,1,2,4,5,14,13,15,7,12,19,8,9,10,11,34],
(.seq
(.au ⟨[],[],[(3,.v<|.c<|.sl [])]⟩)
(.seq
(.au ⟨[],[],[(4,.v<|.c<|.sl [])]⟩)
(.seq
(.seq
(.au ⟨[],[],[(5,.v<|.c<|.int .i64<|0),(6,.v<|.len<|.s 0),(9,.v<|.s 0)]⟩)
(.block 0
 (.loop [0,1,2,3,4,5,6,9]
  (.seq
  (.au ⟨[],[],[(7,.v<|.ce .lss (.s 5)<|.s 6)]⟩)
  (.seq
  (.cond (.s 7)
   .skip
   (.exit 0))
  (.seq
  (.block 1
   (.seq
   (.au ⟨[],[],[(8,.v<|.ac (.ba (.s 9) (.s 5) 1) 0)]⟩)
   (.seq
   (.seq
   (.au ⟨[],[],[(10,.v<|.ce .eql (.s 8)<|.c<|.int .u64<|0)]⟩)
   (.cond (.s 10)
    (.seq
    (.au ⟨[],[],[(4,.v<|.app (.s 4) (.lit [(.c<|.int .i64<|-1)]) 1)]⟩)
    (.exit 1))
    .skip))
   (.seq
   (.au ⟨[.call 16 [] (.id 24) xw xw [(.s 8)]],[],[(11,.v<|.ext (.s 16) 0),(12,.v<|.ext (.s 16) 1)]⟩)
   (.seq
   (.seq
   (.au ⟨[],[],[(13,.v<|.ext (.lk (.i .u64) (.m 1 0) (.s 11) (.int .u64<|0) xk) 0),(14,.v<|.ext (.lk (.i .u64) (.m 1 0) (.s 11) (.int .u64<|0) xk) 1)]⟩)
   (.seq
   (.au ⟨[],[],[(15,.v<|.s 14)]⟩)
   (.cond (.s 15)
    (.au ⟨[],[],[(11,.v<|.s 13)]⟩)
    .skip)))
   (.au ⟨[],[],[(4,.v<|.app (.s 4) (.lit [(.one<|.lk (.i .u64) (.m 2 0) (.s 11) (.int .i64<|0) xw)]) 1)]⟩))))))
  (.au ⟨[],[],[(5,.v<|.ce .add (.s 5)<|.c<|.int .i64<|1)]⟩)))))))
(.seq
(.au ⟨[],[],[(3,.v<|.s 4),(4,.no)]⟩)
.ret)))),
[(3,.v)]⟩
def cTo:V2 xP fresh sig [.fz,(.mem [.fz]),(.mem [.fz])] (Re [.fz,(.mem [.fz]),(.mem [.fz])]) Tryz.f23=J NW:=Z2
def qI:Fn:=⟨12,[0,1,2,3,4,5,24,6,29,7,8,63],pQ [pR [(2,pS 0 2),(3,pS 1 2),pV 4 pF],pC [pK 12 31 [.m 2 1,.m 3 1]] [pV 5<|.s 12],pQ [.au ⟨[.lt 13 []<|.un .not<|.s 5],[([(13,xw)],pn (.len<|.m 2 0)<|.len<|.m 3 0)],[pV 6<|.ite (.s 13) pT<|pn (.len<|.m 2 0)<|.len<|.m 3 0]⟩]<|pw (.s 6)<|px [pV 4 pF],pQ [pR [pV 7<|pI 0]]<|.block 0<|.loop [0,1,2,3,4,5,6,7]<|pQ [pu 8 (pl (.s 7)<|.len<|.m 2 0) .skip<|.exit 0,.block 1<|pQ [pC [pK 14 31 [.ac (.ba (.m 2 0) (.s 7) 2) 0,.ac (.ba (.m 3 0) (.s 7) 2) 0]] [pV 9<|.s 14],pC [pK 15 32 [.ac (.ba (.m 2 0) (.s 7) 2) 1,.ac (.ba (.m 3 0) (.s 7) 2) 1]] [pV 10<|.s 15],.au ⟨[.lt 16 []<|.un .not<|.s 9],[([(16,xw)],.un .not<|.s 10)],[pV 11<|.ite (.s 16) pT<|.un .not<|.s 10]⟩]<|pw (.s 11)<|px [pV 4 pF]]<|pc 7]<|px [pV 4 pT],[(4,.v)]⟩
def Am:xQ [.fz,.fz] Tryz.f11=J qI:=Z2
def Ni:Fn:=⟨5,[0,1,2,3,6],pQ [pR [(1,pS 0 2),(2,.m [pN,pN]),pV 3<|pI 0],pQ [pC [pK 5 45 [.mm 1 0 2]] [pV 4<|.un .not<|.s 5]]<|pw (.s 4)<|pQ [.au ⟨[],[([],.ag [pN,pN])],[(2,.m [pN,pN]),pV 3<|pI 1]⟩] .ret,pC [.ct 6 [] (.id 46) [.fz,(.own 120)] [.mm 1 0 2,.c<|.mp 0 [] []]] [(2,pM (.sz (.ext (.s 6) 0) 2) 2),pV 3<|pI 0]] .ret,[(2,(.ag 2)),(3,.v)]⟩
def c25:xQ [.fz] Tryz.f25=J Ni:=Z2
def Cm:Fn:=⟨7,[0,1,4,10,5,14,25],pQ [pR [pV 2 pF],pi 3 (pn (.len<|.s 0)<|.len<|.s 1)<|px [pV 2 pF],pQ [pR [pV 4<|pI 0]]<|.block 0<|.loop [0,1,2,3,4]<|pQ [pu 5 (pl (.s 4)<|.len<|.s 0) .skip<|.exit 0,.block 1<|pi 6 (pn (.ac (.ba (.s 0) (.s 4) 1) 0)<|.ac (.ba (.s 1) (.s 4) 1) 0)<|px [pV 2 pF]]<|pc 4]<|px [pV 2 pT],[(2,.v)]⟩
def c31:xQ [.fz,.fz] Tryz.f31=J Cm:=Z2
def Nt:Fn:=⟨11,[0,1,2,9,3,14,13,15,5,12,32],pQ [pR [(1,pS 0 2),pV 2 pF],pi 3 (pj (.len<|.m 1 1)<|pI 16)<|px [pV 2 pF],pR [(4,.no)],pQ [pR [(4,.no),pV 5<|pI 0,pV 6<|.len<|.m 1 0,pV 9<|.m 1 0]]<|.block 0<|.loop [0,1,2,3,4,5,6,9]<|pQ [pR [(4,.no),pV 7<|pl (.s 5)<|.s 6],.cond (.s 7) .skip<|.exit 0,.block 1<|pQ [pR [(4,.no),(8,pM (.bi (.ba (.s 9) (.s 5) 2) 0 2) 2)],.au ⟨[.lt 11 []<|pj (pa (.len<|.m 8 0)<|.len<|.m 8 1)<|pI 255,.ct 12 [(11,xw)] (.id 59) [.fz,(.mem [.fz,.fz])] [.m 8 0,.ag [.m 1 0,.m 1 1]]],[([(11,xw)],.un .not<|.ext (.s 12) 0)],[(1,pM (.ext (.s 12) 1) 2),(4,.no),pV 10<|.ite (.s 11) pT<|.un .not<|.ext (.s 12) 0]⟩]<|pw (.s 10)<|px [pV 2 pF,(4,.no)]]<|pR [(4,.no),pV 5<|pa (.s 5)<|pI 1],pC [.ct 13 [] (.id 59) [.fz,(.mem [.fz,.fz])] [.m 1 1,.ag [.m 1 0,.m 1 1]]] [(1,pM (.ext (.s 13) 1) 2),pV 2<|.ext (.s 13) 0,(4,.no)]] .ret,[(2,.v)]⟩
def c45:xQ [.fz] Tryz.f45=J Nt:=Z2
def Nu:Fn:=⟨11,[0,1,2,4,5,13,12,14,7,11,8],pQ [pR [(2,pS 0 2),(3,.m [pN,pN])],pR [(4,.m [pN,pN])],pQ [pC [.ct 9 [] (.id 60) [.fz,(.own 120)] [.mm 2 0 2,.s 1]] [pV 1<|.ext (.s 9) 1,pV 5<|pI 0,pV 6<|.len<|.ext (.s 9) 0,pV 9<|.ext (.s 9) 0]]<|po [0,1,2,3,4,5,6,9] 7 (pl (.s 5)<|.s 6) (pQ [pR [pV 8<|.ac (.ba (.s 9) (.s 5) 1) 0],pR [(10,pM (.bi (.ba (.m 2 0) (.s 8) 2) 0 2) 2)]]<|pC [.call 11 [] (.id 61) xk xw [.m 10 0,.s 1]] [(4,.m [.app (.m 4 0) (.lit [.ag [.one<|.s 11,.app pN (.m 10 1) 1]]) 2,.m 4 1])])<|pc 5,pC [.call 12 [] (.id 61) xk xw [.m 2 1,.s 1]] [(4,.m [.m 4 0,.one<|.s 12])]]<|px [(3,pM (.mm 4 0 2) 2)],[(3,(.ag 2))]⟩
def c46:V2 xP fresh sig [.fz,(.own 120)] [(1,(.own 120))] Tryz.f46=J Nu:=Z2
def NC:Fn:=⟨9,[0,1,3,8,7,9,5,6,20],pQ [pR [pV 2 pF],pQ [pR [pV 3<|pI 0,pV 4<|.len<|.s 0,pV 7<|.s 0]]<|po [0,1,2,3,4,7] 5 (pl (.s 3)<|.s 4) (pQ [pR [pV 6<|.ac (.ba (.s 7) (.s 3) 1) 0],.au ⟨[.lt 9 []<|pl (.s 6)<|pI<|-1],[([(9,xw)],pg (.s 6)<|.len<|.m 1 0)],[pV 8<|.ite (.s 9) pT<|pg (.s 6)<|.len<|.m 1 0]⟩]<|pw (.s 8)<|px [pV 2 pF])<|pc 3]<|px [pV 2 pT],[(2,.v)]⟩
def c59:V2 xP fresh sig [.fz,(.mem [.fz,.fz])] [(1,(.mem [.fz,.fz]))] Tryz.f59=J NC:=Z2
def Lv:Fn:=⟨9,[0,1,2,3,4,5,6,7,17],pQ [pR [(1,.no),(2,pS 0 2),(3,.m [.s 1]),pV 4 pN],pR [(3,.m [.fh<|.m 3 0])],pR [(5,.m [pN])],pR [(6,.no)],pC [.ct 9 [] (.id 78) [.fz,(.mem [(.own 120)]),(.mem [(.own 3)])] [.m 2 1,.ag [.m 3 0],.ag [.m 5 0]]] [(3,.m [.ac (.ext (.s 9) 1) 0]),(5,.m [.ac (.ext (.s 9) 2) 0]),(6,.no)],pQ [pR [(6,.no),pV 7<|pI 0]]<|.block 0<|.loop [0,2,3,4,5,6,7]<|pQ [pQ [pR [(6,.no),pV 8<|pl (.s 7)<|.len<|.m 5 0]]<|.cond (.s 8) .skip<|.exit 0,.block 1<|pC [.ct 10 [] (.id 78) [.fz,(.mem [(.own 120)]),(.mem [(.own 3)])] [.ac (.ba (.m 2 0) (.ac (.ba (.m 5 0) (.s 7) 1) 0) 2) 0,.ag [.m 3 0],.ag [.m 5 0]]] [(3,.m [.ac (.ext (.s 10) 1) 0]),(5,.m [.ac (.ext (.s 10) 2) 0]),(6,.no)]]<|pR [(6,.no),pV 7<|pa (.s 7)<|pI 1]]<|px [pV 4<|.m 5 0,(6,.no)],[(4,.v)]⟩
def c60:V2 xP fresh sig [.fz,(.own 120)] [(3,(.mem [(.own 120)]))] Tryz.f60=J Lv:=Z2
def ND:Fn:=⟨10,[0,1,4,5,10,9,11,7,8,15],pQ [pR [pV 2 pN],pR [pV 3 pN],pQ [pR [pV 4<|pI 0,pV 5<|.len<|.s 0,pV 8<|.s 0]]<|po [0,1,2,3,4,5,8] 6 (pl (.s 4)<|.s 5) (pQ [pR [pV 7<|.ac (.ba (.s 8) (.s 4) 1) 0],pi 9 (pg (.s 7)<|pI 0)<|pR [pV 7<|.lk (.i .i64) (.s 1) (.s 7) (.int .i64 0) xw]]<|pR [pV 3<|.app (.s 3) (.lit [.one<|.s 7]) 1])<|pc 4]<|px [pV 2<|.s 3,(3,.no)],[(2,.v)]⟩
def c61:V2 xP fresh sig [.fz,.fz] [(4,(.own 3))] Tryz.f61=J ND:=Z2
def NM:Fn:=⟨11,[0,1,2,10,9,11,5,8,6,7,25],pQ [pR [pV 3<|pI 0,pV 4<|.len<|.s 0,pV 7<|.s 0]]<|po [0,1,2,3,4,7] 5 (pl (.s 3)<|.s 4) (pQ [pR [pV 6<|.ac (.ba (.s 7) (.s 3) 1) 0],pR [pV 8<|.fl<|.ext (.lk (.i .i64) (.m 1 0) (.s 6) (.int .i64 0) xk) 0,pV 9<|.fl<|.ext (.lk (.i .i64) (.m 1 0) (.s 6) (.int .i64 0) xk) 1],.au ⟨[.lt 11 []<|pg (.s 6)<|pI 0],[([(11,xk)],.un .not<|.s 9)],[pV 10<|.ite (.s 11) (.un .not<|.s 9) pF]⟩]<|pw (.s 10)<|pQ [pR [(1,.m [.dj (.i .i64) (.m 1 0) (.s 6)<|.len<|.m 2 0])]]<|pR [(2,.m [.app (.m 2 0) (.lit [.one<|.s 6]) 1])])<|pc 3,[]⟩
def c78:V2 xP fresh sig [.fz,(.mem [(.own 120)]),(.mem [(.own 3)])] [(1,(.mem [(.own 120)])),(2,(.mem [(.own 3)]))] Tryz.f78=J NM:=Z2
end Vm
end
section
namespace Vm
open Go Go.Proofs
def Gr.sm(g:Gr):Prop:=I g.nodes<=100000/\I g.E<=100000/\∀n∈g.nodes,I n.M<=100000/\I n.data<=100000
def T4(n:Nat)(p:Int):Bool:=decide (-1<=p/\p<n)
def R6(k:Nat)(n:Nd):Bool:=decide (I n.M+I n.data<=255)&&n.M.all (T4 k)
def right(g:Gr):Bool:=decide (I g.E<=16)&&g.nodes.all (R6<|I g.nodes)&&g.E.all (T4<|I g.nodes)
theorem Ft{α:Type}{p}{l:List α}{i x}(h:l[i]?=J x):(l.take<|i+1).all p=((l.take i).all p&&p x):=by
 rw[Zi3,h];simp
theorem Fq{α:Type}{p}{l:List α}{i:Nat}{x}(h:l[i]?=J x)(a:p x=xw):l.all p=xw:=by
 grind
def GL{l:List Int}{ns:List V}{a:V}(g:I l<=100000)(k:a.one=xk)(j:YV a=J a):
  Vo xP 59 [.fz,.mem [.fz,.fz]] [.sl<|l.map vi,.agg [.sl ns,a]] (.aq [.bool<|l.all<|T4<|I ns,.agg [.sl ns,a]]):=by
 refine JV Z1O follows Z2 c59 Z2 ?_;simp[-List.all_eq_true,-List.all_eq_false,NC];refine UM (λt=>∃i:Nat,i<=I l/\(l.take i).all (T4<|I ns)=xk/\t=[.v<|.sl<|l.map vi,.m [.sl ns,a],.v<|.bool xw,.v<|vi i,.v<|vi<|I l,.no,.no,.v<|.sl<|l.map vi]) (λt=>match get t 3 with|.v (.int _ n)=>I l-n.toNat|_=>0) ?_ ?_;exact⟨0,Z1,Z1,Z1⟩;rintro t ⟨i,f,d,rfl⟩;by_cases h:i<I l;have o:l[i]?=J l[i]:=Zh8 h;simp[-List.all_eq_true,-List.all_eq_false,h];simp(disch:=omega) only[ZA];grind [Fq,T4,Ft];have:i=I l:=Z0;simp_all
def OZ{g:Gr}(r:g.sm):VC xP 45 xw [Yj g]<|.bool<|right g:=by
 obtain⟨u,j,k⟩:=r;refine ZT Z1z follows Z2 c45 rfl ?_;simp[-List.all_eq_true,-List.all_eq_false,Nt];split;grind [List.all_eq_true,List.all_eq_false,right];rename_i h;refine UM (λt=>∃i:Nat,i<=I g.nodes/\(g.nodes.take i).all (R6<|I g.nodes)=xk/\t=[.v<|Yj g,.m [.sl<|g.nodes.map Yi,.sl<|g.E.map vi],.v<|.bool xw,.v<|.bool xw,.no,.v<|vi i,.v<|vi<|I g.nodes,.no,.no,.v<|.sl<|g.nodes.map Yi]) (λt=>match get t 5 with|.v (.int _ n)=>I g.nodes-n.toNat|_=>0) ?_ ?_;exact⟨0,Z1,Z1,by simp[h]⟩;rintro t ⟨i,z,a,rfl⟩;by_cases d:i<I g.nodes;have A:g.nodes[i]?=J g.nodes[i]:=Zh8 d;obtain⟨q,y⟩:=k _<|Zhx d;have p:=ZA ((i:Int)+1) Z0 Z0;simp[-List.all_eq_true,-List.all_eq_false,d,p];simp(disch:=omega) only[ZA];have w:R6 (I g.nodes) g.nodes[i]=xw->right g=xw:=λx=>by grind [List.all_eq_true,List.all_eq_false,right,Fq]
 by_cases l:(g.nodes[i].M.length:Int)+(g.nodes[i].data.length:Int)<=255;rw[Zhi l];refine U4 (GL q Zh2 Zh2) ?_;have f:¬(255:Int)< (g.nodes[i].M.length:Int)+(g.nodes[i].data.length:Int):=Z0;cases o:g.nodes[i].M.all<|T4<|I g.nodes;simp[-List.all_eq_true,-List.all_eq_false,f,o];simp_all[Zhn,ZjO,R6];simp[-List.all_eq_true,-List.all_eq_false,f,o,p];grind [Ft,List.all_eq_true,List.all_eq_false,R6];rw[Zhg l];grind [List.all_eq_true,List.all_eq_false,R6];have:i=I g.nodes:=Z0;subst this;simp[-List.all_eq_true,-List.all_eq_false];refine U4 (GL j Zh2 Zh2) ?_;rw[Ziy]at a;simp[-List.all_eq_true,-List.all_eq_false,right,a];omega
end Vm
namespace Vm
open Go Go.Proofs
def Ij{a b:List Int}(g:I a<=100000):VC xP 31 xw [.sl<|a.map vi,.sl<|b.map vi]<|.bool<|decide (a=b):=by
 refine ZT Z1p follows Z2 c31 rfl ?_;by_cases d:I a=I b;simp[Cm,d];refine UM (λt=>∃i:Nat,i<=I b/\a.take i=b.take i/\t=[.v<|.sl<|a.map vi,.v<|.sl<|b.map vi,.v<|.bool xw,.v<|.bool xw,.v<|vi i]) (λt=>match get t 4 with|.v (.int _ n)=>I b-n.toNat|_=>0) ?_ ?_;exact⟨0,Z1,Z1,Z1⟩;rintro t ⟨i,j,heq,rfl⟩;by_cases h:i<I b;have f:i<I a:=Z0;by_cases k:a[i]=b[i];simp_all;simp(disch:=omega) only[ZA];grind [DT];simp_all;grind;simp_all[Ziy,Zib];simp[Cm,show ¬((I a:Int)=(I b:Int))by omega];grind
end Vm
namespace Vm
open Go Go.Proofs
def E5(n:Nat):List V:=(List.range n).map λ(i:Nat)=>vi i
def XK(id:Nat)(l:List Int):V:=.mp id (l.map vi)<|E5<|I l
def Yg:List Int->List Int->List Int
 |a,[]=>a
 |a,x::l=>Yg (if 0<=x/\x∉a then a++[x]else a) l
def AO{x}:∀ {l:List Int},Tu (vi x) (l.map vi)=J (l.findIdx? (· ==x))
 | []=>rfl
 |y::l=>by
  simp only[ZhN,Tu,L4,Zk2];by_cases h:x=y;subst h;simp;have a:(x==y)=xw:=Zh5;have d:(y==x)=xw:=by simpa using ZiX h
  simp[a,d,AO]
def GF{x}{l:List Int}:l.findIdx? (· ==x)=U↔x∉l:=by
 grind
theorem IE{id l x z ok}:UA (.i .i64) (XK id l) (vi x) z ok=match l.findIdx? (· ==x)with
  |some i=>J (if ok then .aq [vi i,.bool xk]else vi i)
  |none=>J (if ok then .aq [z,.bool xw]else z):=by
 unfold UA XK;simp[Vg,AO];grind [List.findIdx?_eq_some_iff_getElem,E5]
def Z6C{id l x}(hx:x∉l):T8 (.i .i64) (XK id l) (vi x) (vi<|I l)=J (XK id<|l++[x]):=by
 unfold T8 XK;simp[Vg,AO,GF.2 hx];simp[E5,Zjv]
@[simp]theorem ZeO id l:YV (XK id l)=J (XK id l):=rfl
def Mu{ns acc:List Int}{id:Nat}(q:I ns<=100000)(k:I acc<=1000000):Vo xP 78 [.fz,.mem [.own 120],.mem [.own 3]] [.sl<|ns.map vi,.agg [XK id acc],.agg [.sl<|acc.map vi]]
  (.aq [.aq [],.agg [XK id<|Yg acc ns],.agg [.sl<|(Yg acc ns).map vi]]):=by
 refine JV Z23 follows Z2 c78 Z2 ?_;simp[NM];refine UM (λt=>∃i l,i<=I ns/\Yg l (ns.drop i)=Yg acc ns/\I l<=1000000+i/\t=[.v<|.sl<|ns.map vi,.m [XK id l],.m [.sl<|l.map vi],.v<|vi (i:Nat),.v<|vi<|I ns,.no,.no,.v<|.sl<|ns.map vi]) (λt=>match get t 3 with|.v (.int _ n)=>I ns-n.toNat|_=>0) ?_ ?_;exact⟨0,acc,Z1,Z1,Z0,Z1⟩;rintro t ⟨i,l,r,f,u,rfl⟩;by_cases h:i<I ns;have p:ns.drop i=ns[i]::ns.drop (i+1):=(Zi6 h);rw[p,Yg]at f;simp[h,IE];by_cases d:ns[i]∈l;have a:∃j,l.findIdx? (· ==ns[i])=J j:=by
  cases o:l.findIdx? (· ==ns[i])with
  |none=>grind
  |some j=>simp
 obtain⟨j,o⟩:=a;simp[o,WA,V.bp];simp(disch:=omega) only[ZA];grind;simp[GF.2 d,WA,V.bp];simp(disch:=omega) only[ZA];by_cases g:0<=ns[i];rw[Zhi g,Z6C d];rw[Zhi ⟨g,d⟩]at f;simp;refine⟨by grind [Yc],⟨i+1,Z0,l++[ns[i]],f,Zge,rfl,Z1,Z1⟩,Z0⟩;grind;have:i=I ns:=Z0;simp_all[Yg]
@[simp]theorem ZcS id l:(XK id l).cells=[XK id l]:=rfl
def Good(n:Nat)(l:List Int):Prop:=l.Nodup/\∀x∈l,0<=x/\x<n
def C5:∀(n:Nat) {l:List Int},l.Nodup->(∀x∈l,0<=x/\x<n)->I l<=n
 |0,l,_,h=>by
  obtain _|⟨x,l⟩:=l;simp;have:=h x Z1;omega
 |n+1,l,a,h=>by
  by_cases j:(n:Int)∈l;have g:=C5 n (a.erase (n:Int)) λx d=>by
   have f:=(a.mem_erase_iff).1 d;have:=h x f.2;omega
  rw[List.length_erase_of_mem j]at g;omega;have:=C5 n a λx d=>by
   have g:=h x d;have:x≠n:=Zgc;omega
  omega
def Good.len{n l}(h:Good n l):=C5 n h.1 h.2
def TB{n}:∀ {f a:List Int},Good n a->(∀x∈f,x<n)->Good n (Yg a f)
 | [],a,h,_=>h
 |x::f,a,h,j=>by
  simp[Yg];refine TB ?_ λy d=>Zgd;split;rename_i g;refine⟨?_,λy d=> ?_⟩;rw[Zkf];exact⟨h.1,Z1,Zgc⟩;obtain d|d:=ZhC.1 d;exact h.2 y d;simp at d;subst d;exact⟨g.1,Zgd⟩;exact h
def XU(g:Gr):Nat->Nat->List Int->List Int
 |0,_,l=>l
 |f+1,i,l=>match l[i]? with
  |some x=>XU g f (i+1)<|Yg l ((g.nodes[x.toNat]?).getD default).M
  |none=>l
def order(g:Gr):List Int:=XU g (I g.nodes+1) 0<|Yg [] g.E
def If{n p}(h:T4 n p=xk): -1<=p/\p<n:=by grind [T4]
def Qv{g}(a:right g=xk):∀x∈g.E,-1<=x/\x<I g.nodes:=by
 simp[right,Zhn]at a;exactλx d=>If Zgd
def Dg{g}(a:right g=xk):∀n∈g.nodes,∀x∈n.M,-1<=x/\x<I g.nodes:=by
 simp[right,R6]at a;exactλn d x f=>If Zgc
def Z7B{g:Gr}(C:g.sm)(B:right g=xk)(id:Nat)(ks vs:List V):
  Yw xP Lv.body [.v<|Yj g,.v<|.mp id ks vs] (λs=>get s 4=.v (.sl<|(order g).map vi)/\get s 3=.m [XK id<|order g]) (λ_ _=>False) (λs=>get s 4=.v (.sl<|(order g).map vi)/\get s 3=.m [XK id<|order g]):=by
 obtain⟨D,q,r⟩:=C;simp[Lv];refine U4 (Mu (ns:=g.E) (acc:=[]) (id:=id) q Z1) ?_;simp;have d:=Qv B;have j:Good (I g.nodes)<|Yg [] g.E:=TB ⟨Z1,Z1⟩ λx p=>(d x p).2;refine UM (λt=>∃i l,i<=I l/\Good (I g.nodes) l/\XU g (I g.nodes+1-i) i l=order g/\t=[.v<|Yj g,.no,.m [.sl<|g.nodes.map Yi,.sl<|g.E.map vi],.m [XK id l],.v<|.sl [],.m [.sl<|l.map vi],.no,.v<|vi (i:Nat)]) (λt=>match get t 7 with|.v (.int _ n)=>I g.nodes-n.toNat|_=>0) ?_ ?_;exact⟨0,_,Z1,j,rfl,Z1⟩;rintro t ⟨i,l,K,u,A,rfl⟩;have z:=u.len;by_cases h:i<I l;obtain⟨G,M⟩:=u.2 _<|Zhx h;obtain⟨k,w⟩:=Zhp G;have o:k<I g.nodes:=Z0;have p:l[i]?=J (k:Int):=by rw[Zh8 h,w]
 simp[h,w,o];refine U4 (Mu (r _<|Zhx o).1 Z0) ?_;simp;simp(disch:=omega) only[ZA];have a:Good (I g.nodes)<|Yg l g.nodes[k].M:=TB u λx p=>(Dg B _ (Zhx o) x p).2;refine⟨⟨i+1,_,?_,a,?_,rfl,rfl,Z1⟩,Z0⟩;have:∀ {ns acc:List Int},I acc<=I (Yg acc ns):=by
  intro ns;induction ns with
  |nil=>simp_all[Yg]
  |cons y ns L=>
   intro acc;simp only[Yg];grind
 grind;rw[show I g.nodes+1-i=(I g.nodes+1- (i+1))+1 by omega,XU,p]at A;simp_all;have:i=I l:=Z0;subst this;have F:l=order g:=by
  rw[<-A];cases H:I g.nodes+1-(I l) with
  |zero=>omega
  |succ f=>simp[XU]
 simp_all
def Z7A{g:Gr}(hg:g.sm)(hr:right g=xk)(id:Nat)(ks vs:List V):Vo xP 60 [.fz,.own 120] [Yj g,.mp id ks vs]<|.aq [.sl<|(order g).map vi,XK id<|order g]:=by
 refine⟨Z2,λB w h us a9 hA=> ?_⟩;obtain⟨b6,a1,a2⟩:=hA;obtain⟨d6,T,b0⟩:=a2 1 (.own 120) (.mp id ks vs) rfl rfl;simp only[Ws,Zh7]at T;subst T;obtain⟨x1,W,R⟩:=b0;simp only[eval,Zh7]at W;subst W;obtain⟨_,_,hl,_⟩|⟨c7,d0,d8,b,es,Y,he,hv,a5,hB,hid,hh,h1,h2,h3,h4⟩:=R;cases hl;cases he;have a0:zE xP B w h [.fz,.own 120] [Yj g,.mp (b+1) ks vs] us:=by
  refine⟨rfl,a1,λi k x f j=> ?_⟩
  match i,f,j with
  |0,f,j=>grind
  |1,f,j=>
   simp at f j;subst f j;exact⟨_,rfl,_,rfl,.inr ⟨b+1,ks,vs,b,es,Y,rfl,hv,a5,hB,.inr rfl,hh,h1,h2,h3,h4⟩⟩
  |i+2,f,j=>simp at f
 refine ym (cf:=Lv) (fin:=[(3,.mem [.own 120])]) (xs:=[Yj g,.mp (b+1) ks vs]) (Rt:=λs=>get s 4=.v (.sl<|(order g).map vi)/\get s 3=.m [XK (b+1)<|order g]) Z1Q follows c60 (Z7B hg hr (b+1) ks vs) a9 a0 λc s S a w' h' hP b8 O z M r p hK o l=> ?_;rw[<-hP]at l z⊢;simp only[R8,Zhb,Zhn]at l;obtain⟨A,a7⟩:=l;obtain⟨d,a8⟩:=zG r p a7;have Q:c.ix 3=3:=O 3 Zgm;have hr:Wq s (LT c.P c.ix Tryz.f60)=J (.sl<|(order g).map vi):=by
  rw[<-z];simp[Lv,M.1]
 obtain⟨v,b1,b4⟩:=LU (D:=(h'.drop<|Ud S [(3,.mem [.own 120])]).F) r p (λb hb=>.inl hb) (λq hq=>by
  have h1:=A q hq;have h2:=Zhn.1 (Z2:ON Tryz.f60 [(3,.mem [.own 120])]=xk) q hq;refine⟨h1,λi b hb=>.inr ⟨Rl q,i+1,?_,Z0,hb⟩⟩;simp_all[Ud,ZkR,Rl]) hr
 obtain⟨u,hu,b3,d7,T3,e1,e2,e3,e4,e5⟩:=d.Y 3 (by grind [Yz,Yv]) Zh2;obtain⟨X,hX,C⟩:=e5 0 (.own 120,.m (c.ix 3) 0) rfl;have a3:X=XK (b+1) (order g):=by
  simp only[eval,Q,M.2]at hX;simpa using hX.symm
 subst a3;obtain⟨_,_,hl,_⟩|⟨c8,d5,d9,H,Z,L,N,c0,n,b7,b5,a6,q1,q2,q3,q4⟩:=C;cases hl;simp only[XK,V.mp.injEq]at N;obtain⟨rfl,rfl,rfl⟩:=N;have a4:H=b:=Z0;subst a4;obtain⟨r1,r2,r3⟩:=d.ok.aw 3 1 H n
 refine⟨v,b1,v,.sl<|(order g).map vi,[.bool xw,XK id<|order g],{F:=(h'.drop<|Ud S [(3,.mem [.own 120])]).F,bl:=λt i=>if t=1/\i=1 then J H else U,K:=h'.K},rfl,o.below,o.same,
  ⟨d.ok.base,d.ok.bz,d.ok.cz,d.ok.fj,λt i x j=> ?_,λt i t' i' x j c1=> ?_,d.ok.cx,λt i x j=> ?_,d.ok.fk⟩,hK,b4,⟨rfl,λi k y f b9 G=> ?_⟩,rfl⟩
 grind;grind;simp only at j;split at j;simp only[Zh7]at j;subst j;exact d.ok.cp 3 1 H n;cases j
 match i,f,G with
 |0,f,G=>grind
 |1,f,G=>
  simp at f G;subst f G;exact⟨_,rfl,_,rfl,.inr ⟨id,_,_,H,Z,L,rfl,hv,Z1,hB,hid,a6,q1,q2,q3,q4⟩⟩
 |i+2,f,G=>simp at f
end Vm
namespace Vm
open Go Go.Proofs
def RJ(l:List Int)(p:Int):Int:=match l.findIdx? (· ==p)with
 |some i=>(i:Nat)
 |none=>0
def Vi(l a:List Int):List Int:=a.map λp=>if 0<=p then RJ l p else p
def QV(g:Gr)(l:List Int)(x:Int):Nd:=let n:=(g.nodes[x.toNat]?).getD default;⟨Vi l n.M,n.data⟩
def Wf(g:Gr):Gr:=⟨(order g).map<|QV g<|order g,Vi (order g) g.E⟩
def Z5W{id l x}:UA (.i .i64) (XK id l) (vi x) (vi 0) xw=J (vi<|RJ l x):=by
 grind [IE,RJ]
def Z3U{l:List Int}:∀c∈flat (l.map vi),c.bp=xk:=by
 intro c d;simp[flat,Zhq]at d;obtain⟨y,⟨a,_,rfl⟩,d⟩:=d;have:c=vi a:=by simpa[V.cells]using d
 subst this;rfl
def M9{a l:List Int}{id:Nat}(o:I a<=100000):VC xP 61 xk [.sl<|a.map vi,XK id l]<|.sl<|(Vi l a).map vi:=by
 refine Zbd (t:=4) (ty:=3) Z1R follows Z2 rfl c61 rfl Z3U ?_;simp[ND];refine UM (λt=>∃i:Nat,i<=I a/\t=[.v<|.sl<|a.map vi,.v<|XK id l,.v<|.sl [],.v<|.sl<|(Vi l<|a.take i).map vi,.v<|vi i,.v<|vi<|I a,.no,.no,.v<|.sl<|a.map vi]) (λt=>match get t 4 with|.v (.int _ n)=>I a-n.toNat|_=>0) ?_ ?_;exact⟨0,Z1,by simp[Vi]⟩;rintro t ⟨i,k,rfl⟩;by_cases h:i<I a;have j:a[i]?=J a[i]:=Zh8 h;have d:Vi l (a.take<|i+1)=Vi l (a.take i)++[if 0<=a[i]then RJ l a[i]else a[i]]:=by
  unfold Vi;rw[Zi3,j,Zir];rfl
 have g:I (Vi l<|a.take i)<=100000:=by simp[Vi];omega
 simp[h];simp(disch:=omega) only[ZA];by_cases f:0<=a[i];simp[f,Z5W];refine⟨Zgw,⟨i+1,Z0,by rw[d];simp[f],Z1⟩,Z0⟩;simp[f];refine⟨Zgw,⟨i+1,Z0,by rw[d];simp[f],Z1⟩,Z0⟩;have:i=I a:=Z0;subst this;simp
def MP{g}(d:right g=xk):∀ {f i} {l:List Int},Good (I g.nodes) l->Good (I g.nodes) (XU g f i l)
 |0,i,l,h=>h
 |f+1,i,l,h=>by
  simp[XU];split;rename_i x k;refine MP d (TB h λy j=> ?_);let⟨n,o⟩:=h.2 x Zgc;have a:x.toNat<I g.nodes:=Z0;rw[Zh8 a]at j;exact(Dg d _ Z1 y j).2;exact h
def Cg{g}(a:right g=xk):Good (I g.nodes)<|order g:=
 MP a (TB ⟨Z1,Z1⟩ λx d=>(Qv a x d).2)
def Z36{g:Gr}(p:g.sm)(r:right g=xk)(id:Nat)(ks vs:List V):Vo xP 46 [.fz,.own 120] [Yj g,.mp id ks vs]<|.aq [Yj<|Wf g,XK id<|order g]:=by
 refine JV Z1A follows Z2 c46 Z2 ?_;simp[Nu];refine U4 (Z7A p r id ks vs) ?_;simp;obtain⟨u,j,o⟩:=p;have a:=Cg r;have f:=a.len;generalize A:order g=l at a f;refine UM (λt=>∃i:Nat,i<=I l/\t=[.v<|Yj g,.v<|XK id l,.m [.sl<|g.nodes.map Yi,.sl<|g.E.map vi],.m [.sl [],.sl []],.m [.sl<|((l.take i).map<|QV g l).map Yi,.sl []],.v<|vi i,.v<|vi<|I l,.no,.no,.v<|.sl<|l.map vi]) (λt=>match get t 5 with|.v (.int _ n)=>I l-n.toNat|_=>0) ?_ ?_;exact⟨0,Z1,Z1⟩;rintro t ⟨i,z,rfl⟩;by_cases h:i<I l;have B:l[i]?=J l[i]:=Zh8 h;obtain⟨y,D⟩:=a.2 _<|Zhx h;obtain⟨k,q⟩:=Zhp y;have d:k<I g.nodes:=Z0;obtain⟨x,C⟩:=o _<|Zhx d;simp[h,q,d];refine Zz (M9 x) Z1 ?_;simp;simp(disch:=omega) only[ZA];have w:V.agg [V.sl<|List.map vi<|Vi l g.nodes[k].M,V.sl<|List.map vu g.nodes[k].data]=Yi (QV g l l[i]):=by
  simp[QV,q,d,Yi]
 refine⟨by grind [Yc],by grind [Yc],⟨i+1,Z0,?_,Z1⟩,Z0⟩;simp_all[Zi3,Zhz];have:i=I l:=Z0;simp_all;refine Zz (M9 j) Z1 ?_;simp_all[Wf,Yj]
def G2{g}(h:g.sm)(o:right g=xk):(Wf g).sm:=by
 let⟨j,k,l⟩:=h;have a:=Cg o;have d:=a.len;refine⟨by grind [Wf],by simp_all[Wf,Vi],λn f=> ?_⟩;simp[Wf]at f;obtain⟨x,p,rfl⟩:=f;let⟨q,r⟩:=a.2 x p;simp_all[Zhx,QV,Vi]
def UC:Gr:=⟨[],[]⟩
def Vb(g:Gr):V:=if right g=xk then .aq [Yj<|Wf g,vi 0]else .aq [Yj UC,vi 1]
def Z0D{g:Gr}(a:g.sm):VC xP 25 xw [Yj g]<|Vb g:=by
 refine ZT Z1k follows Z2 c25 rfl ?_;simp[Ni];refine Zz (OZ a) Z1 ?_;cases d:right g;simp[Vb,d,UC,Yj];simp;refine U4 (Z36 a d 0 [] []) ?_;simp_all[Vb,Yj]
def Z1b{a b:Gr}(p:a.sm):VC xP 11 xw [Yj a,Yj b]<|.bool<|decide (a=b):=by
 refine ZT Z1c follows Z2 Am rfl ?_;obtain⟨u,l,o⟩:=p;simp[qI];refine Zz (Ij l) Z1 ?_;by_cases k:a.E=b.E;simp[k];by_cases g:I a.nodes=I b.nodes;simp[g];refine UM (λt=>∃i:Nat,i<=I b.nodes/\a.nodes.take i=b.nodes.take i/\t=[.v<|Yj a,.v<|Yj b,.m [.sl<|a.nodes.map Yi,.sl<|a.E.map vi],.m [.sl<|b.nodes.map Yi,.sl<|b.E.map vi],.v<|.bool xw,.v<|.bool xk,.v<|.bool xw,.v<|vi i]) (λt=>match get t 7 with|.v (.int _ n)=>I b.nodes-n.toNat|_=>0) ?_ ?_;exact⟨0,Z1,Z1,by simp[k]⟩;rintro t ⟨i,w,heq,rfl⟩;by_cases h:i<I b.nodes;have j:i<I a.nodes:=Z0;obtain⟨q,r⟩:=o _<|Zhx j;simp[h,j,g];refine Zz (Ij q) Z1 ?_;simp[h,j,g];refine Zz (Jr<|ZhD r Z0) Z1 ?_;by_cases d:a.nodes[i].M=b.nodes[i].M;by_cases f:a.nodes[i].data=b.nodes[i].data;simp[d,f];simp(disch:=omega) only[ZA];have z:a.nodes[i]=b.nodes[i]:=by
  generalize a.nodes[i]=x at d f;generalize b.nodes[i]=y at d f;cases x;cases y;simp at d f;simp[d,f]
 grind [DT];simp[d,f];grind;simp[d];grind;have:i=I b.nodes:=Z0;subst this;rw[Ziy,Zib Z0]at heq;simp[g];cases a;simp_all;simp[show ¬((I a.nodes:Int)=(I b.nodes:Int))by omega];grind;simp[k];grind
end Vm
namespace Vm
open Go Go.Proofs
end Vm
end
section
namespace Vm
open Go Go.Proofs

end Vm
end
section

end
section
namespace Vm
open Go Go.Proofs
def outs(g:Gr)(x:Int):List Int:=((g.nodes[x.toNat]?).getD default).M
def Ms:∀(a:Z6) {d b:Z6},Yg d (a++b)=Yg (Yg d a) b
 | [],_,_=>rfl
 |x::a,d,b=>by simp only[Zix,Yg];exact Ms a
def qn:∀(l:Z6) {acc:Z6},∃t,Yg acc l=acc++t
 | [],acc=>⟨[],by simp[Yg]⟩
 |x::l,acc=>by
  simp only[Yg];obtain⟨t,a⟩:=qn l (acc:=if 0<=x/\x∉acc then acc++[x]else acc);rw[a];split;exact⟨x::t,Z1⟩;exact⟨t,rfl⟩
def Qh:∀ {l d:Z6} {x:Int},x∈Yg d l↔x∈d\/(x∈l/\0<=x)
 | [],d,x=>by simp[Yg]
 |y::l,d,x=>by
  simp only[Yg,Qh (l:=l),Zhs];split;rename_i h;simp only[ZhC,Zic];constructor;rintro((a|rfl)|a);exact .inl a;exact .inr ⟨.inl rfl,h.1⟩;exact .inr ⟨.inr a.1,a.2⟩;rintro(a|⟨rfl|a,f⟩);exact .inl<|.inl a;exact .inl<|.inr rfl;exact .inr ⟨a,f⟩;rename_i h;constructor;rintro(a|a);exact .inl a;exact .inr ⟨.inr a.1,a.2⟩;rintro(a|⟨rfl|a,f⟩);exact .inl a;exact .inl (by by_cases g:x∈d;exact g;exact(h ⟨f,g⟩).elim);exact .inr ⟨a,f⟩
def yx{g:Gr}(f:right g=xk)(x:Int):∀y∈outs g x,-1<=y/\y<I g.nodes:=by
 intro y a;unfold outs at a;cases d:g.nodes[x.toNat]? with
 |none=>rw[d]at a;cases a
 |some n=>rw[d]at a;exact Dg f n (Zhh d) y a
def MR{g:Gr}(n:right g=xk):∀ {f i:Nat} {l:Z6},Good (I g.nodes) l->i<=I l->I g.nodes<f+i->l=Yg [] (g.E++(l.take i).flatMap (outs g))->
  XU g f i l=Yg [] (g.E++(XU g f i l).flatMap (outs g))
 |0,i,l,j,p,o,a=>by have:=j.len;omega
 |f+1,i,l,j,p,o,a=>by
  simp only[XU];cases d:l[i]? with
  |none=>
   have:I l<=i:=Zgp;rw[Zib this]at a;exact a
  |some x=>
   have q:i<I l:=by
    obtain h|h:=Zlu i<|I l;exact h;rw[ZhP h]at d;cases d
   obtain⟨t,k⟩:=qn (outs g x) (acc:=l);refine MR n (TB j λy r=>(yx n x y r).2) ?_ Z0 ?_;show i+1<=I (Yg l<|outs g x);rw[k,ZhY];omega;show Yg l (outs g x)=Yg [] (g.E++((Yg l<|outs g x).take<|i+1).flatMap (outs g));rw[k,Zko Z0,Zi3,d,<-k];simp only[Zja,Option.toList,<-ZhW];rw[Ms,<-a];simp
def MT{g:Gr}(a:right g=xk):order g=Yg [] (g.E++(order g).flatMap (outs g)):=by
 refine MR a (TB ⟨List.nodup_nil,Z1⟩ λy d=>(Qv a y d).2) (Zjc _) Z0 ?_;simp
def Nw:Fn:=⟨10,[0,1,2,8,3,12,11,13,5,10],pQ [pR [(1,pS 0 2),pV 2<|pI 0],pQ [pC [pK 10 45 [.mm 1 0 2]] [pV 3<|.un .not<|.s 10]]<|pw (.s 3)<|px [pV 2<|pI 0],pR [pV 4<|pI 0],pQ [pR [pV 5<|pI 0,pV 6<|.len<|.m 1 0,pV 9<|.m 1 0]]<|po [0,1,2,3,4,5,6,9] 7 (pl (.s 5)<|.s 6) (pQ [pR [(8,pM (.bi (.ba (.s 9) (.s 5) 2) 0 2) 2)]]<|pR [pV 4<|pa (.s 4)<|pa (pa (pI 1)<|.len<|.m 8 0)<|.len<|.m 8 1])<|pc 5]<|px [pV 2<|.s 4],[(2,.v)]⟩
def c49:xQ [.fz] Tryz.f49=J Nw:=Z2
end Vm
end
section
namespace Vm
open Go Go.Proofs
def Jn(n:Nd):Nat:=1+I n.M+I n.data
def Up(l:List Nd):Nat:=(l.map Jn).sum
def words(g:Gr):Nat:=if right g=xk then Up g.nodes else 0
def ZbE{l:List Nd}{i:Nat}{x:Nd}(h:l[i]?=J x):Up (l.take<|i+1)=Up (l.take i)+Jn x:=by
 unfold Up;rw[Zi3,h,Zir,Zld];simp
def ZbD{l:List Nd}(h:∀n∈l,I n.M<=100000/\I n.data<=100000)(i:Nat):Up (l.take i)<=I l*200001:=by
 have:∀ {l:List Nd},(∀n∈l,I n.M<=100000/\I n.data<=100000)->Up l<=I l*200001:=by
  intro l;induction l with
  |nil=>intro _;simp[Up]
  |cons x l f=>
   intro h;have g:=f λn a=>h n (by simp[a]);have j:=h x Z1;have k:Jn x<=200001:=by unfold Jn;omega
   have d:Up (x::l)=Jn x+Up l:=by simp[Up]
   rw[d,Zip,Zit];omega
 refine ZhD (this λn a=>h n<|Zie a)<|ZhS _ ?_;rw[Zid];omega
def Z2i{g:Gr}(l:g.sm):VC xP 49 xw [Yj g]<|vi<|words g:=by
 refine ZT Z1D follows Z2 c49 rfl ?_;simp[Nw];refine Zz (OZ l) Z1 ?_;cases p:right g;simp[words,p];obtain⟨d,r,a⟩:=l;simp;refine UM (λt=>∃i:Nat,i<=I g.nodes/\t=[.v<|Yj g,.m [.sl<|g.nodes.map Yi,.sl<|g.E.map vi],.v<|vi 0,.v<|.bool xw,.v<|vi (Up (g.nodes.take i):Nat),.v<|vi i,.v<|vi<|I g.nodes,.no,.no,.v<|.sl<|g.nodes.map Yi]) (λt=>match get t 5 with|.v (.int _ n)=>I g.nodes-n.toNat|_=>0) ?_ ?_;exact⟨0,Z1,by simp[Up]⟩;rintro t ⟨i,B,rfl⟩;by_cases h:i<I g.nodes;have y:g.nodes[i]?=J g.nodes[i]:=Zh8 h;obtain⟨z,A⟩:=a _<|Zhx h;have q:=ZbE y;have u:=ZbD a<|i+1;have o:I g.nodes*200001<=100000*200001:=ZhS _ d;simp[h];generalize g.nodes[i]=x at*;have w:=ZA ((i:Int)+1) Z0 Z0;have f:=ZA (1+(I x.M:Int)) Z0 Z0;have j:=ZA (1+(I x.M:Int)+I x.data) Z0 Z0;unfold Jn at q;have k:=ZA ((Up (g.nodes.take i):Int)+(1+(I x.M:Int)+I x.data)) Z0 Z0;simp[w,f,j,k];exact⟨⟨i+1,Z0,by rw[q];omega,Z1⟩,Z0⟩;have:i=I g.nodes:=Z0;subst this;simp[words,p]
@[simp]theorem ZfL{α β:Type}{f:α->β}{l:List α}:(l.map f).take (I l)=l.map f:=Zib (by simp)
end Vm
namespace Vm
open Go Go.Proofs
def qo{f:Int->Int}:∀ {o l:List Int},(∀x∈Yg l o,∀y∈Yg l o,f x=f y->x=y)->(∀x∈Yg l o,0<=f x)->(∀x∈o,x<0->f x<0)->Yg (l.map f) (o.map f)=(Yg l o).map f
 | [],l,_,_,_=>rfl
 |y::o,l,d,g,k=>by
  simp only[ZhN,Yg];simp only[Yg]at d g;by_cases j:0<=y/\y∉l;rw[Zhi j]at d g⊢;have h:y∈Yg (l++[y]) o:=Qh.2<|.inl Z1
  have a:0<=f y/\f y∉l.map f:=⟨g y h,λu=>by
   obtain⟨z,p,t⟩:=Zhq.1 u;have:=d z (Qh.2<|.inl (by simp[p])) y h t;subst this;exact j.2 p⟩
  rw[Zhi a,show l.map f++[f y]=(l++[y]).map f by simp];exact qo d g λx n=>k x (by simp[n]);rw[Zhg j]at d g⊢;have a:¬(0<=f y/\f y∉l.map f):=by
   rintro⟨w,r⟩;by_cases q:0<=y;exact r<|Zhq.2 ⟨y,by by_cases h:y∈l;exact h;exact(j ⟨q,h⟩).elim,rfl⟩;have:=k y Z1 Z0;omega
  rw[Zhg a];exact qo d g λx n=>k x (by simp[n])
def Cf{g:Gr}:∀ {F i:Nat} {l:List Int},∃t,XU g F i l=l++t
 |0,i,l=>⟨[],by simp[XU]⟩
 |F+1,i,l=>by
  simp only[XU];cases l[i]? with
  |none=>exact⟨[],Z1⟩
  |some x=>
   obtain⟨t,d⟩:=qn ((g.nodes[x.toNat]?).getD default).M (acc:=l);obtain⟨f,a⟩:=Cf (g:=g) (F:=F) (i:=i+1) (l:=Yg l ((g.nodes[x.toNat]?).getD default).M);refine⟨t++f,?_⟩;show XU g F (i+1) (Yg l ((g.nodes[x.toNat]?).getD default).M)=_;rw[a,d,ZhW]
def Ce{g:Gr}(d:right g=xk):∀ {F i:Nat} {l:List Int} (k:Nat),Good (I g.nodes) l->I g.nodes<F+i->XU g (F+k) i l=XU g F i l
 |0,i,l,k,a,f=>by
  have:=a.len;cases k with
  |zero=>rfl
  |succ k=>
   simp only[ZhZ,XU];rw[ZhP Z0]
 |F+1,i,l,k,a,f=>by
  rw[show F+1+k=(F+k)+1 by omega];simp only[XU];cases j:l[i]? with
  |none=>rfl
  |some x=>
   exact Ce d k (TB a λy h=>(yx d x y h).2) Z0
def MQ{g h:Gr}{f:Int->Int}(d:∀x∈order g,(h.nodes[(f x).toNat]?).map (·.M)=J ((outs g x).map f))(n:∀x∈order g,∀y∈outs g x,y<0->f y<0)(k:∀x∈order g,∀y∈order g,f x=f y->x=y)(o:∀x∈order g,0<=f x):
  ∀ {F i:Nat} {l:List Int},(∀x∈XU g F i l,x∈order g)->XU h F i (l.map f)=(XU g F i l).map f
 |0,i,l,_=>rfl
 |F+1,i,l,q=>by
  simp only[XU,Zhz];simp only[XU]at q;cases A:l[i]? with
  |none=>rfl
  |some x=>
   rw[A]at q;simp only[ZhA];simp only at q;have u:x∈order g:=by
    obtain⟨t,C⟩:=qn ((g.nodes[x.toNat]?).getD default).M (acc:=l);obtain⟨G,p⟩:=Cf (g:=g) (F:=F) (i:=i+1) (l:=Yg l ((g.nodes[x.toNat]?).getD default).M);refine q x ?_;rw[p,C];simp[Zhh A]
   have r:=d x u;cases z:h.nodes[(f x).toNat]? with
   |none=>rw[z]at r;cases r
   |some H=>
    rw[z]at r;simp only[ZhA,Zh7]at r;simp only[ZhE,r];have j:∀y∈Yg l (outs g x),y∈order g:=λy D=>by
     obtain⟨G,p⟩:=Cf (g:=g) (F:=F) (i:=i+1) (l:=Yg l<|outs g x);refine q y ?_;show y∈XU g F (i+1) (Yg l<|outs g x);rw[p];simp[D]
    rw[qo (λa w b B=>k a (j a w) b<|j b B) (λa w=>o a<|j a w)<|n x u];exact MQ d n k o q
def yU{g:Gr}(d:right g=xk){x:Int}(hx:x∈g.E)(a:0<=x):x∈order g:=by
 rw[MT d,Qh];exact .inr ⟨by simp[hx],a⟩
def Z5V{g:Gr}(d:right g=xk){x y:Int}(hx:x∈order g)(f:y∈outs g x)(a:0<=y):y∈order g:=by
 rw[MT d,Qh];exact .inr ⟨ZjL _<|ZjC.2 ⟨x,hx,f⟩,a⟩
def Z2v{L:List Int}{f:Int->Int}{p:Int}(d:∀x∈L,f x=f p->x=p):RJ (L.map f) (f p)=RJ L p:=by
 unfold RJ;rw[List.findIdx?_map];have:L.findIdx? ((λx=>x==f p)∘f)=L.findIdx? (λx=>x==p):=by
  induction L with
  |nil=>rfl
  |cons a L k=>
   simp only[Zk2,Function.comp];have g:(f a==f p)=(a==p):=by
    rw[Zkv];simp only[Zi2];exact⟨d a Z1,λe=>by rw[e]⟩
   have h:=k λx j=>d x (by simp[j]);simp only[g];rw[h]
 rw[this]
def Z35{g h:Gr}(o:right g=xk)(L:right h=xk)(f:Int->Int)(P:f (-1)= -1)(q:∀x∈order g,∀y∈order g,f x=f y->x=y)(r:∀x∈order g,0<=f x)
  (n:h.E=g.E.map f) (k:∀x∈order g,h.nodes[(f x).toNat]?=J ⟨(outs g x).map f,((g.nodes[x.toNat]?).getD default).data⟩):
  order h=(order g).map f/\Wf h=Wf g:=by
 have z:∀x:Int,-1<=x->x<0->f x=x:=λx C D=>by
  have:x= -1:=Z0;subst this;exact P
 have w:∀x∈order g,(h.nodes[(f x).toNat]?).map (·.M)=J ((outs g x).map f):=λx a=>by rw[k x a];rfl
 have G:order h=(order g).map f:=by
  have t:Good (I g.nodes)<|Yg [] g.E:=TB ⟨Z1,Z1⟩ λx a=>(Qv o x a).2;have u:Good (I h.nodes)<|Yg [] h.E:=TB ⟨Z1,Z1⟩ λx a=>(Qv L x a).2;have C:=Ce o (F:=I g.nodes+1) (i:=0) (I h.nodes) t Z0;have D:=Ce L (F:=I h.nodes+1) (i:=0) (I g.nodes) u Z0;have M:=MQ (f:=f) w (λx a y B d=>by rw[z y (yx o x y B).1 d];exact d) q r (F:=I g.nodes+1+I h.nodes) (i:=0) (l:=Yg [] g.E) (λx a=>by rw[C]at a;exact a);have N:Yg [] h.E=(Yg [] g.E).map f:=by
   rw[n];refine qo (l:=[]) (λx a y B=> ?_) (λx a=> ?_) (λx a d=> ?_);rw[Qh]at a B;simp at a B;exact q x (yU o a.1 a.2) y<|yU o B.1 B.2;rw[Qh]at a;simp at a;exact r x<|yU o a.1 a.2;rw[z x (Qv o x a).1 d];exact d
  unfold order;rw[<-D,<-C,N,<-M];congr 1;omega
 refine⟨G,?_⟩;have j:∀H:List Int,(∀p∈H,-1<=p/\(0<=p->p∈order g))->Vi (order h) (H.map f)=Vi (order g) H:=by
  intro H K;unfold Vi;rw[Zjw];refine Ziv λp A=> ?_;obtain⟨C,D⟩:=K p A;simp only[Function.comp];by_cases d:0<=p;rw[Zhi<|r p<|D d,Zhi d,G];exact Z2v λx a O=>q x a p (D d) O;rw[z p C Z0];rw[Zhg d,Zhg d]
 unfold Wf;congr 1;rw[G,Zjw];refine Ziv λx a=> ?_;simp only[Function.comp,QV,k x a,ZhE];congr 1;rw[<-G];exact j _ λp A=>⟨(yx o x p A).1,λd=>Z5V o a A d⟩;rw[n];exact j _ λp A=>⟨(Qv o p A).1,λd=>yU o A d⟩
end Vm
end
section

end
section
namespace Vm
open Go Go.Proofs
structure Fo where
 ob:Ob
 ad:Int
 sl:List Int
 deriving Inhabited
def Xl(f:Fo):V:=.agg [vi f.ob.Y,vi f.ob.size,vi f.ob.M,.bool f.ob.gone,vu f.ob.target,vu f.ad,.sl<|f.sl.map vu]
@[simp]theorem Zea(f:Fo):(Xl f).cells=[vi f.ob.Y,vi f.ob.size,vi f.ob.M,.bool f.ob.gone,vu f.ob.target,vu f.ad,.sl<|f.sl.map vu]:=rfl
@[simp]theorem ZfC(f:Fo):VD (Xl f) 7=J (Xl f):=rfl
@[simp]theorem Ze3(f:Fo):Uv (Xl f) 0 7=J (Xl f):=rfl
@[simp]theorem Zdh(f:Fo):Y1 (Xl f) 0=J (vi f.ob.Y):=rfl
@[simp]theorem Zdi(f:Fo):Y1 (Xl f) 1=J (vi f.ob.size):=rfl
@[simp]theorem Zdj(f:Fo):Y1 (Xl f) 2=J (vi f.ob.M):=rfl
@[simp]theorem Zdk(f:Fo):Y1 (Xl f) 3=J (.bool f.ob.gone):=rfl
@[simp]theorem Zdl(f:Fo):Y1 (Xl f) 4=J (vu f.ob.target):=rfl
@[simp]theorem Zdm(f:Fo):Y1 (Xl f) 5=J (vu f.ad):=rfl
@[simp]theorem Zdn(f:Fo):Y1 (Xl f) 6=J (.sl<|f.sl.map vu):=rfl
@[simp]theorem Zfq(l:List Fo):XA 7 (l.map Xl)=xk:=JN λ_=>rfl
structure Vw where
 ns:List Fo
 nm:List<|Int×Int
 tm:List<|Int×Int
 deriving Inhabited
def Vw.put(s:Vw)(f:Fo):Vw:=if f.ob.gone then {s with tm:=XV s.tm f.ad f.ob.target}else {s with ns:=s.ns++[f],nm:=XV s.nm f.ad (I s.ns)}
def Vw.dg(s:Vw)(w:Int):Int:=if w=0 then-1 else(Y4 s.nm<|(Y4 s.tm (adr w).1).getD (adr w).1).getD 0
def Ta(s:Vw)(f:Fo):Nd:=⟨(f.sl.take f.ob.M.toNat).map s.dg,f.sl.drop f.ob.M.toNat⟩
def Vw.gr(s:Vw)(a:Z6):Gr:=⟨s.ns.map<|Ta s,a.map s.dg⟩
def Ff(s:Vw){ws:Z6}(B:I ws<=1000000)(x:∀w∈ws,ZB w):
  Vo xP 23 [.fz,.mem [.fz],.mem [.fz]] [.sl<|ws.map vu,.agg [Yh vu s.tm],.agg [Yh vi s.nm]] (.aq [.sl<|(ws.map s.dg).map vi,.agg [Yh vu s.tm],.agg [Yh vi s.nm]]):=by
 refine JV Z1j follows Z2 cTo Z2 ?_;simp[NW];refine VF 5 (I ws) (λi=>[(4,.v<|.sl<|((ws.take i).map s.dg).map vi),(5,.v<|vi i)]) (λ_=>True) Z1 Z1 trivial ?_;intro i A _;by_cases h:i<I ws;have y:ws[i]?=J ws[i]:=Zh8 h;have r:=x _<|Zhx h;have o:=ZA ((i:Int)+1) Z0 Z0;have q:List.take (i+1) (List.map (vi∘s.dg) ws)=List.take i (List.map (vi∘s.dg) ws)++[vi<|s.dg ws[i]]:=by
  rw[Zi3,Zhz,y];rfl
 have a:min i (I ws)+1<=Yc:=by unfold Yc;omega
 simp[h,o,q,a];split;simp_all[Vw.dg];rename_i p;refine Zz (QO r) Z1 ?_;have j:=Qb (f:=vu) (l:=s.tm) (k:=(adr ws[i]).1) (z:=.int .u64 0) (ok:=xk);cases n:Y4 s.tm (adr ws[i]).1 with
 |none=>
  rw[n]at j;have d:=Qb (f:=vi) (l:=s.nm) (k:=(adr ws[i]).1) (z:=.int .i64 0) (ok:=xw);cases g:Y4 s.nm (adr ws[i]).1 with
  |none=>rw[g]at d;simp[j,d,Vw.dg,p,n,g,o,a]
  |some t=>rw[g]at d;simp[j,d,Vw.dg,p,n,g,o,a]
 |some u=>
  rw[n]at j;have d:=Qb (f:=vi) (l:=s.nm) (k:=u) (z:=.int .i64 0) (ok:=xw);cases g:Y4 s.nm u with
  |none=>rw[g]at d;simp[j,d,Vw.dg,p,n,g,o,a]
  |some t=>rw[g]at d;simp[j,d,Vw.dg,p,n,g,o,a]
 have:i=I ws:=Z0;simp_all
def Z8M{s:St}{st:Vw}{f:Fo}{N R:St->Prop}{X:Nat->St->Prop}(o:get s 6=.v (.sl<|st.ns.map Xl))(p:get s 7=.m [Yh vi st.nm])(q:get s 8=.m [Yh vu st.tm])(h:get s 12=.v (.aq [Xl f,.bool xk]))(g:get s 10=.v (.bool xk))(u:I st.ns<=4000000)
  (r:∀a,get a 6=.v (.sl<|(st.put f).ns.map Xl)->get a 7=.m [Yh vi (st.put f).nm]->get a 8=.m [Yh vu (st.put f).tm]->get a 1=get s 1->get a 2=get s 2->get a 3=get s 3->N a):Yw xP rD s N X R:=by
 have j:=Lc (f:=vu) (l:=st.tm) (k:=f.ad) (x:=f.ob.target);have n:=Lc (f:=vi) (l:=st.nm) (k:=f.ad) (x:=(I st.ns:Int));have d:I st.ns+1<=Yc:=by unfold Yc;omega
 cases t:f.ob.gone;simp_all[rD,X5,Vw.put,Xl];simp_all[rD,X5,Vw.put]
def Z8L{s:St}{N R:St->Prop}{X:Nat->St->Prop}(a:get s 10=.v (.bool xw))(d:X 0 s):Yw xP rD s N X R:=by
 simp[rD,a,d]
structure Vw.sm (st:Vw) (roots:List Int):Prop where
 n:I st.ns<=100000
 f:∀f∈st.ns,0<=f.ob.M/\f.ob.M<=I f.sl/\I f.sl<=100000/\∀w∈f.sl,ZB w
 r:I roots<=100000/\∀w∈roots,ZB w
def Vw.sm.gr{st:Vw}{a:Z6}(h:st.sm a):(st.gr a).sm:=by
 refine⟨by simpa[Vw.gr]using h.n,by simpa[Vw.gr]using h.r.1,λn d=> ?_⟩;simp only[Vw.gr,Zhq]at d;obtain⟨f,g,rfl⟩:=d;obtain⟨_,_,j,_⟩:=h.f f g;grind [Ta,List.length_map,List.length_take,List.length_drop]
def Z8K{s:St}{st:Vw}{roots:Z6}{b c t y sc:V}{K L M O:V}{N R:St->Prop}{X:Nat->St->Prop}(k:st.sm roots)(x:get s 1=.m [b,c,t,y,sc,K,L,M,O,.sl<|roots.map vu])(o:get s 6=.v (.sl<|st.ns.map Xl))(z:get s 7=.m [Yh vi st.nm])(A:get s 8=.m [Yh vu st.tm])
  (a:∀D,Wq D [(2,.ag 2),(3,.v)]=J (Vb<|st.gr roots)->R D):Yw xP rC s N X R:=by
 simp[rC,o,X5];refine VF 16 (I st.ns) (λi=>[(15,.m [.sl<|((st.ns.take i).map<|Ta st).map Yi,.sl []]),(16,.v<|vi i)]) (λ_=>True) (by simp[X5]) (by simp[X5]) trivial ?_;intro i Q _;by_cases h:i<I st.ns;have G:st.ns[i]?=J st.ns[i]:=Zh8 h;obtain⟨H,T,p2,p3⟩:=k.f _<|Zhx h;have S:=k.n;obtain⟨P,B⟩:=Zhp H;have d:P<=st.ns[i].sl.length:=Z0;have u:=ZA ((i:Int)+1) Z0 Z0;have q:List.take (i+1) (List.map (Yi∘Ta st) st.ns)=List.take i (List.map (Yi∘Ta st) st.ns)++[Yi<|Ta st st.ns[i]]:=by
  rw[Zi3,Zhz,G];rfl
 have l:=Ff st (ws:=st.ns[i].sl.take P) Zge λw u=>p3 w<|Zie u;have j:min i (I st.ns)+1<=Yc:=by unfold Yc;omega
 simp[X5,h,x,o,z,A,B,Ro,d];rw[List.map_take]at l;refine U4 l ?_;simp[X5,Qz,d,u,q,j,B,Ta,Yi];have:i=I st.ns:=Z0;subst this;simp[X5,x,o,z,A];refine U4 (Ff st (ws:=roots) (by have:=k.r.1;omega) k.r.2) ?_;simp;have C:=Z0D k.gr;simp only[Vw.gr,Yj,Zjw]at C;refine Zz C Z1 ?_;have F:Vb (st.gr roots)=Vb {nodes:=List.map (Ta st) st.ns,E:=List.map st.dg roots}:=rfl;rw[F]at a;generalize ({nodes:=List.map (Ta st) st.ns,E:=List.map st.dg roots}:Gr)=g at*;unfold Vb at a⊢;split;rename_i p;rw[Zhi p]at a;simp;refine a _ ?_;simp[Wq,VZ,Tf,Yj];rename_i p;rw[Zhg p]at a;simp[UC,Yj];refine a _ ?_;simp[Wq,VZ,Tf,UC,Yj]
end Vm
end
section
namespace Vm
open Go Go.Proofs Go.RowKit Go.Conc
def FJ{t}(h:t.size=71):t=#[t.getD 0 xy,t.getD 1 xy,t.getD 2 xy,t.getD 3 xy,t.getD 4 xy,t.getD 5 xy,t.getD 6 xy,t.getD 7 xy,t.getD 8 xy,t.getD 9 xy,t.getD 10 xy,t.getD 11 xy,t.getD 12 xy,t.getD 13 xy,t.getD 14 xy,t.getD 15 xy,t.getD 16 xy,t.getD 17 xy,t.getD 18 xy,t.getD 19 xy,t.getD 20 xy,t.getD 21 xy,t.getD 22 xy,t.getD 23 xy,t.getD 24 xy,t.getD 25 xy,t.getD 26 xy,t.getD 27 xy,t.getD 28 xy,t.getD 29 xy,t.getD 30 xy,t.getD 31 xy,t.getD 32 xy,t.getD 33 xy,t.getD 34 xy,t.getD 35 xy,t.getD 36 xy,t.getD 37 xy,t.getD 38 xy,t.getD 39 xy,t.getD 40 xy,t.getD 41 xy,t.getD 42 xy,t.getD 43 xy,t.getD 44 xy,t.getD 45 xy,t.getD 46 xy,t.getD 47 xy,t.getD 48 xy,t.getD 49 xy,t.getD 50 xy,t.getD 51 xy,t.getD 52 xy,t.getD 53 xy,t.getD 54 xy,t.getD 55 xy,t.getD 56 xy,t.getD 57 xy,t.getD 58 xy,t.getD 59 xy,t.getD 60 xy,t.getD 61 xy,t.getD 62 xy,t.getD 63 xy,t.getD 64 xy,t.getD 65 xy,t.getD 66 xy,t.getD 67 xy,t.getD 68 xy,t.getD 69 xy,t.getD 70 xy]:=by
 refine ZjX Z0 λi f d=> ?_;have a:i<71:=Zgp;have e:t[i]=t.getD i xy:=by simp[Array.getD,f]
 rw[e]
 revert d
 match i,a with
 |0,_=>simp
 |1,_=>simp
 |2,_=>simp
 |3,_=>simp
 |4,_=>simp
 |5,_=>simp
 |6,_=>simp
 |7,_=>simp
 |8,_=>simp
 |9,_=>simp
 |10,_=>simp
 |11,_=>simp
 |12,_=>simp
 |13,_=>simp
 |14,_=>simp
 |15,_=>simp
 |16,_=>simp
 |17,_=>simp
 |18,_=>simp
 |19,_=>simp
 |20,_=>simp
 |21,_=>simp
 |22,_=>simp
 |23,_=>simp
 |24,_=>simp
 |25,_=>simp
 |26,_=>simp
 |27,_=>simp
 |28,_=>simp
 |29,_=>simp
 |30,_=>simp
 |31,_=>simp
 |32,_=>simp
 |33,_=>simp
 |34,_=>simp
 |35,_=>simp
 |36,_=>simp
 |37,_=>simp
 |38,_=>simp
 |39,_=>simp
 |40,_=>simp
 |41,_=>simp
 |42,_=>simp
 |43,_=>simp
 |44,_=>simp
 |45,_=>simp
 |46,_=>simp
 |47,_=>simp
 |48,_=>simp
 |49,_=>simp
 |50,_=>simp
 |51,_=>simp
 |52,_=>simp
 |53,_=>simp
 |54,_=>simp
 |55,_=>simp
 |56,_=>simp
 |57,_=>simp
 |58,_=>simp
 |59,_=>simp
 |60,_=>simp
 |61,_=>simp
 |62,_=>simp
 |63,_=>simp
 |64,_=>simp
 |65,_=>simp
 |66,_=>simp
 |67,_=>simp
 |68,_=>simp
 |69,_=>simp
 |70,_=>simp
 |i+71,h=>omega
def Rp(v:Zg)(lo n:Nat):Value:=match v with
 |.slice (J ⟨b,o,q⟩) _ c=>.slice (J<|if c=lo then⟨b,o,q⟩else⟨b,o+lo,q⟩) n<|c-lo
 |v=>v
def Uw(h:Hp)(x:Z9)(p:Nat)(o:Ob):Value:=.agg #[.int .i64 o.Y,.int .i64 o.size,.int .i64 o.M,.bool o.gone,.int .u64 o.target,.int .u64 (ZU (Zv h) ((p:Int)+1) o.Y).1,Rp (x p) (o.Y+1).toNat o.size.toNat]
def obP(h:Hp)(p:Nat):List Ob:=(VS h<|(p:Int)+1).1
def Wv(h:Hp)(x:Z9):Nat->Nat->List Value
 |0,_=>[]
 |n+1,p=>(obP h p).map (Uw h x p)++Wv h x n (p+1)
noncomputable def seC:Code:=match Tryz.f22.body with|some c=>c|none=>.skip
noncomputable def clOps:Array Oper:=Ls<|Ys seC [1,1,1]
def Er(c:Nat)(b:Zf)(d:Z8)(fr:Zf)(cs:Z8)(w:Z3):Prop:=cs=d/\∃a,fr=b.at a [.inRegion clOps [1]]/\a.tmps[70]?=J (.chan<|J c)/\a.defers=[]
def Z8P{w G h x}(d:∀j,j<5->Rd w G (.sl<|(Zw h j).map vu) (x j)):Rd w G (ZM h)<|ZJ h x:=by
 refine .agg _ _ rfl Z1 ?_;intro i y a
 match i,a with
 |0,a=>cases a;exact .int _ _
 |1,a=>cases a;exact .int _ _
 |2,a=>cases a;exact .int _ _
 |3,a=>cases a;exact .bool _
 |4,a=>cases a;exact .int _ _
 |5,a=>cases a;exact d 0 Z0
 |6,a=>cases a;exact d 1 Z0
 |7,a=>cases a;exact d 2 Z0
 |8,a=>cases a;exact d 3 Z0
 |9,a=>cases a;exact d 4 Z0
def Z11{w:Z3}{G:Z4}{h:Hp}(u:h.ok){x:Z9}(o:∀b,G b->b<xz (xj w))(z:∀j,j<5->Rd w G (.sl<|(Zw h j).map vu) (x j))(p:Int):
  Calls xP 21 #[ZJ h x,.int .i64 p] w λe f=>∃s,e=.returned (.tuple #[s,.int .i64 (VS h p).2])/\Below (xz<|xj w) w f/\Rd f (λb=>b<xz (xj f)) (.sl<|(VS h p).1.map ZN) s:=by
 refine ZjU ((Eu u (k:=p)).2 w G _ o rfl ?_) ?_;intro i y d
 match i,d with
 |0,d=>cases d;exact Z8P z
 |1,d=>cases d;exact .int _ _
 rintro e f ⟨v,rfl,q,A⟩;cases A with
 |aq _ vs l n=>
  have t:=n 0 _ rfl;have g:=Se<|n 1 _ rfl;simp only[Zip,ZiI]at l;refine⟨vs.getD 0 xy,?_,q,t.mono λb a=> ?_⟩;congr 2;refine ZjX (by simpa using l) λi r B=> ?_;have:i=0\/i=1:=by simp at B;omega
  obtain rfl|rfl:=this;simp[Array.getD,r];simp[Array.getD,r]at g;simpa using g;obtain⟨_,a⟩|a:=a;exact Zhj (o b a) q.size;exact a.2
def u71 a b:(#[a,b]:Array Value)++Array.replicate (71- (#[a,b]:Array Value).size) xy=#[a,b,xy,xy,xy,xy,xy,xy,xy,xy,xy,xy,xy,xy,xy,xy,xy,xy,xy,xy,xy,xy,xy,xy,xy,xy,xy,xy,xy,xy,xy,xy,xy,xy,xy,xy,xy,xy,xy,xy,xy,xy,xy,xy,xy,xy,xy,xy,xy,xy,xy,xy,xy,xy,xy,xy,xy,xy,xy,xy,xy,xy,xy,xy,xy,xy,xy,xy,xy,xy,xy]:=Z2
structure SSt (w:World) (h:Hp) (x:Nat->Value) (b4:Nat) (W:World):Prop where
 dm:Below (xz<|xj w) w W
 c2:W.heap[xz<|xj w]?=J (.cells #[.int .u64 h.base,.int .i64 h.cap,.int .i64 h.to,.bool h.aa,.int .i64 h.Z,x 0,x 1,x 2,x 3,x 4] 30 (0,0))
 c4:W.heap[b4]?=J (.cells #[.int .u64 h.base,.int .i64 h.cap,.int .i64 h.to,.int .i64<|I h.H,.int .i64<|I h.ae,.int .i64<|I h.ah,.int .i64<|I h.aj] 52 (0,0))
def SSt.below{w W d h x f}(s:SSt w h x f W)(a:Below (xz<|xj W) W d):SSt w h x f d:=
 ⟨s.dm.trans<|a.mono s.dm.size,(a.block _<|Y2 s.c2).trans s.c2,(a.block _<|Y2 s.c4).trans s.c4⟩
def LN{W G}{l:Z6}{y}(h:Rd W G (.sl<|l.map vu) y):∃a c,y=.slice a (I l) c:=by
 generalize f:l.map vu=L at h;have j:I L=I l:=by rw[<-f,ZhM]
 cases h with
 |nil a c d=>simp_all
 |sl _ b o cap k vs d g=>simp_all
def Z9N{P W T d}(n:P.underlying T=J (.slice d))(p:(Go.sizeOf d).run P W=.ok 1 W){b o len cap:Nat}{lo a:Int}(f:0<=lo)(h2:lo<=a)(q:a<=cap):
  (Instr.slice T (.slice (J ⟨b,o,U⟩) len cap) (J<|.int .i64 lo) (J<|.int .i64 a) U).run P W=.ok (Rp (.slice (J ⟨b,o,U⟩) len cap) lo.toNat (a-lo).toNat) W:=by
 obtain⟨l,rfl⟩:=Zhp f;obtain⟨k,rfl⟩:=Zhp (Z0:0<=a);have g:l<=k:=Z0;have h:k<=cap:=Z0;have j:(k- (l:Int)).toNat=k-l:=Z0;simp[Instr.slice,Instr.sliceBounds,Instr.sliceBound,asIntOf,ZhQ n,p,g,h,j,Rp,Addr.add];grind
def Z8W{W G}{l:Z6}{y}(h:Rd W G (.sl<|l.map vu) y)(f:0<I l){a n k}(e:y=.slice a n k):∃b o,a=J ⟨b,o,U⟩/\I l<=k/\k<=maxLen:=by
 generalize j:l.map vu=L at h;cases h with
 |nil a c d=>simp_all
 |sl _ b o cap p vs d g=>grind
def Z8T{W G}{l:Zi}{y}(h:Rd W G (.sl<|l.map ZN) y):∃a c,y=.slice a (I l) c:=by
 generalize f:l.map ZN=L at h;have j:I L=I l:=by rw[<-f,ZhM]
 cases h with
 |nil a c d=>simp_all
 |sl _ b o cap k vs d g=>simp_all
def ju:Tryz.f22.body=J seC:=Z2
def Z69{Q c Post es}{fn:Func}{code d a}{b:Zf}{w cs}(f:fn.body=J code)(h2:fn.body=J d)(h:LS Q c Post es (b.at a [.code code]) cs w):LS Q c Post es (b.at a [.code d]) cs w:=by
 simp_all
def Za1(b:Zf)(b7:Z8)(w:Z3)(h:Hp)(hh:h.ok)(x:Z9)(c:Nat)(G:Z4)(hG:∀b,G b->b<xz (xj w))(hr:∀j,j<5->Rd w G (.sl<|(Zw h j).map vu) (x j))
  (d5:∀p,p<4->I (obP h p)<=1000000/\∀o∈obP h p,0<=o.Y/\0<=o.size/\o.Y+1+o.size<=I (Zw h p)):
  LS xP c (Er c b b7) ((Wv h x 4 0).map .send) (b.at {tmps:=#[ZJ h x,.chan<|J c]++Array.replicate (71- (#[ZJ h x,.chan<|J c]:Array Value).size) xy,defers:=[]} [.code seC]) b7 w:=by
 obtain⟨Q,k0,e0⟩:=LN<|hr 0 Z0;obtain⟨R,k1,e1⟩:=LN<|hr 1 Z0;obtain⟨S,k2,e2⟩:=LN<|hr 2 Z0;obtain⟨T,k3,e3⟩:=LN<|hr 3 Z0;have A:=Zhf<|And.intro e0<|And.intro e1<|And.intro e2 e3;have HL:∀W,Below (xz<|xj w) w W->Calls xP 19 #[ZJ h x] W λe w'=>e=.returned (Wk<|Zv h)/\Below (xz<|xj W) W w':=λW N=>
  Ke (G:=G) (λb P=>Zhj (hG b P) N.size) λj hj=>(hr j hj).keep (λb P=>N.block b<|hG b P) λ_ q=>q
 have HO:∀W,Below (xz<|xj w) w W->∀p,Calls xP 21 #[ZJ h x,.int .i64 p] W λe w'=>∃s,e=.returned (.tuple #[s,.int .i64 (VS h p).2])/\Below (xz<|xj W) W w'/\Rd w' (λb=>b<xz (xj w')) (.sl<|(VS h p).1.map ZN) s:=λW N p=>
  Z11 hh (G:=G) (λb P=>Zhj (hG b P) N.size) (λj hj=>(hr j hj).keep (λb P=>N.block b<|hG b P) λ_ q=>q) p
 unfold ZJ at HL HO;rw[e0,e1,e2,e3]at HL HO;have HL:=Zhf HL;have HO:=Zhf HO;have HF:=Zhf<|And.intro hG hr;have HB:=Zhf d5;clear hG hr d5;unfold ZJ;rw[e0,e1,e2,e3];refine Z69 (fn:=Tryz.f22) rfl ju ?_;rw[u71];refine LS.cw (LS.dv λK u=> ?_);go_wp2;obtain⟨w2,z⟩:∃w2,w2=w.alloc (.cells #[.int .u64 h.base,.int .i64 h.cap,.int .i64 h.to,.bool h.aa,.int .i64 h.Z,.slice Q (I<|Zw h 0) k0,.slice R (I<|Zw h 1) k1,.slice S (I<|Zw h 2) k2,.slice T (I<|Zw h 3) k3,x 4] 30):=⟨_,rfl⟩;rw[<-z];have b2:w2.heap[xz<|xj w]?=J (.cells #[.int .u64 h.base,.int .i64 h.cap,.int .i64 h.to,.bool h.aa,.int .i64 h.Z,.slice Q (I<|Zw h 0) k0,.slice R (I<|Zw h 1) k1,.slice S (I<|Zw h 2) k2,.slice T (I<|Zw h 3) k3,x 4] 30 (0,0)):=by rw[z];exact ZhB ..
 have z2:xz (xj w2)=xz (xj w)+1:=by rw[z];simp
 have q2:Below (xz<|xj w) w w2:=by rw[z];exact(Zhw _ _).alloc (Zhc _) _
 clear z;have y2:∀j,w2.cell? ⟨xz<|xj w,j,U⟩=(#[.int .u64 h.base,.int .i64 h.cap,.int .i64 h.to,.bool h.aa,.int .i64 h.Z,.slice Q (I<|Zw h 0) k0,.slice R (I<|Zw h 1) k1,.slice S (I<|Zw h 2) k2,.slice T (I<|Zw h 3) k3,x 4]:Array Value)[j]? :=λj=>Zhl _ _ _ _ _ _ b2;have d:=Zhf<|And.intro b2<|And.intro z2 q2;clear b2 z2 q2;refine LS.cw (LS.dv λK u=> ?_)
 go_wp2_with (first
  |(go_at_call 19;refine(HL.out _ d.out.2.2).mono ?_;rintro e w3 ⟨rfl,b9⟩;unfold Wk Zv;dsimp only;have L:=Zhf b9;clear b9))
 obtain⟨W,N⟩:∃W,W=w3.alloc (.cells #[.int .u64 h.base,.int .i64 h.cap,.int .i64 h.to,.int .i64<|I h.H,.int .i64<|I h.ae,.int .i64<|I h.ah,.int .i64<|I h.aj] 52):=⟨_,rfl⟩;obtain⟨X,a8⟩:∃X,X=xz (xj w3):=⟨_,rfl⟩;rw[<-N,<-a8];have f:SSt w h x X W:=by
  have hz:=L.out.size;rw[N,a8];exact⟨(d.out.2.2.trans<|L.out.mono d.out.2.2.size).alloc (by have:=d.out.2.2.size;omega) _,by rw[Zht _ _ _ (by have:=Y2 d.out.1;omega)];rw[e0,e1,e2,e3];exact(L.out.block _<|Y2 d.out.1).trans d.out.1,ZhB ..⟩
 clear N a8 L d y2 e0 e1 e2 e3;have y2:∀j,W.cell? ⟨xz<|xj w,j,U⟩=(#[.int .u64 h.base,.int .i64 h.cap,.int .i64 h.to,.bool h.aa,.int .i64 h.Z,.slice Q (I<|Zw h 0) k0,.slice R (I<|Zw h 1) k1,.slice S (I<|Zw h 2) k2,.slice T (I<|Zw h 3) k3,x 4]:Array Value)[j]? :=λj=>Zgy;refine LS.cw<|LS.cw (LS.dv λK u=> ?_);go_wp2
 refine LS.block (LS.rf (λn es a W=>∃(p:Nat) (t:Ze),p+n=4/\es=(Wv h x n p).map .send/\a=⟨t,[]⟩/\t.size=71/\t.getD 1 xy=.chan (J c)/\t.getD 2 xy=.pointer (J ⟨xz<|xj w,0,U⟩)/\t.getD 4 xy=.pointer (J ⟨X,0,U⟩)/\
  t.getD 24 xy=.agg #[.slice Q (I<|Zw h 0) k0,.slice R (I<|Zw h 1) k1,.slice S (I<|Zw h 2) k2,.slice T (I<|Zw h 3) k3]/\t.getD 25 xy=.int .i64 p/\SSt w h x X W) (n:=4) ⟨0,_,rfl,rfl,rfl,rfl,rfl,rfl,rfl,rfl,rfl,f⟩ ?_)
 clear f y2 W;rintro n es a W ⟨p,t,hp,rfl,rfl,D,t1,t2,t4,F,H,f⟩ ih;have IH:=Zhf ih;clear ih;rw[FJ D,t1,t2,t4,F,H];obtain⟨g,hg⟩:∃g:Z9,∀i,t.getD i xy=g i:=⟨_,λ_=>rfl⟩;simp only[hg];clear hg t1 t2 t4 F H D t;have y2:∀j,W.cell? ⟨xz<|xj w,j,U⟩=(#[.int .u64 h.base,.int .i64 h.cap,.int .i64 h.to,.bool h.aa,.int .i64 h.Z,.slice Q (I<|Zw h 0) k0,.slice R (I<|Zw h 1) k1,.slice S (I<|Zw h 2) k2,.slice T (I<|Zw h 3) k3,x 4]:Array Value)[j]? :=λj=>Zgy;cases n with
 |zero=>
  have d7:((p:Int)<4)=False:=ZiM Z0;refine LS.cw (LS.dv λK u=> ?_);go_wp2;refine LS.cw<|LS.pv rfl<|LS.exit rfl<|LS.region ?_;refine LS.value (i:=0) (l:=[1]) rfl rfl rfl ?_;exact LS.ke ⟨rfl,_,rfl,rfl,rfl⟩
 |succ n=>
  have d7:((p:Int)<4)=True:=Zje Z0;have f6:p<4:=Z0;refine LS.cw (LS.dv λK u=> ?_);go_wp2;refine LS.cw<|LS.py rfl<|LS.skip<|LS.cw<|LS.block<|LS.cw (LS.dv λK u=> ?_);obtain⟨ap,kp,ep⟩:=LN<|HF.out.2 p Z0;have d0:∀W,(Instr.index 117 (.agg #[.slice Q (I<|Zw h 0) k0,.slice R (I<|Zw h 1) k1,.slice S (I<|Zw h 2) k2,.slice T (I<|Zw h 3) k3])<|.int .i64 (p:Int)).run xP W=.ok (.slice ap (I<|Zw h p) kp) W:=by
   intro W;have hT:xP.underlying 117=J (.array 4 28):=Z2;have:p=0\/p=1\/p=2\/p=3:=Z0;rw[<-ep];obtain rfl|rfl|rfl|rfl:=this;rw[A.out.1];rfl;rw[A.out.2.1];rfl;rw[A.out.2.2.1];rfl;rw[A.out.2.2.2];rfl
  have EP:=Zhf ep;clear ep;go_wp2;clear d0;have b6:=ZA ((p:Int)+1) Z0 Z0;refine LS.cw (LS.dv λK u=> ?_);go_wp2;have d:=Zhf f;clear f;refine LS.cw (LS.dv λK u=> ?_)
  go_wp2_with (first
   |(go_at_call 21;refine(HO.out _ d.out.dm _).mono ?_;rintro e W5 ⟨s5,rfl,c0,r⟩;obtain⟨a5,k5,rfl⟩:=Z8T r;have a4:=Zhf<|And.intro c0 r;clear c0 r))
  refine LS.cw (LS.dv λK u=> ?_);go_wp2;have f:=d.out.below a4.out.1;have r:=a4.out.2;clear d a4 y2 W d7;rename_i W5;rw[show(VS h<|(p:Int)+1).1=obP h p from rfl]at r⊢;have Z:=Z7a r λb P=>P;obtain⟨f5,d6⟩:=HB.out p f6;have c8:Wv h x (n+1) p=(obP h p).map (Uw h x p)++Wv h x n (p+1):=rfl;rw[c8];clear c8 r;have HX:=Zhf<|And.intro Z<|And.intro f5 d6;clear Z d6
  refine LS.block (LS.rf (λm es a W=>∃(i:Nat) (t:Ze),i+m=I (obP h p)/\es=(((obP h p).drop i).map (Uw h x p)++Wv h x n (p+1)).map .send/\a=⟨t,[]⟩/\t.size=71/\t.getD 1 xy=.chan (J c)/\t.getD 2 xy=.pointer (J ⟨xz<|xj w,0,U⟩)/\t.getD 4 xy=.pointer (J ⟨X,0,U⟩)/\
   t.getD 6 xy=.slice ap (I<|Zw h p) kp/\t.getD 7 xy=.int .i64 ((p:Int)+1)/\t.getD 24 xy=.agg #[.slice Q (I<|Zw h 0) k0,.slice R (I<|Zw h 1) k1,.slice S (I<|Zw h 2) k2,.slice T (I<|Zw h 3) k3]/\t.getD 25 xy=.int .i64 p/\t.getD 37 xy=.slice a5 (I<|obP h p) k5/\t.getD 38 xy=.int .i64 (I<|obP h p)/\t.getD 39 xy=.int .i64 i/\
   SSt w h x X W/\Below (xz<|xj W5) W5 W) (n:=I<|obP h p) ⟨0,_,Z0,rfl,rfl,rfl,rfl,rfl,rfl,rfl,rfl,rfl,rfl,rfl,rfl,rfl,f,Zhw _ _⟩ ?_)
  clear f g b6;rintro m es a W ⟨i,t,hi,rfl,rfl,D,t1,t2,t4,t6,t7,F,H,e8,f0,f1,f,k⟩ ih;have f2:=Zhf ih;clear ih;rw[FJ D,t1,t2,t4,t6,t7,F,H,e8,f0,f1];obtain⟨g,hg⟩:∃g:Z9,∀i,t.getD i xy=g i:=⟨_,λ_=>rfl⟩;simp only[hg];clear hg t1 t2 t4 t6 t7 F H e8 f0 f1 D t;cases m with
  |zero=>
   have b3:((i:Int)< (I (obP h p):Int))=False:=ZiM Z0;refine LS.cw (LS.dv λK u=> ?_);go_wp2;refine LS.cw<|LS.pv rfl<|LS.exit rfl<|LS.inBlock ?_;have b6:=ZA ((p:Int)+1) Z0 Z0;have C:(obP h p).drop i=[]:=Zl1 Z0;rw[C];clear C b3;refine LS.dv λK u=> ?_;go_wp2;exact IH.out n _ _ _ Z0 ⟨p+1,_,Z0,rfl,rfl,rfl,rfl,rfl,rfl,rfl,Z1,f⟩
  |succ m=>
   have b5:i< I (obP h p):=Z0;obtain⟨o,ho⟩:∃o,(obP h p)[i]?=J o:=⟨_,Zh8 b5⟩;have b3:((i:Int)< (I (obP h p):Int))=True:=Zje Z0;obtain⟨g5,o5,f7,e5,c7,g6,f4,B⟩|⟨a9,c9,e9,f3⟩:=HX.out.1;case inr=>rw[f3]at b5;simp at b5
   injection e5 with e5 _ e6;subst e5;subst e6;obtain⟨v0,v1,v2,v3,v4⟩:=B i o ho;have y:=k.block _ f4;have y0:W.cell? ⟨g5,o5+i*5,U⟩=J (.int .i64 o.Y):=by rw[ZhX y];exact v0
   have y1:W.cell? ⟨g5,o5+i*5+1,U⟩=J (.int .i64 o.size):=by rw[ZhX y];exact v1
   have y2:W.cell? ⟨g5,o5+i*5+2,U⟩=J (.int .i64 o.M):=by rw[ZhX y];exact v2
   have y3:W.cell? ⟨g5,o5+i*5+3,U⟩=J (.bool o.gone):=by rw[ZhX y];exact v3
   have y4:W.cell? ⟨g5,o5+i*5+4,U⟩=J (.int .u64 o.target):=by rw[ZhX y];exact v4
   clear v0 v1 v2 v3 v4 y B;have HC:=Zhf c7;clear c7;refine LS.cw (LS.dv λK u=> ?_);go_wp2;refine LS.cw<|LS.py rfl<|LS.skip<|LS.cw<|LS.block<|LS.cw (LS.dv λK u=> ?_);go_wp2;obtain⟨W6,O⟩:∃W6,W6=W.alloc (.cells #[.int .i64 o.Y,.int .i64 o.size,.int .i64 o.M,.bool o.gone,.int .u64 o.target] 71):=⟨_,rfl⟩;obtain⟨Y,b1⟩:∃Y,Y=xz (xj W):=⟨_,rfl⟩;rw[<-O,<-b1];have b0:Below (xz<|xj W) W W6:=by rw[O];exact(Zhw _ _).alloc (Zhc _) _
   have q6:W6.heap[Y]?=J (.cells #[.int .i64 o.Y,.int .i64 o.size,.int .i64 o.M,.bool o.gone,.int .u64 o.target] 71 (0,0)):=by rw[O,b1];exact ZhB ..
   have a6:=f.below b0;have b8:=k.trans<|b0.mono k.size;clear O b1 b0 f k y0 y1 y2 y3 y4 W;have z4:∀j,W6.cell? ⟨X,j,U⟩=(#[.int .u64 h.base,.int .i64 h.cap,.int .i64 h.to,.int .i64<|I h.H,.int .i64<|I h.ae,.int .i64<|I h.ah,.int .i64<|I h.aj]:Array Value)[j]? :=λj=>Zhl _ _ _ _ _ _ a6.c4;have zo:∀j,W6.cell? ⟨Y,j,U⟩=(#[.int .i64 o.Y,.int .i64 o.size,.int .i64 o.M,.bool o.gone,.int .u64 o.target]:Array Value)[j]? :=λj=>Zhl _ _ _ _ _ _ q6;have d:=Zhf<|And.intro a6<|And.intro b8 q6;clear a6 b8 q6;have HA:=Zhf λW=>Fk hh.be ((p:Int)+1) o.Y W;unfold Wk Zv at HA;dsimp only at HA;refine LS.cw (LS.dv λK u=> ?_)
   go_wp2_with (first
    |(go_at_call 35;refine(HA.out _).mono ?_;rintro e W7 ⟨rfl,c1⟩;have M:=Zhf c1;clear c1))
   have f:=d.out.1.below M.out;have k:=d.out.2.1.trans<|M.out.mono d.out.2.1.size;have q7:=(M.out.block _<|Y2 d.out.2.2).trans d.out.2.2;clear z4 zo d M HA;rename_i W7;clear W6;obtain⟨f8,h0,g4⟩:=HX.out.2.2 o<|Zhh ho;have d8:0< I (Zw h p):=Z0;obtain⟨bw,ow,ew,f9,g7⟩:=Z8W (HF.out.2 p Z0) d8 EP.out;subst ew;have C:(obP h p).drop i=o::(obP h p).drop (i+1):=by
    obtain⟨h1,rfl⟩:=Zh9.1 ho;exact Zi6 h1
   rw[C];rw[show(((o::(obP h p).drop (i+1)).map (Uw h x p)++Wv h x n (p+1)).map Ev.send)=.send (Uw h x p o)::(((obP h p).drop<|i+1).map (Uw h x p)++Wv h x n (p+1)).map .send from rfl];clear C ho b3;have zo:∀j,W7.drew.cell? ⟨Y,j,U⟩=(#[.int .i64 o.Y,.int .i64 o.size,.int .i64 o.M,.bool o.gone,.int .u64 o.target]:Array Value)[j]? :=λj=>Zhl _ _ _ _ _ _ (show W7.drew.heap[Y]?=_ from q7);have g3:=R0 hh p;have b6:=ZA (o.Y+1) Z0 Z0;have z:=ZA (o.Y+1+o.size) Z0 Z0;have d9:(0:Int)<=o.Y+1:=Z0;have e4:o.Y+1<=o.Y+1+o.size:=Z0;have e7:o.Y+1+o.size<=(kp:Int):=Z0;obtain⟨av,nv,cv,a7⟩:∃av nv cv,.slice av nv cv=Rp (x p) (o.Y+1).toNat o.size.toNat:=by rw[EP.out];exact⟨_,_,_,rfl⟩
   have g8:∀W,(Instr.slice 28 (.slice (J ⟨bw,ow,U⟩) (I<|Zw h p) kp) (J<|.int .i64<|o.Y+1) (J<|.int .i64<|o.Y+1+o.size) U).run xP W=.ok (.slice av nv cv) W:=by
    intro W;have hT:xP.underlying 28=J (.slice 24):=Z2;rw[a7,EP.out,Z9N hT Z1 d9 e4 e7,show o.Y+1+o.size- (o.Y+1)=o.size by omega]
   clear d9 e4 e7 zo;have zo:∀j,W7.drew.cell? ⟨Y,j,U⟩=(#[.int .i64 o.Y,.int .i64 o.size,.int .i64 o.M,.bool o.gone,.int .u64 o.target]:Array Value)[j]? :=λj=>Zhl _ _ _ _ _ _ (show W7.drew.heap[Y]?=_ from q7);have HV:=Zhf a7;clear a7;have d:=Zhf<|And.intro f k;clear f k q7;refine LS.send (n:=16) follows Z2 rfl rfl rfl rfl rfl rfl ?_;simp only[ZkA,List.take_zero];change wpStill xP _ W7.drew _ _ _;repeat still_step
   refine wpStill_nil ⟨rfl,?_,?_⟩;unfold Uw;rw[<-HV.out];rfl
   .refine LS.inBlock ?_;have g9:=ZA ((i:Int)+1) Z0 Z0;refine LS.dv λK u=> ?_;go_wp2;exact f2.out m _ _ _ Z0 ⟨i+1,_,Z0,rfl,rfl,rfl,rfl,rfl,rfl,rfl,rfl,rfl,rfl,rfl,rfl,Z1,SSt.below d.out.1 (Zhw _ _).drew,d.out.2.drew⟩
end Vm
end
section
namespace Vm
open Go Go.Proofs Go.Conc
open Go.RowKit (Below)
section
section
variable {c:Ctx}{B:Nat}{G Kf:Z4}{s:St}{a:Act}{w w0:Z3}{h:GH}{S:SS}{n0:Nat}{fix:Zb}{T0:Ze}{t:Nat}{v:Zg}{x:V}
def WI{p}(d:p≠t):(a.put (J t) v).tmps[p]?=a.tmps[p]? :=by
 simp[Act.put,ZiX d]
def RI(d:t<a.tmps.size):(a.put (J t) v).tmps[t]?=J v:=by
 simp[Act.put,d]
theorem SF:(a.put (J t) v).tmps.size=a.tmps.size:=by simp[Act.put]
theorem Z9g{p k u a d}(f:RelK c.P B s w h a p u<|QZ c p k):RelK c.P B s w h d p u<|QZ c p k:=by
 cases k<;>exact f
def RelG.set(j:RelG c B G s a w h<|Yt c S)(n:S.at t=U):RelG c B G s (a.put (J t) v) w h<|Yt c S:=by
 refine⟨j.ok,λp g d=> ?_,λp g=> ?_⟩;by_cases e:p=t;subst e;rw[Yz,n]at d;cases d;let⟨u,o,f⟩:=j.Y p g d;refine⟨u,by simp_all[WI],?_⟩;rw[Yz]at f⊢;cases l:S.at p with
 |none=>rw[Yz,l]at d;cases d
 |some k=>grind [Z9g]
 refine absurd ?_ g;rw[Yz];cases S.at p<;>exact VP _
def RelS.set(l:RelS Kf fix T0 c B G w0 n0 s a w S)(k:S.at t=U):RelS Kf fix (a.put (J t) v).tmps c B G w n0 s (a.put (J t) v) w S:=by
 let⟨⟨h,d,f⟩,g,n,o,j⟩:=l;exact⟨⟨h,d.set k,f⟩,g,.refl _ _,by grind [SF],j⟩
def RelS.base(h:RelS Kf fix T0 c B G w0 n0 s a w S):RelS Kf fix a.tmps c B G w n0 s a w S:=by
 let⟨d,f,j,g⟩:=h;exact⟨d,f,.refl _ _,g⟩
theorem RelS.put(C:RelS Kf fix T0 c B G w0 n0 s a w S)(u:S.at t=U)(l:∀y∈S,c.ix y.1≠c.ix t)(A:t<n0)(D:Rd w G x v):RelS Kf fix (a.put (J t) v).tmps c B G w n0 (YH s (c.ix t)<|.v x) (a.put (J t) v) w<|(t,.fz)::S:=by
 let⟨⟨h,g,o⟩,q,F,H,r⟩:=C;refine⟨⟨h,⟨g.ok,λp d f=> ?_,λp d=> ?_⟩,o⟩,λp d=> ?_,.refl _ _,by grind [SF],r⟩;rw[Yz]at f⊢;by_cases e:t=p;subst e;simp[SS.at];exact⟨v,RI Z0,x,by simp[eval,X5],D.mono λb z=>GH.cd<|g.ok.fj b z⟩;simp[SS.at,Zhg e]at f⊢;have j:=(g.set (v:=v) u).nc (t:=YH s (c.ix t)<|.v x) λy K=>by rw[X5,Zhg Zgc]
 cases n:S.at p with
 |none=>rw[n]at f;cases f
 |some k=>
  have:=j.Y p (by grind [Yz,VP]) (by simp_all[Yz]);simp_all[Yz]
 refine absurd ?_ d;rw[Yz];split<;>exact VP _;by_cases e:t=p;simp_all[SS.at];simp[SS.at,Zhg e]at d;rw[X5,Zhg<|l _<|QR d];exact q p d
end
noncomputable def cV:Ctx:= {P:=xP,ix:=(vf xP).ix,own:=λ_=>xw,fresh,sig:=Dz,tr:=[3],n:=82}
def qv{code S st fl B G Kf s a w w0 T0 N X Rt}(hc:comp (vf xP) code S=J (st,fl))(g:RelS Kf [4,23] T0 cV B G w0 82 s a w S)(h:Yw xP st s N X Rt):
  code.wp xP (Post Kf [4,23] T0 cV B G w0 82 fl N X Rt) a w:=
 Az (fc:=vf xP) follows (λp f q j d=>CY (Zij _ f) Zgd d) rfl rfl rfl (Zhc _) code (Fp (λ_=>trivial) code) hc g h
noncomputable def bodyC:Code:=Ys ofC [1,1,1,1,1,1,1,0,1,0,0]
noncomputable def ops9:Array Oper:=Ls<|Ys ofC [1,1,1,1,1,1,1,0,1,0,0,0]
def ZcO:bodyC=.seq (.region 9 ops9 xw) (Ys ofC [1,1,1,1,1,1,1,0,1,0,0,1]):=Z2
def Z9k:Ys ofC [1,1,1,1]=.seq (Ys ofC [1,1,1,1,0]) (.seq (Ys ofC [1,1,1,1,1,0])<|.seq (Ys ofC [1,1,1,1,1,1,0])<|.seq (.seq (Ys ofC [1,1,1,1,1,1,1,0,0])<|.block 0<|.loop bodyC)<|Ys ofC [1,1,1,1,1,1,1,1]):=Z2
noncomputable def ops8:Array Oper:=Ls<|Ys ofC [1,1,1,1,1,1,1,0,0]
def Z8J:Ys ofC [1,1,1,1,1,1,1,0,0]=.region 8 ops8 xw:=Z2
def zF:Value:=.agg #[.int .i64 0,.int .i64 0,.int .i64 0,.bool xw,.int .u64 0,.int .u64 0,.slice U 0 0]
def Z7w:∃t a d inf o,ops9[0]?=J o/\o.guard=U/\o.dst=J 24/\o.op=.recv t a xk/\a=.tmp 23/\xP.underlying t=J (.chan d 78)/\xP.info? 78=J inf/\inf.zero=J zF:=
 ⟨_,_,_,_,_,rfl,rfl,rfl,rfl,rfl,rfl,rfl,rfl⟩
def Z7x:∃o,ops9[1]?=J o/\o.guard=U/\o.dst=J 25/\o.op=.extract (.tmp 24) 1:=⟨_,rfl,rfl,rfl,rfl⟩
def Z7y:ops9.size=2:=rfl
def D7:SS:=[(1,.mem [.fz,.fz,.fz,.fz,.fz,.fz,.fz,.fz,.fz,.fz]),(2,.mem [.fz,.fz]),(3,.fz),(5,.own 78),(6,.mem [.own 75]),(7,.mem [.own 76])]
structure AtL (B:Nat) (G:Nat->Prop) (wS:World) (c:Nat) (st:Vw) (hc:List V) (s:St) (a:Act) (w:World):Prop where
 wg:∃T0 w0,RelS G [4,23] T0 cV B G w0 82 s a w D7
 same:Same G wS w
 ch:a.tmps[23]?=J (.chan<|J c)
 s1:get s 1=.m hc
 s6:get s 6=.v (.sl<|st.ns.map Xl)
 s7:get s 7=.m [Yh vi st.nm]
 s8:get s 8=.m [Yh vu st.tm]
theorem AtL.put{B G wS c st hc s a w}(h:AtL B G wS c st hc s a w){v x b}(p:Rd wS G x v):
  ∃g d T0 w0,g=(a.put (J 24)<|.tuple #[v,.bool b]).put (J 25) (.bool b)/\RelS G [4,23] T0 cV B G w0 82 d g w D5/\g.tmps[23]?=J (.chan<|J c)/\get d 1=.m hc/\get d 6=.v (.sl<|st.ns.map Xl)/\get d 7=.m [Yh vi st.nm]/\get d 8=.m [Yh vu st.tm]/\get d 12=.v (.aq [x,.bool b])/\get d 10=.v (.bool b):=by
 let⟨T0,w0,o⟩:=h.wg;have j:Rd w G (.aq [x,.bool b])<|.tuple #[v,.bool b]:=by
  refine .aq _ _ rfl λi c f=> ?_
  match i,f with
  |0,f=>cases f;exact p.keep h.same λ_ q=>q
  |1,f=>cases f;exact .bool _
 have n:=(o.put (t:=24) rfl Zgf Z0 j).put (t:=25) (v:=.bool b) (x:=.bool b) rfl Zgf Z0<|.bool _;have k:cV.ix 24=12:=Zgf;have l:cV.ix 25=10:=Zgf;rw[k,l]at n;refine⟨_,_,_,_,rfl,n.fv (R:=D5) Z2,?_,?_,?_,?_,?_,?_,?_⟩;rw[WI Z0,WI Z0];exact h.ch;all_goals simp[X5,h.s1,h.s6,h.s7,h.s8]
def Z90{B G wS c hc k}{b:Zf}{Post}fin
  (K:Rd wS G (Xl ⟨⟨0,0,0,xw,0⟩,0,[]⟩) zF)
  (a0:∀s a w T0 w0,RelS G [4,23] T0 cV B G w0 82 s a w D6->get s 1=.m hc->get s 6=.v (.sl<|fin.ns.map Xl)->get s 7=.m [Yh vi fin.nm]->get s 8=.m [Yh vu fin.tm]->LS xP c Post [] (b.at a k) [] w):
  ∀(p:List<|Fo×Value) st,(∀y∈p,Rd wS G (Xl y.1) y.2)->I st.ns+I p<=4000000->(p.map (·.1)).foldl Vw.put st=fin->∀s a w,AtL B G wS c st hc s a w->
   LS xP c Post (p.map (λy=>.recv y.2)++[.closed zF]) (b.at a<|.code bodyC:: .inLoop bodyC:: .inBlock 0::k) [] w:=by
 let⟨t,T,d,inf,o,o1,o2,o3,o4,C,o6,o7,o8⟩:=Z7w;let⟨o',p1,p2,p3,p4⟩:=Z7x;have ext:∀(a:Act) w v b,a.tmps[24]?=J (.tuple #[v,.bool b])->(execOp a.eval o').run xP w=.ok _ w:=λa w v b h=>by
  have he:=Act.al a 24 _ h;unfold execOp;simp[p4,he];rfl
 have enter:∀ {es} {e:Ev} {v:Zg} {fl:Bool} {s:St} {st:Vw} {a:Act} {w:Z3},e.val=.tuple #[v,.bool fl]->((∃v,e=.recv v)\/e=.closed zF)->AtL B G wS c st hc s a w->
   LS xP c Post es (b.at ((a.put (J 24)<|.tuple #[v,.bool fl]).put (J 25)<|.bool fl)<|.code (Ys ofC [1,1,1,1,1,1,1,0,1,0,0,1]):: .inLoop bodyC:: .inBlock 0::k) [] w->
   LS xP c Post (e::es) (b.at a<|.code bodyC:: .inLoop bodyC:: .inBlock 0::k) [] w:=λ{es e v fl s st a w} H F f hk=>by
  let⟨T0,w0,A⟩:=f.wg;have a1:=A.2.2.2.1;rw[show(Item.code bodyC)=.code (.seq (.region 9 ops9 xw)<|Ys ofC [1,1,1,1,1,1,1,0,1,0,0,1])by rfl];refine LS.cw<|LS.region ?_;rw[Z7y,show List.range 2=[0,1]from rfl];refine LS.ua (i:=0) o1 (by simp[Region.wanted,o2]) ?_ ?_;obtain⟨v,rfl⟩|rfl:=F;exact⟨t,T,d,_,inf,zF,o4,by rw[C];rfl,by rw[C];exact Act.al a 23 _ f.ch,o6,o7,o8,Z1⟩;exact⟨t,T,d,_,inf,zF,o4,by rw[C];rfl,by rw[C];exact Act.al a 23 _ f.ch,o6,o7,o8,Z1⟩;rw[o3,H];refine LS.value (i:=1) p1 (by simp[Region.wanted,p2]) (ext _ w v fl (RI Z0)) ?_;simp_all[LS.gw]
 intro p;induction p with
 |nil=>
  intro st r hn n s a w f;refine enter (v:=zF) (fl:=xw) rfl Z1 f ?_;obtain⟨a2,s2,T0,w0,rfl,A,x,W,Y,Z,h8,u,q⟩:=f.put (b:=xw) K;refine LS.wp (qv Oz A<|Z8L (N:=λ_=>False) (R:=λ_=>False) (X:=λid g=>id=0/\g=s2) q ⟨rfl,rfl⟩) λe S w' j=> ?_;cases e with
  |normal=>let⟨_,_,_,h,_⟩:=j;grind
  |exit id=>
   obtain⟨g,Q,hx,⟨rfl,rfl⟩,l⟩:=j;have D:Q=D6:=by simpa using hx
   subst D;refine⟨k,rfl,?_⟩;grind
  |ret=>let⟨_,_,_,h,_⟩:=j;grind
  |_=>exact j.elim
 |cons y p ih=>
  intro st r hn n s a w f;simp[Zip]at hn;refine enter (v:=y.2) (fl:=xk) rfl Z1 f ?_;obtain⟨a2,s2,T0,w0,rfl,A,x,W,Y,Z,h8,u,q⟩:=f.put (b:=xk)<|r y Z1;refine LS.wp (qv Oz A.base<|Z8M (X:=λ_ _=>False) (R:=λ_=>False) (N:=λg=>get g 6=.v _/\get g 7=.m [Yh vi (st.put y.1).nm]/\get g 8=.m [Yh vu (st.put y.1).tm]/\get g 1=.m hc) Y Z h8 u q Z0 λg M O P L _ _=>⟨M,O,P,L.trans W⟩) λe S w' j=> ?_;cases e with
  |normal=>
   let⟨g,Q,D,⟨M,O,P,L⟩,l⟩:=j;cases D;refine LS.inLoop<|ih _ (λz K=>r z<|by simp[K]) ?_ n g S w' ⟨⟨_,_,l.fv (R:=D7) Z2⟩,f.same.trans l.2.2.1.same,?_,L,M,O,P⟩;grind [Vw.put];rw[l.2.2.1.fix 23 Z1];exact x
  |exit id=>let⟨_,_,_,h,_⟩:=j;grind
  |ret=>let⟨_,_,_,h,_⟩:=j;grind
  |_=>exact j.elim
def Es(b:Zf)(D:World->Nat->Prop)(r:V)(fr:Zf)(cs:Z8)(w:Z3):Prop:=
 cs=[]/\∃(a:Act) (d:Zn),fr= {b.at a d with mode:=.returning}/\a.defers=[]/\∃v,(results Tryz.f8 a.tmps).run xP w=.ok v w/\Rd w (D w) r v
def Ej{code S st o B G Kf s a w w0 T0 N c f es}{b:Zf}{k}(hc:comp (vf xP) code S=J (st,⟨J o,[],[]⟩))(t:RelS Kf [4,23] T0 cV B G w0 82 s a w S)
  (u:Yw xP st s N (λ_ _=>False)<|λ_=>False) (r:∀l g n,N l->RelS Kf [4,23] T0 cV B G w0 82 l g n o->LS xP c f es (b.at g k) [] n):=
 LS.wp (qv hc t u) λe g n d=>by
  cases e with
  |normal=>let⟨l,x,q,p,j⟩:=d;cases q;exact r _ _ _ p j
  |exit id=>let⟨_,_,_,h,_⟩:=d;grind
  |ret=>let⟨_,_,_,h,_⟩:=d;grind
  |_=>exact d.elim
def Z7u:∃o,ops8[0]?=J o/\o.guard=U/\o.dst=J 23/\o.op=.move (.tmp 4):=⟨_,rfl,rfl,rfl,rfl⟩
def Z7v:ops8.size=1:=rfl
def Z7i{B:Nat}{G:Z4}{c:Nat}{b:Zf}{s:St}{a:Act}{w w0:Z3}{T0:Ze}{W Y Z y sc x5 x6 x7 x8:V}{d:Z6}{fs:List (Fo×Value)}{fin:Vw}(O:RelS G [4,23] T0 cV B G w0 82 s a w LK)(L:a.tmps[4]?=J (.chan<|J c))(F:get s 1=.m [W,Y,Z,y,sc,x5,x6,x7,x8,.sl<|d.map vu])
  (M:∀y∈fs,Rd w G (Xl y.1) y.2) (hn:I fs<=4000000) (u:(fs.map (·.1)).foldl Vw.put ⟨[],[],[]⟩=fin) (hs:fin.sm d):
  LS xP c (Es b (λw' x=>G x\/(B<=x/\x<xz (xj w')))<|Vb<|fin.gr d) (fs.map (λy=>.recv y.2)++[.closed zF]) (b.at a [.code<|Ys ofC [1,1,1,1]]) [] w:=by
 rw[Z9k];refine LS.cw (Ej r5c O.base (N:=λj=>get j 6=.v (.sl [])/\get j 1=get s 1) (by simp[r5,X5]) λs1 a1 w1 ⟨q6,q1⟩ l=> ?_);refine LS.cw (Ej r6c l.base (N:=λj=>get j 7=.m [Yh vi []]/\get j 6=.v (.sl [])/\get j 1=get s 1) (by simp[r6,X5,q6,q1];rfl) λs2 a2 w2 ⟨t7,t6,t1⟩ n=> ?_);refine LS.cw (Ej r7c n.base (N:=λj=>get j 8=.m [Yh vu []]/\get j 7=.m [Yh vi []]/\get j 6=.v (.sl [])/\get j 1=get s 1) (by simp[r7,X5,t7,t6,t1];rfl) λs3 C w3 ⟨u8,u7,u6,u1⟩ k=> ?_);have q:C.tmps[4]?=J (.chan<|J c):=by
  rw[k.2.2.1.fix 4 Z1,n.2.2.1.fix 4 Z1,l.2.2.1.fix 4 Z1];exact L
 have p:Same G w w3:=(l.2.2.1.same.trans n.2.2.1.same).trans k.2.2.1.same;refine LS.cw<|LS.cw ?_;rw[Z8J];refine LS.region ?_;rw[Z7v,show List.range 1=[0]from rfl];obtain⟨o,o1,o2,o3,o4⟩:=Z7u;have a0:C.eval (.tmp 4)=.chan (J c):=Act.al C 4 _ q;refine LS.value (v:=.chan<|J c) (w':=w3) o1 (by simp[Region.wanted,o2]) (by simp_all[execOp])<|LS.gw ?_;rw[o3];have Q:=k.set (t:=23) (v:=.chan<|J c) rfl;have a4:C.tmps.size=82:=k.2.2.2.1;refine LS.block<|LS.ci (.one step_loop) ?_;refine Z90 (hc:=[W,Y,Z,y,sc,x5,x6,x7,x8,.sl<|d.map vu]) fin (wS:=w) (B:=B) (G:=G) ?_ ?_ fs ⟨[],[],[]⟩ M Zgc u s3 _ w3 ⟨⟨_,_,Q.fv (R:=D7) Z2⟩,p,RI Z0,u1.trans F,u6,u7,u8⟩;refine .agg _ _ rfl Z1 λi x g=> ?_
 match i,g with
 |0,g=>cases g;exact .int _ _
 |1,g=>cases g;exact .int _ _
 |2,g=>cases g;exact .int _ _
 |3,g=>cases g;exact .bool _
 |4,g=>cases g;exact .int _ _
 |5,g=>cases g;exact .int _ _
 |6,g=>cases g;exact .nil _ _<|Zjc _
 intro s5 a5 w5 T5 a6 S v1 v6 v7 v8;refine LS.wp (qv rCc ((S.fv (R:=Oy) Z2).base)<|Z8K (N:=λ_=>False) (X:=λ_ _=>False) (R:=λj=>Wq j [(2,.ag 2),(3,.v)]=J (Vb<|fin.gr d)) hs v1 v6 v7 v8 λj h=>h) λe a' w' H=> ?_;cases e with
 |normal=>obtain⟨_,_,_,h,_⟩:=H;grind
 |exit id=>obtain⟨_,_,_,h,_⟩:=H;grind
 |ret=>
  obtain⟨j,S',K,hR,P⟩:=H;have K:S'=D4:=by simpa using K
  subst K;obtain⟨⟨h,k1,k2⟩,k3,k4,k5,k6⟩:=P;intro A
  obtain⟨v,hv,T⟩:=LU (c:=cV) (f:=Tryz.f8) (D:=λx=>G x\/(B<=x/\x<xz (xj w'))) k1 k3 (λx z=>by
   obtain F|F:=k1.ok.cz x z;grind;exact .inr ⟨F,k1.ok.bz x z⟩) (λr O=>⟨Zhn.1 (Z2:(Tryz.f8.results.toList.all<|R9 xP D4)=xk) r O,λi x z=>.inr ⟨(k1.ok.aw _ _ x z).1,(k1.ok.aw _ _ x z).2.1⟩⟩) (x:=Vb<|fin.gr d) (by rw[<-hR];rfl)
  exact LS.ke ⟨rfl,a',A,rfl,k6,v,hv,T⟩
 |_=>exact H.elim
end
section
def Z3j:∃o a,clOps[1]?=J o/\o.guard=U/\o.dst=U/\o.op=.call ⟨.builtin .close, #[.tmp 70],a⟩:=⟨_,_,rfl,rfl,rfl,rfl⟩
section
variable {b:Zf}{a:Act}{c:Nat}{w:Z3}
def Z3l{cs:Z8}(t:b.fn=22)(x:b.kind≠.early)(q:a.tmps[70]?=J (.chan<|J c)){s r:Nat}{f:Bool}(hc:w.heap[c]?=J (.chan 0 #[] xw s r f)):
  stepG Tryz.prog xw (G (b.at a [.inRegion clOps [1]]) cs) w=.go (G (b.at a [.inRegion clOps []]) cs) (WJ w c<|.chan 0 #[] xk s r f) #[⟨.obj c,xw,xk⟩,⟨.obj c,xk,xk⟩]:=by
 obtain⟨o,d,l,g,n,p⟩:=Z3j;have h:a.eval (.tmp 70)=.chan (J c):=Act.al a 70 _ q;have j:execOp a.eval o=(do pure (.value<|<-Builtin.close_ d o.type #[.chan<|J c]):Sem Next):=by
  unfold execOp;simp only[p];simp[resolve,builtin,h];rfl
 have y:(execOp a.eval o).run Tryz.prog w=.ok (.value<|.tuple #[]) (WJ w c<|.chan 0 #[] xk s r f):=by
  rw[j];simp only[ZhV,run_close_open d o.type hc,ZhU];rfl
 have u:(execOp a.eval o).events Tryz.prog w #[]=#[⟨.obj c,xw,xk⟩,⟨.obj c,xk,xk⟩]:=by
  rw[j];have g:(Builtin.close_ d o.type #[.chan<|J c]).runT Tryz.prog w #[]=(.ok (.tuple #[])<|WJ w c<|.chan 0 #[] xk s r f, #[⟨.obj c,xw,xk⟩,⟨.obj c,xk,xk⟩]):=by
   refine ZjP ?_<|events_close_open d o.type hc;rw[Zji];exact run_close_open d o.type hc
  show((Sem.bind _ _).runT Tryz.prog w #[]).2=_;rw[Zjn,g];rfl
 rw[stepG_value l (by simp[Region.wanted,g]) x y];have k:a.put o.dst (.tuple #[])=a:=by rw[n];rfl
 rw[k];unfold listed;rw[u,seen_eq (by rw[t,Tryz.func22];rfl) Z1]
noncomputable def bornF:Frame:= {(default:Zf)with fn:=Tryz.prog.funcs.size,defers:=[],mode:=.panicking [goexitEntry]}
def Za2(d:b= {base 22 with kind:=.deferred})(f:a.defers=[]):QuitsIn Tryz.prog 4<|G (b.at a [.inRegion clOps []]) [bornF]:=by
 subst d;refine .ctl (g':=G (({base 22 with kind:=.deferred}:Frame).at a []) [bornF]) rfl (λw=>Zh2) ?_;refine .ctl (g':=G {(({base 22 with kind:=.deferred}:Frame).at a [])with mode:=.returning} [bornF]) rfl (λw=>Zh2) ?_;refine .ctl (g':=G bornF []) rfl (λw=> ?_) ?_;have g:=Tryz.func22;simp[G,stepG,unwind,Frame.at,f,base,g,results,Tryz.results22,doReturn,bornF,goexitEntry];rfl;refine .ctl (g':= {(G bornF [])with status:=.finished}) rfl (λw=> ?_) rfl;rfl
end
def ql(l:Z6):NoM<|.sl<|l.map vu:=.sl _ λc a=>by
 have:flat (l.map vu)=l.map vu:=U9 λx d=>ZgI;rw[this]at a;obtain⟨y,_,rfl⟩:=Zhq.1 a;exact .int _ _
def Z3O{n:Nat}{v:Zg}(h:FixV n v)(lo m:Nat):FixV n<|Rp v lo m:=by
 intro ρ d;have a:=h ρ d;unfold Rp;split;rename_i b o q k c;simp only[Zu,ZhA,ZW,Zkd,Zh7,Addr.mk.injEq,and_true]at a;grind [Zu,ZW];exact a
def GN{n:Nat}{h:Hp}{x:Z9}{p:Nat}(hx:FixV n<|x p)(o:Ob):FixV n<|Uw h x p o:=by
 intro ρ a;have:=Z3O hx (o.Y+1).toNat o.size.toNat ρ a;simp_all[Uw,WF,Wp,Uk]
def AY{h:Hp}{x:Z9}{v:Zg}:∀ {n p:Nat},v∈Wv h x n p->∃q o,q<p+n/\v=Uw h x q o
 |0,p,a=>by simp[Wv]at a
 |n+1,p,a=>by
  simp only[Wv,ZhC,Zhq]at a;obtain⟨o,_,rfl⟩|a:=a;exact⟨p,o,Z0,rfl⟩;obtain⟨q,o,f,d⟩:=AY a;exact⟨q,o,Z0,d⟩
def bD:Frame:= {base 22 with kind:=.deferred}
def AE(args:Ze):Frame.enter Tryz.prog 22 args .deferred=bD.at {tmps:=args++Array.replicate (71-args.size) xy,defers:=[]} [.code seC]:=by
 simp[Frame.enter,Frame.at,Tryz.func22,ju,bD,base,Tryz.ntmps22]
def Pm:X1 xP xw seC=xk:=Z2
def Z2V:xP.funcs[Tryz.prog.funcs.size]?=U:=by
 grind [Array.getElem?_eq_none,xP,WY]
def Z3i{c n0:Nat}{h:Hp}{x:Z9}{K:Z4}{w:Z3}(hh:h.ok)(a1:xz (xj w)<=n0)(hc:c<n0)(hK:∀b,K b->∃cs e fr,w.heap[b]?=J (.cells cs e fr))(R:∀b o,w.heap[b]?=J o->K b->Kd n0 o)
  (hx:∀j,j<5->FixV n0 (x j)) (hr:∀j,j<5->Rd w K (.sl<|(Zw h j).map vu) (x j))
  (a2:∀p,p<4->I (obP h p)<=1000000/\∀o∈obP h p,0<=o.Y/\0<=o.size/\o.Y+1+o.size<=I (Zw h p)):
  Play Tryz.prog xw c K (UN Tryz.prog c) ((Wv h x 4 0).map .send) (λ_=>False) (born Tryz.prog {target:=.fn (.func 22) #[],args:=#[ZJ h x,.chan<|J c]}) w:=by
 have a6:∀b,K b->b<xz (xj w):=λb k=>Zgc;have C:∀w1:Z3,stepG Tryz.prog xw (born Tryz.prog {target:=.fn (.func 22) #[],args:=#[ZJ h x,.chan<|J c]}) w1=.go (G (Frame.enter Tryz.prog 22 #[ZJ h x,.chan<|J c] .deferred) [bornF]) w1 #[]:=λw1=>by
  have hn:¬Tryz.f22.name= "runtime.NumGoroutine" :=by decide+kernel
  have k:¬Tryz.f22.body=U:=by rw[ju];simp
  simp[stepG,born,unwind,callDeferred,invoke,callFunc,G,bornF,hn,k];rfl
 refine .step (λw1 H=>⟨_,_,_,_,C w1,Zhc _,Zhc _,rfl,rfl,λ_ _ _=>rfl,λe Y=>by simp at Y⟩) λw1 g' w' a4 H e=> ?_;have e:=(C w1).symm.trans e;injection e with M N e3;subst M N;have B:(Vd (λ_=>False) w1 w1:Z4)=λ_=>False:=funext λb=>propext ⟨λk=>by obtain k|k:=k;exact k;omega,λk=>k.elim⟩;rw[B];refine Play.gx ?_ H;let X:Cx:=TU Tryz.prog xP n0 K (λ_=>False);have S:X.P=Tryz.prog:=QL.P n0 K (λ_=>False);have n:∀v∈ #[ZJ h x,.chan<|J c],FixV n0 v:=λv hv=>by
  have:v=ZJ h x\/v=.chan (J c):=by simpa using hv
  obtain rfl|rfl:=this;intro ρ l;unfold ZJ;rw[WF];simp[Wp,Uk,hx 0 Z0 ρ l,hx 1 Z0 ρ l,hx 2 Z0 ρ l,hx 3 Z0 ρ l,hx 4 Z0 ρ l];intro ρ l;simp[Zu,l c hc]
 have z:∀ρ,Zy ρ bornF=bornF:=λρ=>by
  simp[Zy,bornF,Wo,Rj,goexitEntry,Sj];exact⟨by show Array.map (Zu ρ) #[]=#[];simp,rfl,rfl⟩
 have hw:=Ee X (QL.ok n0 K<|λ_=>False) (c:=c) (es:=(Wv h x 4 0).map .send) (fr:=Frame.enter Tryz.prog 22 #[ZJ h x,.chan<|J c] .deferred) (cs:=[bornF]) (ds:=[]) (main:=xw) (wc:=w)
  (λe Y=>by
   obtain⟨v,hv,rfl⟩:=Zhq.1 Y;obtain⟨q,o,hq,rfl⟩:=AY hv;exact⟨GN (hx q Z0) o,hc⟩)
  (λρ=>by
   rw[AE];refine⟨⟨λi hi=> ?_,λd A=>by simp[Frame.at]at A,.inr rfl,.inl ⟨_,seC,Z1i,Tryz.func22,ju,Pm⟩⟩,λf Z=> ?_,rfl⟩;have:i=.code seC:=by simpa[Frame.at]using hi
   subst this;exact Pm;have:f=bornF:=by simpa using Z
   subst this;exact⟨λi hi=>(by cases hi),λd A=>(by cases A),.inl rfl,.inr<|.inl ⟨Z2V,ZjE<|Zhc _⟩⟩)
  (λf Z=>by
   have:f=Frame.enter Tryz.prog 22 #[ZJ h x,.chan<|J c] .deferred\/f=bornF:=by simpa using Z
   obtain rfl|rfl:=this;rw[AE];intro ρ l;have M:(#[ZJ h x,.chan<|J c]++Array.replicate (71- (#[ZJ h x,.chan<|J c]:Array Value).size) xy).map (Zu ρ)=#[ZJ h x,.chan<|J c]++Array.replicate (71- (#[ZJ h x,.chan<|J c]:Array Value).size) xy:=by
    rw[Zjf,SR n ρ l];simp[Sj]
   simp_all[Zy,Frame.at,YJ,Wo,bD,base];exactλρ _=>z ρ)
  (λb o ho y=>by
   obtain y|y:=y;exact y.elim;exact R b o ho y)
  (Post:=λwl=>Er c bD [bornF])
  (λt=>by
   rw[AE]
   exact Za1 bD [bornF] (X.cq w t) h hh x c K (λb k=>by grind [Cx.cq,TU,Nat.lt_of_lt_of_le])
    (λj hj=>OG (X:=X) (λb h=>h) (λb c e fr B hc=>B) a1 (hr j hj)<|ql _) a2)
 have hw:Play Tryz.prog xw c K _ ((Wv h x 4 0).map .send) (λ_=>False) (G (Frame.enter Tryz.prog 22 #[ZJ h x,.chan<|J c] .deferred)<|[bornF]++[]) w:=S▸hw;refine hw.mono λO g w' ⟨ρ,t,a5,a3,a7,fc,cc,B,hid,⟨W,a,a0,Q,A⟩,L⟩=> ?_;subst B W a0;have D:fc=Zy ρ (bD.at a [.inRegion clOps [1]]):=L.bo;have F:cc=[bornF].map (Zy ρ)++[]:=L.under;have M:fc=bD.at {tmps:=a.tmps.map<|Zu ρ,defers:=[]} [.inRegion clOps [1]]:=by
  rw[D];simp[Zy,Frame.at,A,Wo,YJ,bD,base]
 have N:cc=[bornF]:=by rw[F];simp[z]
 rw[M,N];have u:(a.tmps.map<|Zu ρ)[70]?=J (.chan<|J c):=by
  rw[ZhJ,Q];simp[Zu,hid c hc]
 refine⟨rfl,?_,_,4,λs r tm T=>Z3l rfl (by simp[bD]) u T,Za2 rfl rfl⟩;rfl
end
inductive NoZ:V->Prop where
 |int (k:IntKind) (n:Int):NoZ<|.int k n
 |bool (b:Bool):NoZ<|.bool b
 |sl (l:Zr):(∀y∈l,y.cells≠[])->(∀c∈flat l,NoZ c)->NoZ (.sl l)
 |agg (l:Zr):(∀c∈l,NoZ c)->NoZ (.agg l)
 |aq (l:Zr):(∀c∈l,NoZ c)->NoZ (.aq l)
def NoZ.m{x:V}(h:NoZ x):NoM x:=by
 induction h with
 |int k n=>exact .int k n
 |bool b=>exact .bool b
 |sl l _ _ a=>exact .sl l a
 |agg l _ a=>exact .agg l a
 |aq l _ a=>exact .aq l a
def Z8Q{w:Z3}{D:Z4}{x:V}{v:Zg}(h:Rd w D x v)(d:NoZ x):Rd w (λb=>D b/\b<xz (xj w)) x v:=by
 induction h with
 |int k n=>exact .int k n
 |bool b=>exact .bool b
 |nil a cap A=>exact .nil a cap A
 |sl l b o cap k vs g p z r t C j=>
  cases d with
  |sl _ B d=>
   obtain _|⟨y,l⟩:=l;exact .nil _ cap p;have F:0<k:=by
    rw[<-(r y Z1).1];exact Zkz.2<|B y Z1
   have q:=Au<|t 0 Zgd;exact .sl _ b o cap k vs g p ⟨z,q⟩ r t λi c f=>j i c f<|d c<|AT f
 |agg u vs g p _ j=>
  cases d with
  |agg _ d=>exact .agg u vs g p λi c f=>j i c f<|d c<|Zhh f
 |aq l vs g _ j=>
  cases d with
  |aq _ d=>exact .aq l vs g λi c f=>j i c f<|d c<|Zhh f
 |_=>cases d
def Z8U{w:Z3}{D:Z4}{x:V}{v:Zg}(h:Rd w D x v)(d:NoZ x):Rd w (λb=>D b/\∃q e r,w.heap[b]?=J (.cells q e r)) x v:=by
 induction h with
 |int k n=>exact .int k n
 |bool b=>exact .bool b
 |nil a cap B=>exact .nil a cap B
 |sl l b o cap k vs g p z t u F j=>
  cases d with
  |sl _ C d=>
   obtain _|⟨y,l⟩:=l;exact .nil _ cap p;have G:0<k:=by
    rw[<-(t y Z1).1];exact Zkz.2<|C y Z1
   obtain⟨_,c,e,r,A,_⟩:=Kr<|u 0 Zgd;exact .sl _ b o cap k vs g p ⟨z,c,e,r,A⟩ t u λi c f=>j i c f<|d c<|AT f
 |agg q vs g p _ j=>
  cases d with
  |agg _ d=>exact .agg q vs g p λi c f=>j i c f<|d c<|Zhh f
 |aq l vs g _ j=>
  cases d with
  |aq _ d=>exact .aq l vs g λi c f=>j i c f<|d c<|Zhh f
 |_=>cases d
def Mz(l:Z6):NoZ<|.sl<|l.map vu:=.sl _ (λy f=>by obtain⟨z,_,rfl⟩:=Zhq.1 f;simp) λc a=>by
 rw[U9 λx d=>ZgI]at a;obtain⟨y,_,rfl⟩:=Zhq.1 a;exact .int _ _
def My(l:Z6):NoZ<|.sl<|l.map vi:=.sl _ (λy f=>by obtain⟨z,_,rfl⟩:=Zhq.1 f;simp) λc a=>by
 rw[U9 λx d=>ZgI]at a;obtain⟨y,_,rfl⟩:=Zhq.1 a;exact .int _ _
def Mx(g:Gr):NoZ<|Yj g:=.agg _ λc a=>by
 have:c=.sl (g.nodes.map Yi)\/c=.sl (g.E.map vi):=ZgS;obtain rfl|rfl:=this;refine .sl _ (λy d=>by obtain⟨z,_,rfl⟩:=Zhq.1 d;simp) λc a=> ?_;obtain⟨y,d,a⟩:=ZjC.1 a;obtain⟨n,_,rfl⟩:=Zhq.1 d;have:c=.sl (n.M.map vi)\/c=.sl (n.data.map vu):=ZgS;obtain rfl|rfl:=this;exact My _;exact Mz _;exact My _
def Mw(g:Gr):NoZ<|Vb g:=by
 unfold Vb;split;all_goals
  refine .aq _ λc a=> ?_;simp only[Zhs,ZiL,Zk9]at a;obtain rfl|rfl:=a;exact Mx _;exact .int _ _
def Qg(h:Hp):NoM<|ZM h:=.agg _ λc a=>by
 simp only[Zhs,ZiL,Zk9]at a;obtain rfl|rfl|rfl|rfl|rfl|rfl|rfl|rfl|rfl|rfl:=a;all_goals first|exact .int _ _|exact .bool _|exact ql _
noncomputable def ops4:Array Oper:=Ls<|Ys ofC [1,1,1,0]
def Z7t:(ops4.all λo=>XZ xP xw o.op)=xk:=Z2
def Z9l:X1 xP xw (Ys ofC [1,1,1,1])=xk:=Z2
def Z7h:xP.funcs[8]?=J (OJ Tryz.f8):=by
 have:=Tryz.func8;simp only[xP,WY,Zkj,this,ZhA];rfl
def IU{X:Cx}{w:Z3}{t:Nat->Question->Nat}{b:Nat}{cs:Ze}{T:Zh}(h:w.heap[b]?=J (.cells cs T (0,0)))(a:X.O b)(d:b<X.n0):(X.cq w t).heap[b]?=J (.cells cs T (0,0)):=by
 rw[BO,Zhi d,h];unfold Cx.iz;dsimp only;rw[Zhi a,Zhi ⟨trivial,λc e g f=>Zgc⟩]
def Z9h{B g k:Nat}{a:Act}{A C:Zh}{K:Z4}{h:Hp}{x:Z9}{l:Z3}
  (z:a.tmps.size=82) (Q:a.defers=[]) (T:a.tmps[1]?=J (.pointer<|J ⟨g,0,U⟩)) (W:a.tmps[2]?=J (.pointer<|J ⟨k,0,U⟩)) (X:a.tmps[3]?=J (.int .i64 0))
  (n:l.heap[g]?=J (.cells #[.int .u64 h.base,.int .i64 h.cap,.int .i64 h.to,.bool h.aa,.int .i64 h.Z,x 0,x 1,x 2,x 3,x 4] A (0,0))) (o:l.heap[k]?=J (.cells #[.slice U 0 0,.slice U 0 0] C (0,0)))
  (N:B<=g) (O:B<=k) (M:g≠k) (k1:¬K g) (k2:¬K k) (D:∀b,K b->b<xz (xj l)) (r:∀j,j<5->Rd l K (.sl<|(Zw h j).map vu) (x j)):
  RelS K [4,23] a.tmps cV B K l 82 [.no,.m [vu h.base,vi h.cap,vi h.to,.bool h.aa,vi h.Z,.sl<|h.H.map vu,.sl<|h.ae.map vu,.sl<|h.ah.map vu,.sl<|h.aj.map vu,.sl<|h.E.map vu],.m [.sl [],.sl []],.v<|vi 0] a l LK:=by
 have l1:=(Zhe.1 n).1;have l2:=(Zhe.1 o).1;have Z:cV.ix 1=1:=Zgf;have i2:cV.ix 2=2:=Zgf;have i3:cV.ix 3=3:=Zgf;refine⟨⟨{F:=K,bl:=λt i=>if t=1/\i=0 then J g else if t=2/\i=0 then J k else U,K:=K},⟨⟨Z0,D,λb f=>.inl f,λb f=>f,λt i b f=> ?_,λt i u j b f P=> ?_,D,λt i b f=> ?_,λb f=>.inl f⟩,λt _ S=> ?_,λt R=> ?_⟩,rfl⟩,λp Y=> ?_,.refl _ _,z,Q⟩;grind;grind;grind;rw[Yz]at S⊢;by_cases G:t=1;subst G;refine⟨_,T,g,_,A,rfl,rfl,n,rfl,λi y d=> ?_⟩;have q:i<10:=(Zh9.1 d).1
 match i,q with
 |0,_=>cases d;exact⟨_,Zh2,rfl,.int _ _⟩
 |1,_=>cases d;exact⟨_,Zh2,rfl,.int _ _⟩
 |2,_=>cases d;exact⟨_,Zh2,rfl,.int _ _⟩
 |3,_=>cases d;exact⟨_,Zh2,rfl,.bool _⟩
 |4,_=>cases d;exact⟨_,Zh2,rfl,.int _ _⟩
 |5,_=>cases d;exact⟨_,Zh2,rfl,r 0 Z0⟩
 |6,_=>cases d;exact⟨_,Zh2,rfl,r 1 Z0⟩
 |7,_=>cases d;exact⟨_,Zh2,rfl,r 2 Z0⟩
 |8,_=>cases d;exact⟨_,Zh2,rfl,r 3 Z0⟩
 |9,_=>cases d;exact⟨_,Zh2,rfl,r 4 Z0⟩
 |i+10,h=>omega
 by_cases H:t=2;subst H;refine⟨_,W,k,_,C,rfl,rfl,o,rfl,λi y d=> ?_⟩;have w:i<2:=(Zh9.1 d).1
 match i,w with
 |0,_=>cases d;exact⟨_,Zh2,rfl,.nil _ _<|Zjc _⟩
 |1,_=>cases d;exact⟨_,Zh2,rfl,.nil _ _<|Zjc _⟩
 |i+2,h=>omega
 by_cases L:t=3;subst L;exact⟨_,X,_,Zh2,.int _ _⟩;simp_all[LK,SS.at,ZiX,TK.bu];refine absurd ?_ R;rw[Yz];split<;>exact VP _;grind [LK,SS.at]
def Z0H(cs:Z8)(r:V)(D:Z4)(g:Zj)(w:Z3):Prop:=
 ∃a,g=G a cs/\a.fn=8/\a.mode=.returning/\a.defers=[]/\a.kind=.normal/\∀d,∃v,(results Tryz.f8 a.tmps).run Tryz.prog (w.at d)=.ok v (w.at d)/\Rd (w.at d) (λb=>D b/\b<xz (xj w)) r v
def Z6e{c n0 B C D:Nat}{a:Act}{T1 T2:Zh}{K:Z4}{h:Hp}{x:Z9}{w:Z3}{cs:Z8}{fs:List (Fo×Value)}{fin:Vw}(hh:h.ok)
  (e2:a.tmps.size=82) (hd:a.defers=[]) (t1:a.tmps[1]?=J (.pointer<|J ⟨C,0,U⟩)) (t2:a.tmps[2]?=J (.pointer<|J ⟨D,0,U⟩)) (t3:a.tmps[3]?=J (.int .i64 0)) (t4:a.tmps[4]?=J (.chan<|J c))
  (S:w.heap[C]?=J (.cells #[.int .u64 h.base,.int .i64 h.cap,.int .i64 h.to,.bool h.aa,.int .i64 h.Z,x 0,x 1,x 2,x 3,x 4] T1 (0,0))) (T:w.heap[D]?=J (.cells #[.slice U 0 0,.slice U 0 0] T2 (0,0)))
  (e8:B<=xz (xj w)) (c8:B<=C) (d0:B<=D) (c1:C≠D) (k1:¬K C) (k2:¬K D) (b4:xz (xj w)<=n0) (hc:c<n0)
  (hK:∀b,K b->∃cs e fr,w.heap[b]?=J (.cells cs e fr)) (a2:∀(b:Nat) (cs:Ze) (e:Zh) (fr:Nat×Nat),w.heap[b]?=J (Obj.cells cs e fr)->Kd n0 (Obj.cells cs e fr)) (d9:∀v∈a.tmps,FixV n0 v) (hx:∀j,j<5->FixV n0 (x j))
  (hr:∀j,j<5->Rd w K (.sl<|(Zw h j).map vu) (x j)) (a5:∀y∈fs,Rd w K (Xl y.1) y.2/\NoM (Xl y.1)) (d8:fs.map (·.2)=Wv h x 4 0) (hn:I fs<=4000000) (b3:(fs.map (·.1)).foldl Vw.put ⟨[],[],[]⟩=fin) (hs:fin.sm h.E):
  Play Tryz.prog xk c K (λ_=>Z0H cs (Vb<|fin.gr h.E)<|λb=>K b\/B<=b) ((Wv h x 4 0).map .recv++[.closed zF]) (λb=>b=C\/b=D) (G ((base 8).at a [.inRegion ops4 [],.code<|Ys ofC [1,1,1,1]]) cs) w:=by
 have e9:∀b,K b->b<xz (xj w):=λb H=>Zgc;have l1:=(Zhe.1 S).1;have l2:=(Zhe.1 T).1;let X:Cx:=TU Tryz.prog xP n0 K (λb=>b=C\/b=D);have R:∀ρ,(X.at ρ).P=Tryz.prog:=λρ=>QL.same.symm;have f1:∀t,xz (xj<|X.cq w t)=n0:=λt=>by simp[Cx.cq,X,TU]
 have d7:(Wv h x 4 0).map Ev.recv=fs.map λy=>.recv y.2:=by rw[<-d8,Zjw];rfl
 have a8:∀b,(b=C\/b=D)->¬K b:=λb H=>Zgc
 have hw:=Ee X (QL.ok n0 K<|λb=>b=C\/b=D) (c:=c) (es:=(Wv h x 4 0).map .recv++[.closed zF]) (fr:=(base 8).at a [.inRegion ops4 [],.code<|Ys ofC [1,1,1,1]]) (cs:=[]) (ds:=cs) (main:=xk) (wc:=w)
  (λe L=>by
   obtain L|L:=ZhC.1 L;obtain⟨v,hv,rfl⟩:=Zhq.1 L;obtain⟨q,o,hq,rfl⟩:=AY hv;exact⟨GN (hx q Z0) o,hc⟩;have:e=.closed zF:=ZgV;subst this;exact⟨λρ _=>by simp_all[zF,WF,Zu],hc⟩)
  (λρ=>by
   refine⟨⟨λi p=> ?_,λd a4=> ?_,.inl rfl,.inr<|.inr ⟨_,_,Z7h,Tryz.func8,rfl⟩⟩,λf hf=>by simp at hf,rfl⟩;have:i=.inRegion ops4 []\/i=.code (Ys ofC [1,1,1,1]):=by simpa[Frame.at]using p
   obtain rfl|rfl:=this;exact Z7t;exact Z9l;rw[show((base 8).at a [.inRegion ops4 [],.code<|Ys ofC [1,1,1,1]]).defers=a.defers from rfl,hd]at a4;simp at a4)
  (λf hf=>by
   have:f=(base 8).at a [.inRegion ops4 [],.code<|Ys ofC [1,1,1,1]]:=by simpa using hf
   subst this;intro ρ hρ;simp only[Zy,Frame.at,SR d9 ρ hρ,hd];rfl)
  (λb o M hO=>by
   obtain hO|hO:=hO;obtain rfl|rfl:=hO;rw[S]at M;cases M;exact a2 _ _ _ _ S;rw[T]at M;cases M;exact a2 _ _ _ _ T;obtain⟨cs,e,fr,L⟩:=hK b hO;rw[M]at L;cases L;exact a2 _ _ _ _ M)
  (Post:=λwl=>Es (base 8) (λA b=>K b\/(B<=b/\b<xz (xj A)))<|Vb<|fin.gr h.E)
  (λt=>by
   rw[d7];have b5:∀ {y:V} {v:Zg},Rd w K y v->NoM y->Rd (X.cq w t) K y v:=λ{y v} h1 h2=>by
    clear a5;induction h1 with
    |int k n=>exact .int k n
    |bool b=>exact .bool b
    |str s=>exact .str s
    |nil a cap h=>exact .nil a cap h
    |sl l b o cap k vs q1 q2 H hf a3 _ Z=>
     cases h2 with
     |sl _ W=>exact .sl l b o cap k vs q1 q2 H hf (λi p=>yY (λM=>a8 b M H) (λc e fr _=>H) b4<|a3 i p) λi c p=>Z i c p<|W c<|AT p
    |agg cs vs q1 q2 _ Z=>
     cases h2 with
     |agg _ W=>exact .agg cs vs q1 q2 λi c p=>Z i c p<|W c<|Zhh p
    |aq l vs q1 _ Z=>
     cases h2 with
     |aq _ W=>exact .aq l vs q1 λi c p=>Z i c p<|W c<|Zhh p
    |ptr cs b o vs H q1 a3 _ Z=>
     cases h2 with
     |ptr _ W=>exact .ptr cs b o vs H q1 (λi p=>yY (λM=>a8 b M H) (λc e fr _=>H) b4<|a3 i p) λi c p=>Z i c p<|W c<|Zhh p
    |fn f=>exact .fn f
    |cy f cs vs q1 _ Z=>
     cases h2 with
     |cy _ _ W=>exact .cy f cs vs q1 λi c p=>Z i c p<|W c<|Zhh p
    |im=>exact .im
    |io=>exact .io
    |mg=>cases h2
    |mp=>cases h2
   refine LS.gw<|Z7i (G:=K) (B:=B) (Z9h e2 hd t1 t2 t3 (IU S (.inl rfl) (by show C<n0;omega)) (IU T (.inr rfl) (by show D<n0;omega)) c8 d0 c1 k1 k2 (λb H=>Zgc) λj hj=>b5 (hr j hj)<|ql _) t4 rfl (λy hy=>b5 (a5 y hy).1 (a5 y hy).2) hn b3 hs)
 have hw:Play Tryz.prog xk c K _ ((Wv h x 4 0).map .recv++[.closed zF]) (λb=>b=C\/b=D) (G ((base 8).at a [.inRegion ops4 [],.code<|Ys ofC [1,1,1,1]])<|[]++cs) w:=(R id)▸hw;refine hw.mono λO g A ⟨ρ,t,e7,e5,a0,fc,cc,hg,hid,⟨d6,N,b9,e0,a4,v,hv,e3⟩,Y⟩=> ?_;subst hg d6 e0;have u:fc=Zy ρ {(base 8).at N b9 with mode:=.returning}:=Y.bo;have b6:cc=cs:=Y.under;subst b6;refine⟨fc,rfl,by rw[u];rfl,by rw[u];rfl,by rw[u];show N.defers.map _=_;grind,by rw[u];rfl,λd=> ?_⟩;have b7:(X.at ρ).WR a0<|A.at d:=Fh Y.wr d;have a6:=IM Tryz.f8<|N.tmps.map<|Zu ρ;have a7:Ye ((results Tryz.f8<|N.tmps.map<|Zu ρ).run Tryz.prog<|A.at d)=A.at d:=a6.world _
 have F:=(Bh (X:=X.at ρ) (V:=[]) Tryz.f8 N.tmps).run a0 (A.at d) #[] b7 (λr hr=>by simp at hr)
  (λj hj=>by
   rw[R ρ]at hj;have e:(Ye<|(results Tryz.f8<|N.tmps.map<|Zu (X.at ρ).ρ).run Tryz.prog<|A.at d).drawn=(A.at d).drawn:=Zii World.drawn a7;omega)
  (λj hj=>by
   rw[R ρ]at hj;have e:xz (xj<|Ye<|(results Tryz.f8<|N.tmps.map<|Zu (X.at ρ).ρ).run Tryz.prog<|A.at d)=xz (xj<|A.at d):=Zii (λw=>xz<|xj w) a7;omega)
 have c7:(results Tryz.f8 N.tmps).run (X.at ρ).Q a0=.ok v a0:=hv;rw[c7,R ρ]at F;obtain⟨b,c0,e6,L,d5,f0⟩:=F;have a1:(results Tryz.f8<|N.tmps.map<|Zu ρ).run Tryz.prog (A.at d)=.ok b c0:=by
  have:=Zii Prod.fst L;rw[Zji]at this;exact this
 have e4:c0=A.at d:=by
  have:=a7;rw[a1]at this;exact this
 subst e4;have a9:b=Zu ρ v:=d5;refine⟨b,by rw[u];exact a1,?_⟩;rw[a9];refine(Z8Q (OF b7 e3 (Mw _).m)<|Mw _).mono λb' b0=> ?_;obtain⟨⟨z,hz,rfl⟩,e1⟩:=b0;refine⟨?_,e1⟩;by_cases b8:z<n0;have e:(X.at ρ).ρ z=z:=hid z b8;grind;obtain hz|hz:=hz;grind;right;have:=Y.new z (Nat.le_of_not_lt b8) hz.2;omega
def Xq(h:Hp)(p:Nat)(o:Ob):Fo:=⟨o,(ZU (Zv h) ((p:Int)+1) o.Y).1,((Zw h p).drop (o.Y+1).toNat).take o.size.toNat⟩
def Xm(h:Hp):Nat->Nat->List Fo
 |0,_=>[]
 |n+1,p=>(obP h p).map (Xq h p)++Xm h n (p+1)
def Tx(h:Hp)(x:Z9):Nat->Nat->List (Fo×Value)
 |0,_=>[]
 |n+1,p=>(obP h p).map (λo=>(Xq h p o,Uw h x p o))++Tx h x n (p+1)
def AX h x:∀n p,(Tx h x n p).map (·.1)=Xm h n p
 |0,p=>rfl
 |n+1,p=>by simp_all[Tx,Xm,Zir,Zjw,AX]
def H4 h x:∀n p,(Tx h x n p).map (·.2)=Wv h x n p
 |0,p=>rfl
 |n+1,p=>by simp_all[Tx,Wv,Zir,Zjw,H4]
def H3{h x y}:∀ {n p},y∈Tx h x n p->∃q o,q<p+n/\o∈obP h q/\y=(Xq h q o,Uw h x q o)
 |0,p,a=>by simp[Tx]at a
 |n+1,p,a=>by
  simp[Tx,Zhq]at a;obtain⟨o,f,rfl⟩|a:=a;exact⟨p,o,Z0,f,rfl⟩;let⟨q,o,g,d⟩:=H3 a;exact⟨q,o,Z0,d⟩
def Yn(h:Hp):Vw:=(Xm h 4 0).foldl Vw.put ⟨[],[],[]⟩
def Js(h:Hp):V:=if YQ h=xk then Vb ((Yn h).gr h.E)else .aq [Yj UC,vi 1]
structure OfOk (h:Hp):Prop where
 ob:∀p,p<4->I (obP h p)<=1000000/\∀o∈obP h p,0<=o.Y/\0<=o.size/\o.Y+1+o.size<=I (Zw h p)
 n:I (Xm h 4 0)<=4000000
 sm:(Yn h).sm h.E
def Z8V{w K}{l:Z6}{v}(h:Rd w K (.sl<|l.map vu) v){lo n}(p:0<I l)(M:lo+n<=I l):Rd w K (.sl<|((l.drop lo).take n).map vu)<|Rp v lo n:=by
 generalize f:l.map vu=L at h;have j:I L=I l:=by rw[<-f,ZhM]
 cases h with
 |nil a cap F=>simp_all
 |sl _ b o cap k vs B C q r D t=>
  have H:k=1:=by
   have z:vu (l[0]'p)∈L:=by rw[<-f];exact Zil Z1
   have:=(r _ z).1;simpa[vu,V.cells]using this.symm
  unfold Rp;dsimp only;have u:I (((l.drop lo).take n).map vu)=n:=Zge;by_cases A:n=0;subst A;simp[List.take_zero,Zj5];exact .nil _ _ Z0;rw[Zhg Z0]
  have:=Rd.sl (w:=w) (G:=K) (((l.drop lo).take n).map vu) b (o+lo) (cap-lo) 1 (λi=>vs<|lo+i) Z0 Z0 q Zgc
   Zgc
   (λi c d=>by
    rw[U9 λx g=>by obtain⟨y,_,rfl⟩:=Zhq.1 g;rfl,Zhz,ZhL]at d;split at d;rw[ZhF]at d;exact t _ c (by rw[<-f,U9 λx g=>by obtain⟨y,_,rfl⟩:=Zhq.1 g;rfl,Zhz];exact d);cases d)
  simp_all
def Z6T f:NoM<|Xl f:=.agg _ λc a=>by
 simp[Zk9]at a;obtain rfl|rfl|rfl|rfl|rfl|rfl|rfl:=a;all_goals first|exact .int _ _|exact .bool _|exact ql _
def Z40{w K h x}(d:OfOk h)(r:∀j,j<5->Rd w K (.sl<|(Zw h j).map vu) (x j)):∀y∈Tx h x 4 0,Rd w K (Xl y.1) y.2/\NoM (Xl y.1):=by
 intro y g;obtain⟨q,o,p,f,rfl⟩:=H3 g;refine⟨?_,Z6T _⟩;let⟨k,l,n⟩:=(d.ob q Z0).2 o f;refine .agg _ _ rfl Z1 λi c a=> ?_
 match i,a with
 |0,a=>cases a;exact .int _ _
 |1,a=>cases a;exact .int _ _
 |2,a=>cases a;exact .int _ _
 |3,a=>cases a;exact .bool _
 |4,a=>cases a;exact .int _ _
 |5,a=>cases a;exact .int _ _
 |6,a=>cases a;exact Z8V Zgc Z0 Z0
noncomputable def cB:Ctx:= {P:=YC Tryz.prog,ix:=(vf<|YC Tryz.prog).ix,own:=λ_=>xw,fresh,sig:=Dz,tr:=[3],n:=82}
def FY{P}:∀ {c},Ts P c=xk->TS (Lg.ma<|YC P) c:=by
 intro c;induction c with
 |region id j d=>exactλh o g=>(Zjh.1 h) o g
 |seq x y a f=>intro h;simp[Ts]at h;exact⟨a h.1,f h.2⟩
 |cond c x y a f=>intro h;simp[Ts]at h;exact⟨a h.1,f h.2⟩
 |block id x a=>exact a
 |loop x a=>exact a
 |scope x a=>exact a
 |_=>intro h;first|trivial|cases h
def yo:(YC Tryz.prog).follows .mixedOrders=xk:=Z2
def ME{code:Code}{S:SS}{st:Stm}{fl:Flow}{B:Nat}{G Kf:Z4}{s:St}{a:Act}{w w0:Z3}{T0:Ze}{N:St->Prop}{X:Nat->St->Prop}{Rt:St->Prop}(f:Ts Tryz.prog code=xk)(hc:comp (vf<|YC Tryz.prog) code S=J (st,fl))(j:RelS Kf [4,23] T0 cB B G w0 82 s a w S)(k:Yw (YC Tryz.prog) st s N X Rt):
  Tl Tryz.prog code (Post Kf [4,23] T0 cB B G w0 82 fl N X Rt) a w:=
 letI:Lg (vf<|YC Tryz.prog).P:=besI Tryz.prog
 Az (fc:=vf<|YC Tryz.prog) yo (λp g q h d=>CY (Zij _ g) (Zij _ h) d) rfl rfl rfl (Zhc _) code (FY f) hc j k
def Z7c:Tryz.f8.body=J ofC:=Z2
def Z7d:ofC=.seq (Ys ofC [0]) (.seq (Ys ofC [1,0])<|.seq (Ys ofC [1,1,0])<|.seq (Ys ofC [1,1,1,0])<|Ys ofC [1,1,1,1]):=Z2
noncomputable def ops3:Array Oper:=Ls<|Ys ofC [1,1,0]
def Z8H:Ys ofC [1,1,0]=.region 3 ops3 xw:=Z2
def Z8I:Ys ofC [1,1,1,0]=.region 4 ops4 xw:=Z2
def Z7o:∃o,ops3[0]?=J o/\o.guard=U/\o.dst=J 18/\o.op=.makeChan 72 (.const<|.int .i64 0):=⟨_,rfl,rfl,rfl,rfl⟩
def Z7p:∃o,ops3[1]?=J o/\o.guard=U/\o.dst=J 4/\o.op=.assign (.tmp 18):=⟨_,rfl,rfl,rfl,rfl⟩
def Z7q:∃o,ops4[0]?=J o/\o.guard=U/\o.dst=J 19/\o.op=.load 30 (.tmp 1):=⟨_,rfl,rfl,rfl,rfl⟩
def Z7r:∃o,ops4[1]?=J o/\o.guard=U/\o.dst=J 20/\o.op=.move (.tmp 4):=⟨_,rfl,rfl,rfl,rfl⟩
def Z7s:∃o a,ops4[2]?=J o/\o.guard=U/\o.dst=U/\o.op=.go ⟨.value<|.func 22, #[.tmp 19,.tmp 20],a⟩:=⟨_,_,rfl,rfl,rfl,rfl⟩
def MO:ops3.size=2/\ops4.size=3:=⟨rfl,rfl⟩
def Z3h:∃d inf,Tryz.prog.underlying 72=J (.chan d 78)/\Tryz.prog.info? 78=J inf:=⟨_,_,rfl,rfl⟩
def Z2A{B w w'}(h:Below B w w')d:Below B w<|w'.at d:=⟨h.os,h.tape,h.output,h.size,h.block⟩
def Z47{b:Zf}{k:Zn}{cs:Z8}{a:Act}{g:Zg}{c:Nat}(l:b.kind≠.early)(d:a.tmps[19]?=J g)(f:a.tmps[20]?=J (.chan<|J c))(w:Z3):
  stepG Tryz.prog xk (G (b.at a<|.inRegion ops4 [2]::k) cs) w=.spawn (G (b.at a<|.inRegion ops4 []::k) cs) (born Tryz.prog {target:=.fn (.func 22) #[],args:=#[g,.chan<|J c]}) w #[]:=by
 obtain⟨o,j,n,p,q,r⟩:=Z7s;have t:=Act.al a 19 _ d;have u:=Act.al a 20 _ f;have h:execOp a.eval o=(pure (.spawn {target:=.fn (.func 22) #[],args:=#[g,.chan<|J c]}):Sem Next):=by
  unfold execOp;simp only[r];simp[resolve,Deferred.ofValue,Act.eval,d,f]
 have:=stepG_spawn (P:=Tryz.prog) (main:=xk) (b:=b) (a:=a) (k:=k) (cs:=cs) (w:=w) (i:=2) (rest:=[]) n (by simp[Region.wanted,p]) l (by rw[h];rfl) rfl;rw[q]at this;rw[this];unfold listed;rw[h];rfl
def Z7g{h B G s a w w0 T0}(S:RelS G [4,23] T0 cB B G w0 82 s a w OC)(q1:get s 1=.m [vu h.base,vi h.cap,vi h.to,.bool h.aa,vi h.Z,.sl<|h.H.map vu,.sl<|h.ae.map vu,.sl<|h.ah.map vu,.sl<|h.aj.map vu,.sl<|h.E.map vu])(q3:get s 3=.v (vi 0)):
  ∃(F:Z4) (k l:Nat) (r t:Zh) (x:Z9),(∀b,F b->G b\/B<=b)/\¬F k/\¬F l/\B<=k/\B<=l/\k≠l/\B<=xz (xj w)/\a.tmps[1]?=J (.pointer<|J ⟨k,0,U⟩)/\a.tmps[2]?=J (.pointer<|J ⟨l,0,U⟩)/\a.tmps[3]?=J (.int .i64 0)/\
   w.heap[k]?=J (.cells #[.int .u64 h.base,.int .i64 h.cap,.int .i64 h.to,.bool h.aa,.int .i64 h.Z,x 0,x 1,x 2,x 3,x 4] r (0,0))/\w.heap[l]?=J (.cells #[.slice U 0 0,.slice U 0 0] t (0,0))/\
   (∀j,j<5->Rd w F (.sl<|(Zw h j).map vu) (x j)):=by
 let⟨⟨L,k1,k2⟩,k3,k4,k5,k6⟩:=S;have X:cB.ix 1=1:=Zgf;have Y:cB.ix 3=3:=Zgf;obtain⟨u1,t1,k,d,r,P,rfl,f3,H⟩:=k1.Y 1 (by rw[Yz];exact VP _) Zh2;obtain⟨u2,t2,l,f,t,g1,rfl,g3,K⟩:=k1.Y 2 (by rw[Yz];exact VP _) Zh2;let⟨u3,t3,u⟩:=k1.Y 3 (by rw[Yz];exact VP _) Zh2;obtain⟨y3,o,A⟩:∃y,eval s _=J y/\Rd w _ y u3:=u;rw[Y]at o;simp[eval,q3,Zh7]at o;subst o;have M:=Se A;subst M;have T:d.size=10:=H.1;have W:f.size=2:=K.1;have g:∀i y,[vu h.base,vi h.cap,vi h.to,.bool h.aa,vi h.Z,.sl<|h.H.map vu,.sl<|h.ae.map vu,.sl<|h.ah.map vu,.sl<|h.aj.map vu,.sl<|h.E.map vu][i]?=J y->Rd w L.F y _:=λi y n=>by
  have p:i<10:=(Zh9.1 n).1
  have:=H.2 i (.fz,.m (cB.ix 1) i) (by
   match i,p with
   |0,_=>rfl
   |1,_=>rfl
   |2,_=>rfl
   |3,_=>rfl
   |4,_=>rfl
   |5,_=>rfl
   |6,_=>rfl
   |7,_=>rfl
   |8,_=>rfl
   |9,_=>rfl
   |i+10,h=>omega)
  let⟨z,D,z2,z3⟩:=this;rw[X]at D;simp[eval,q1,n,Zhk]at D;obtain⟨rfl,_⟩:=Sc D;exact z3
 have R:∀i,i<2->f.getD i xy=.slice U 0 0:=λi n=>by
  have:=K.2 i (.nil,.m (cB.ix 2) i) (by
   grind)
  exact this.1
 have N:d=#[.int .u64 h.base,.int .i64 h.cap,.int .i64 h.to,.bool h.aa,.int .i64 h.Z,d.getD 5 xy,d.getD 6 xy,d.getD 7 xy,d.getD 8 xy,d.getD 9 xy]:=by
  refine ZjX Z0 λi q C=> ?_;have n:i<10:=by simpa using C
  have e:d[i]=d.getD i xy:=by simp[Array.getD,q]
  rw[e]
  match i,n with
  |0,_=>exact Se<|g 0 _ rfl
  |1,_=>exact Se<|g 1 _ rfl
  |2,_=>exact Se<|g 2 _ rfl
  |3,_=>exact OE<|g 3 _ rfl
  |4,_=>exact Se<|g 4 _ rfl
  |5,_=>rfl
  |6,_=>rfl
  |7,_=>rfl
  |8,_=>rfl
  |9,_=>rfl
  |i+10,h=>omega
 have O:f=#[.slice U 0 0,.slice U 0 0]:=by
  refine ZjX Z0 λi q C=> ?_;have n:i<2:=by simpa using C
  have e:f[i]=f.getD i xy:=by simp[Array.getD,q]
  rw[e,R i n]
  match i,n with
  |0,_=>rfl
  |1,_=>rfl
  |i+2,h=>omega
 let⟨Z,m2,m3⟩:=k1.ok.aw 1 0 k P;let⟨n1,n2,n3⟩:=k1.ok.aw 2 0 l g1;refine⟨L.F,k,l,r,t,λj=>d.getD (5+j) xy,k1.ok.cz,m3,n3,Z,n1,λe=> ?_,Z0,t1,t2,t3,Zgc,Zgc,λj Q=> ?_⟩;grind
 match j,Q with
 |0,_=>exact g 5 _ rfl
 |1,_=>exact g 6 _ rfl
 |2,_=>exact g 7 _ rfl
 |3,_=>exact g 8 _ rfl
 |4,_=>exact g 9 _ rfl
 |j+5,h=>omega
def EG{h:Hp}(hh:h.ok)(hk:YQ h=xk->OfOk h):VC (YC Tryz.prog) 8 xw [ZM h]<|Js h:=by
 refine⟨Z2,λw G vs hG h3 g8 q C hK=> ?_⟩;have Y:VC (YC Tryz.prog) 10 xw [ZM h]<|.bool<|YQ h:=IA QL (zA hh) (λy hy=>by rw[Zic.1 hy];exact Qg h)<|.bool _;have d8:vs.size=1:=h3;have h5:Rd w G (ZM h)<|vs.getD 0 xy:=g8 0 _ rfl;have Z:Frame.enter Tryz.prog 8 vs .normal=(base 8).at {tmps:=vs++Array.replicate (82-vs.size) xy,defers:=[]} [.code ofC]:=by
  rw[enter_at vs Tryz.func8 Z7c,Tryz.ntmps8]
 show Walk Tryz.prog C (Frame.enter Tryz.prog 8 vs .normal) q w;rw[Z,Z7d];clear Z;have i0:cB.ix 0=0:=Zgf;generalize a4:({tmps:=vs++Array.replicate (82-vs.size) xy,defers:=[]}:Act)=a0;have t0:a0.tmps[0]?=J (vs.getD 0 xy):=by
  rw[<-a4];simp only;rw[Zjd Z0];simp[Zhd,d8]
 have g7:RelS G [4,23] a0.tmps cB (xz<|xj w) G w 82 [.v<|ZM h] a0 w qX:=by
  refine⟨⟨{F:=G,bl:=λ_ _=>U,K:=G},⟨⟨Zhc _,hG,λb a=>.inl a,λb a=>a,λt i b a=>(by cases a),λt i u j b a=>(by cases a),hG,λt i b a=>(by cases a),λb a=>.inl a⟩,λt _ hk=> ?_,λt hh=> ?_⟩,rfl⟩,λp B=> ?_,.refl _ _,by rw[<-a4];simp[d8],by rw[<-a4]⟩;rw[Yz]at hk⊢;by_cases e:t=0;subst e;exact⟨_,t0,ZM h,by rw[i0];rfl,h5.mono λb a=>.inl a⟩;simp[qX,SS.at,ZiX e,TK.bu]at hk;refine absurd ?_ hh;rw[Yz];split<;>exact VP _;simp only[qX,SS.at]at B;split at B<;>cases B
 refine .cw (ME Z2 r0c g7 (N:=λs'=>get s' 1=.m [vu h.base,vi h.cap,vi h.to,.bool h.aa,vi h.Z,.sl<|h.H.map vu,.sl<|h.ae.map vu,.sl<|h.ah.map vu,.sl<|h.aj.map vu,.sl<|h.E.map vu]/\get s' 2=.m [.sl [],.sl []]/\get s' 3=.v (vi 0)) (X:=λ_ _=>False) (Rt:=λ_=>False) (by simp[r0]) (base 8) _ q C (by simp[base]) λe a1 w1 B=> ?_);cases e with
 |exit id=>obtain⟨_,_,_,h,_⟩:=B;exact h.elim
 |ret=>obtain⟨_,_,_,h,_⟩:=B;exact h.elim
 |normal=>
  obtain⟨s1,S1,f7,⟨q1,q2,q3⟩,d6⟩:=B;cases f7;have b6:Below (xz<|xj w) w w1:=d6.2.2.1.below;refine .cw (ME Z2 rXc d6.base (N:=λs'=>YQ h=xk/\get s' 1=get s1 1/\get s' 3=get s1 3) (X:=λ_ _=>False) (Rt:=λs'=>YQ h=xw/\Wq s' [(2,.ag 2),(3,.v)]=J (.aq [Yj UC,vi 1])) ?_ (base 8) _ q C (by simp[base]) λe a2 w2 B=> ?_);simp[rX,q1];refine Zz Y Z1 ?_;cases i6:YQ h;simp[X5,Wq,VZ,Tf,UC,Yj];simp[X5,q1];cases e with
  |exit id=>obtain⟨_,_,_,h,_⟩:=B;exact h.elim
  |ret=>
   obtain⟨s2,S2,L,⟨e1,e2⟩,l⟩:=B;have L:S2=D8:=ZgV;subst L;have a6:Below (xz<|xj w) w w2:=b6.trans l.2.2.1.below;intro i3;refine hK _ w2 rfl ⟨rfl,l.2.2.2.2,rfl,_,Tryz.func8,λd=> ?_⟩;obtain⟨⟨h2,k1,k2⟩,k3,k4,k5,k6⟩:=l.mw d
   obtain⟨v,hv,a9⟩:=LU (c:=cB) (f:=Tryz.f8) (D:=λb=>(xw=xw/\G b)\/(xz (xj w)<=b/\b< xz (xj<|w2.at d))) k1 k3 (λb a=>by
    obtain R|R:=k1.ok.cz b a;exact .inl ⟨rfl,R⟩;exact .inr ⟨R,k1.ok.bz b a⟩) (λr hr=>⟨Zhn.1 (Z2:(Tryz.f8.results.toList.all<|R9 (YC Tryz.prog) D8)=xk) r hr,λi b a=>.inr ⟨(k1.ok.aw _ _ b a).1,(k1.ok.aw _ _ b a).2.1⟩⟩) (x:=.aq [Yj UC,vi 1]) (by rw[<-e2];exact Zii (Wq s2) Z2)
   refine⟨v,hv,v,rfl,Z2A a6 d,?_⟩;unfold Js;rw[Zhg (by rw[e1];simp)];exact a9
  |normal=>
   obtain⟨s2,S2,L,⟨e1,e2,e3⟩,l⟩:=B;cases L;have a6:Below (xz<|xj w) w w2:=b6.trans l.2.2.1.below;have W:=hk e1;obtain⟨F,Q,b2,T1,T2,x,hF,h6,h7,f5,f6,f4,i4,t1,t2,t3,e0,e4,g9⟩:=Z7g (h:=h) l (e2.trans q1)<|e3.trans q3;have d9:a2.tmps.size=82:=l.2.2.2.1;have g3:a2.defers=[]:=l.2.2.2.2;have l1:=(Zhe.1 e0).1;have l2:=(Zhe.1 e4).1;obtain⟨o,o1,o2,o3,o4⟩:=Z7o;obtain⟨o',p1,p2,p3,p4⟩:=Z7p;obtain⟨dir,inf,h4,c7⟩:=Z3h;refine .cw ?_;rw[Z8H];refine .region ?_;rw[MO.1,show List.range 2=[0,1]from rfl];refine Walk.chan (i:=0) o1 (by simp[Region.wanted,o2]) (by simp[base]) o4 h4 c7 ?_;rw[o3];generalize hc:xz (xj w2)=c;obtain⟨w3,M⟩:∃w3,w3=w2.alloc (.chan 0 #[] xw 0 0 xw):=⟨_,rfl⟩;rw[<-M];have b4:((a2.put (J 18)<|.chan<|J c).eval<|.tmp 18)=.chan (J c):=Act.al _ 18 _<|RI Z0;refine Walk.val (i:=1) (v:=.chan<|J c) p1 (by simp[Region.wanted,p2]) (by simp[base]) (by rw[p4];rfl) (λw' _=>by unfold execOp;simp only[p4,b4];rfl)<|.gw ?_;rw[p3];have z3:xz (xj w3)=c+1:=by rw[M,<-hc];simp
   have b7:w3.heap[c]?=J (.chan 0 #[] xw 0 0 xw):=by rw[M,<-hc];exact ZhB ..
   have S:∀b,b<c->w3.heap[b]?=w2.heap[b]? :=λb a=>by rw[M];exact Zht _ _ _ Z0
   have A:Below (xz<|xj w) w w3:=by rw[M];exact a6.alloc Z0 _
   have m1:w3.heap[Q]?=_:=(S Q Z0).trans e0;have m2:w3.heap[b2]?=_:=(S b2 Z0).trans e4;obtain⟨o0,e6,e7,e8,b0⟩:=Z7q;obtain⟨o9,e9,f0,f1,b3⟩:=Z7r;refine .cw ?_;rw[Z8I];refine .region ?_;rw[MO.2,show List.range 3=[0,1,2]from rfl];generalize z:(a2.put (J 18)<|.chan<|J c).put (J 4) (.chan<|J c)=a3;have g1:a3.tmps[1]?=J (.pointer<|J ⟨Q,0,U⟩):=by rw[<-z,WI Z0,WI Z0];exact t1
   have g4:a3.tmps[4]?=J (.chan<|J c):=by rw[<-z];exact RI (by rw[SF];omega)
   have gs:a3.tmps.size=82:=by rw[<-z,SF,SF];exact d9
   have f2:a3.eval (.tmp 1)=.pointer (J ⟨Q,0,U⟩):=Act.al _ 1 _ g1;refine Walk.val (i:=0) (v:=ZJ h x) e6 (by simp[Region.wanted,e7]) (by simp[base]) (by rw[b0];rfl) (λw' he=> ?_) ?_
   have hl:=jq (P:=Tryz.prog) (w:=w') (T:=30) Z2 Z2 (b:=Q) (o:=0) [.int .u64 h.base,.int .i64 h.cap,.int .i64 h.to,.bool h.aa,.int .i64 h.Z,x 0,x 1,x 2,x 3,x 4] Z2 (λi u hi=>by
    rw[ZhZ,Zhl w' Q i _ T1 (0,0) (by rw[he];exact m1)];simpa using hi)
   unfold execOp;simp only[b0,f2];rw[ZhV,hl];rfl;rw[e8];have f3:(a3.put (J 19)<|ZJ h x).eval (.tmp 4)=.chan (J c):=Act.al _ 4 _ (by rw[WI Z0];exact g4);refine Walk.val (i:=1) (v:=.chan<|J c) e9 (by simp[Region.wanted,f0]) (by simp[base]) (by rw[b3];rfl) (λw' _=>by unfold execOp;simp only[b3,f3];rfl) ?_;rw[f1];generalize k:(a3.put (J 19)<|ZJ h x).put (J 20) (.chan<|J c)=O;have u1:O.tmps[1]?=J (.pointer<|J ⟨Q,0,U⟩):=by rw[<-k,WI Z0,WI Z0];exact g1
   have u4:O.tmps[4]?=J (.chan<|J c):=by rw[<-k,WI Z0,WI Z0];exact g4
   have us:O.tmps.size=82:=by rw[<-k,SF,SF];exact gs
   have u2:O.tmps[2]?=J (.pointer<|J ⟨b2,0,U⟩):=by rw[<-k,WI Z0,WI Z0,<-z,WI Z0,WI Z0];exact t2
   have u3:O.tmps[3]?=J (.int .i64 0):=by rw[<-k,WI Z0,WI Z0,<-z,WI Z0,WI Z0];exact t3
   have i1:O.tmps[19]?=J (ZJ h x):=by rw[<-k,WI Z0];exact RI Z0
   have i2:O.tmps[20]?=J (.chan<|J c):=by rw[<-k];exact RI (by rw[SF];omega)
   have ud:O.defers=[]:=by rw[<-k,<-z];exact g3
   let K:Nat->Prop:=λb=>F b/\∃q e H,w3.heap[b]?=J (.cells q e H);have a7:∀j,j<5->Rd w3 K (.sl<|(Zw h j).map vu) (x j):=λj hj=>by
    have R:=Z8U (g9 j hj)<|Mz _;refine R.keep (λb a=>S b ?_) λb a=>⟨a.1,?_⟩;obtain⟨_,q,e,H,a⟩:=a;have:=(Zhe.1 a).1;omega;obtain⟨_,q,e,H,a⟩:=a;exact⟨q,e,H,by rw[S b (by have:=(Zhe.1 a).1;omega)];exact a⟩
   obtain⟨n0,d0,c1,c0⟩:=GO w3<|O.tmps++ #[x 0,x 1,x 2,x 3,x 4];have hx:∀j,j<5->FixV n0 (x j):=λj hj=>by
    refine c1 _<|ZiK.2<|.inr ?_
    match j,hj with
    |0,_=>simp
    |1,_=>simp
    |2,_=>simp
    |3,_=>simp
    |4,_=>simp
    |j+5,h=>omega
   have b8:c<n0:=Z0;have h8:¬K Q:=λh=>h6 h.1;have h9:¬K b2:=λh=>h7 h.1;have b5:∀b,K b->b<xz (xj w3):=λb ⟨_,_,_,_,a⟩=>(Zhe.1 a).1;have e5:¬K c:=λ⟨_,_,_,_,a⟩=>by rw[b7]at a;cases a
   refine Walk.uz (KA:=K) (KB:=K) (OA0:=λb=>b=Q\/b=b2) (c:=c) (λw=>Z47 (by simp[base]) i1 i2 w)
    (Z6e (fs:=Tx h x 4 0) (fin:=Yn h) hh us ud u1 u2 u3 u4 m1 m2 Z0 f5 f6 f4 h8 h9 d0 b8 (λb a=>a.2) (λb q e H a=>c0 b q e H a) (λv hv=>c1 v<|ZiK.2<|.inl hv) hx a7 (Z40 W a7) (H4 h x 4 0) (by
     have:=W.n;rw[<-AX h x 4 0,ZhM]at this;exact this) (by rw[AX];rfl) W.sm)
    (Z3i hh d0 b8 (λb a=>a.2) (λb o ho a=>by
     obtain⟨_,q,e,H,he⟩:=a;rw[ho]at he;cases he;exact c0 b q e H ho) hx a7 W.ob) b7 (λb a=>by obtain rfl|rfl:=a<;>omega) b5 b5 (λb a=>by obtain rfl|rfl:=a<;>assumption) (λa=>by obtain a|a:=a<;>omega) e5 e5 ?_
   rintro OA g w' ⟨H,rfl,b9,hm,hd,g6,d7⟩ h0 a8 d5 i5 g5;refine⟨H,q,rfl,hK H w' b9 ⟨hm,hd,g6,_,by rw[b9];exact Tryz.func8,λd=> ?_⟩⟩;obtain⟨v,hv,a9⟩:=d7 d;refine⟨v,hv,v,rfl,⟨(Zii Prod.fst d5).trans A.os,a8.trans A.tape,(Zii Prod.snd d5).trans A.output,ZhD A.size h0,λb a=>(g5 b (by have:=A.size;omega) (λf9=>by obtain rfl|rfl:=f9<;>omega) Z0).trans<|A.block b a⟩,?_⟩;unfold Js;rw[Zhi e1];refine a9.mono λb a=> ?_;obtain⟨a,c8⟩:=a;obtain a|a:=a;obtain R|R:=hF b a.1;exact .inl ⟨rfl,R⟩;exact .inr ⟨R,c8⟩;exact .inr ⟨a,c8⟩
  |_=>exact B.elim
 |_=>exact B.elim
#print axioms EG
end Vm
end
section
namespace Vm
open Go Go.Proofs
section
section
variable {h:Hp}{p:Pts}
def qQ(h:Hp){q:Nat}(a:q<4):Zx h ((q:Int)+1)=Zw h q:=by
 have:q=0\/q=1\/q=2\/q=3:=Z0;obtain rfl|rfl|rfl|rfl:=this<;>rfl
def Rt.gu(r:Rt h p){q:Nat}(a:q<4):obP h q=p.at ((q:Int)+1):=by
 unfold Vm.obP;rw[r.vb Z0]
def RX{f:Fo}:∀ {n q:Nat},f∈Xm h n q->∃k o,q<=k/\k<q+n/\o∈obP h k/\f=Xq h k o
 |0,q,a=>by simp[Xm]at a
 |n+1,q,a=>by
  simp only[Xm,ZhC,Zhq]at a;obtain⟨o,g,rfl⟩|a:=a;exact⟨q,o,Z0,Z0,g,rfl⟩;obtain⟨k,o,j,l,d⟩:=RX a;exact⟨k,o,Z0,Z0,d⟩
def q8{k:Nat}{o:Ob}(a:o∈obP h k):∀ {n q:Nat},q<=k->k<q+n->Xq h k o∈Xm h n q
 |0,q,d,f=>Z0
 |n+1,q,d,f=>by
  simp only[Xm,ZhC,Zhq];by_cases e:k=q;subst e;exact .inl ⟨o,a,rfl⟩;exact .inr<|q8 a Z0 Z0
def Z8D(s:Vw)(f:Fo):(s.put f).ns=s.ns++if f.ob.gone then []else [f]:=by
 unfold Vw.put;split<;>simp
def GX:∀(l:List Fo) (s:Vw),(l.foldl Vw.put s).ns=s.ns++l.filter λf=> !f.ob.gone
 | [],s=>Z1
 |f::l,s=>by
  rw[ZiP,GX l,Z8D];cases a:f.ob.gone<;>simp[a]
def Ea(h:Hp):(Yn h).ns=(Xm h 4 0).filter λf=> !f.ob.gone:=by
 unfold Yn;rw[GX];rfl
def Lo(r:Rt h p){q:Nat}(a:q<4):I (obP h q)<=I (Zw h q):=by
 have t:=r.am ((q:Int)+1) Z0;have:=t.sum<|Zjc _;rw[qQ h a,<-r.gu a]at this;have d:I (obP h q)<=UJ (obP h q):=by
  generalize obP h q=l;induction l with
  |nil=>simp
  |cons o l f=>simp only[UJ,ZhN,List.sum_cons,Zip]at f⊢;omega
 omega
def Rt.me(r:Rt h p){q:Nat}(l:q<4):I (Zw h q)<=4096:=by
 obtain⟨a,d,_,_,_,⟨_,_,f,g⟩,⟨_,_,j,k⟩⟩:=WG.1 r.be;simp only[Zv]at*;have:q=0\/q=1\/q=2\/q=3:=Z0;obtain rfl|rfl|rfl|rfl:=this;show I h.H<=4096;omega;show I h.ae<=4096;omega;show I h.ah<=4096;omega;show I h.aj<=4096;omega
def Rt.rk(r:Rt h p){q:Nat}(f:q<4){o:Ob}(d:o∈obP h q):∃a n m:Nat,o.Y=a/\o.size=n/\o.M=m/\a+(n+1)<=I (Zw h q)/\n<=255/\m<=n:=by
 rw[r.gu f]at d;have:=r.toTld.ob Z0 d;rwa[qQ h f]at this
def lsW(a:h.ok){q:Nat}(d:q<4):∀w∈Zw h q,ZB w:=by
 have:q=0\/q=1\/q=2\/q=3:=Z0;obtain rfl|rfl|rfl|rfl:=this;exact a.gq;exact a.ic;exact a.ml;exact a.lz
def GV(r:Rt h p){q:Nat}(f:q<4){o:Ob}(d:o∈obP h q):(Xq h q o).sl.length=o.size.toNat:=by
 obtain⟨a,n,m,g,j,k,l,_⟩:=r.rk f d;simp only[Xq,Zid,Zjg];omega
def Rt.vc(r:Rt h p)(x:h.ok):OfOk h:=by
 have F:I (Xm h 4 0)<=16384:=by
  have A:=Lo r (q:=0) Z0;have j:=Lo r (q:=1) Z0;have l:=Lo r (q:=2) Z0;have t:=Lo r (q:=3) Z0;have G:=r.me (q:=0) Z0;have k1:=r.me (q:=1) Z0;have H:=r.me (q:=2) Z0;have K:=r.me (q:=3) Z0;simp only[Xm,ZhY,ZhM,ZiI,ZhZ,Nat.reduceAdd];omega
 refine⟨λq g=>⟨by have:=Lo r g;have:=r.me g;omega,λo d=> ?_⟩,Z0,⟨?_,λf u=> ?_,by have:=r.gt;omega,x.gc⟩⟩;obtain⟨a,n,m,j,l,t,y,_⟩:=r.rk g d;omega;rw[Ea];have:=Zkk (λf:Fo=> !f.ob.gone)<|Xm h 4 0;omega;rw[Ea]at u;obtain⟨k,o,_,D,d,rfl⟩:=RX (Zk4.1 u).1;obtain⟨a,n,m,j,l,t,y,B,C⟩:=r.rk Z0 d;have e:=GV r Z0 d;refine⟨by show 0<=o.M;omega,by show o.M<=_;rw[e];omega,by rw[e];omega,λw z=>lsW x (q:=k) Z0 w ?_⟩;exact Zjr<|Zie z
def ofOk(a:h.ok)(d:YQ h=xk):OfOk h:=by
 obtain⟨p,r⟩:=jj.1 d;exact r.vc a
end
def Z12{h:Hp}(a:h.ok):VC (YC Tryz.prog) 8 xw [ZM h]<|Js h:=EG a<|ofOk a
end
section
structure VwI (d:List Fo) (s:Vw):Prop where
 ns:s.ns=d.filter λf=> !f.ob.gone
 n1:∀a j,Y4 s.nm a=J j->∃i:Nat,j=i/\∃f,s.ns[i]?=J f/\f.ad=a
 n2:∀f∈s.ns,(Y4 s.nm f.ad).isSome=xk
 t1:∀a t,Y4 s.tm a=J t->∃f∈d,f.ob.gone=xk/\f.ad=a/\f.ob.target=t
 t2:∀f∈d,f.ob.gone=xk->(Y4 s.tm f.ad).isSome=xk
def yP{α l k j}{x:α}(h:k=j\/(Y4 l j).isSome=xk):(Y4 (XV l k x) j).isSome=xk:=by
 rw[J7];split;rfl;rename_i a;obtain h|h:=h;exact absurd h a;exact h
theorem VwI.put{d s f}(i:VwI d s):VwI (d++[f])<|s.put f:=by
 cases l:f.ob.gone;have e:s.put f= {s with ns:=s.ns++[f],nm:=XV s.nm f.ad (I s.ns)}:=by simp[Vw.put,l]
 rw[e];refine⟨by simp[i.ns,l],λa j o=> ?_,λx h=> ?_,λa t n=> ?_,λx h k=> ?_⟩;simp[J7]at o;split at o;rename_i r;exact⟨I s.ns,by simpa using o.symm,f,Z1,r⟩;let⟨m,w,g,u,y⟩:=i.n1 a j o;exact⟨m,w,g,by simp[ZhI (Zh9.1 u).1,u],y⟩;obtain h|h:=ZhC.1 h;exact yP<|.inr<|i.n2 x h;rw[Zic.1 h];exact yP Z0;let⟨g,p,q⟩:=i.t1 a t n;exact⟨g,by simp[p],q⟩;obtain h|h:=ZhC.1 h;exact i.t2 x h k;rw[Zic.1 h,l]at k;exact absurd k Z1;have e:s.put f= {s with tm:=XV s.tm f.ad f.ob.target}:=by simp[Vw.put,l]
 rw[e];refine⟨by simp[i.ns,l],i.n1,i.n2,λa t n=> ?_,λx h k=> ?_⟩;simp[J7]at n;split at n;rename_i r;exact⟨f,Z1,l,r,by simpa using n⟩;let⟨g,p,q⟩:=i.t1 a t n;exact⟨g,by simp[p],q⟩;obtain h|h:=ZhC.1 h;exact yP<|.inr<|i.t2 x h k;rw[Zic.1 h];exact yP Z0
def VwI.th:∀ {l d} {s:Vw},VwI d s->VwI (d++l) (l.foldl Vw.put s)
 | [],d,s,i=>by simpa using i
 |f::l,d,s,i=>by
  have:=VwI.th (l:=l)<|i.put (f:=f);rwa[ZhW]at this
def Su h:VwI (Xm h 4 0)<|Yn h:=by
 have:VwI [] ⟨[],[],[]⟩:=⟨rfl,by simp[Y4],Z1,by simp[Y4],Z1⟩;exact this.th (l:=Xm h 4 0)
section
variable {h:Hp}{p:Pts}
def SU(r:Rt h p){q}(d:q<4){o}(f:o∈obP h q):(Xq h q o).ad=ZC (Zv h) (q+1)+o.Y:=by
 let⟨a,n,m,g,j,k,l,_⟩:=r.rk d f;show(ZU _ _ o.Y).1=_;rw[SD r.be Z0 (by rw[Ti Z0,qQ h d];omega)]
def KM(r:Rt h p){f g}(u:f∈Xm h 4 0)(w:g∈Xm h 4 0)(e:f.ad=g.ad):f=g:=by
 obtain⟨k,o,_,z,l,rfl⟩:=RX u;obtain⟨j,q,_,y,n,rfl⟩:=RX w;rw[SU r Z0 l,SU r Z0 n]at e;have a:=l;have d:=n;rw[r.gu Z0]at a d;let⟨x,t⟩:=r.toTld.inj Z0 Z0 a d (by unfold ZO;omega);have:k=j:=Z0;subst this;rw[t]
def R4{f}:f∈(Yn h).ns↔f∈Xm h 4 0/\f.ob.gone=xw:=by
 rw[(Su h).ns];simp
def Rt.lw(r:Rt h p){f}(a:f∈Xm h 4 0)(n:f.ob.gone=xw):∃i:Nat,Y4 (Yn h).nm f.ad=J (i:Int)/\(Yn h).ns[i]?=J f:=by
 let⟨j,d⟩:=Zih.1<|(Su h).n2 f<|R4.2 ⟨a,n⟩;obtain⟨i,rfl,g,k,l⟩:=(Su h).n1 _ _ d;have:=KM r (R4.1 Zgc).1 a l;subst this;exact⟨i,d,k⟩
def Rt.sb(r:Rt h p){f}(a:f∈Xm h 4 0)(d:f.ob.gone=xw){w}(q:w≠0)(n:(adr w).1=f.ad):∃i:Nat,(Yn h).dg w=i/\(Yn h).ns[i]?=J f:=by
 let⟨i,k,l⟩:=r.lw a d;refine⟨i,?_,l⟩;have:Y4 (Yn h).tm f.ad=U:=by
  cases o:Y4 (Yn h).tm f.ad with
  |none=>rfl
  |some t=>
   let⟨g,k1,j,u,_⟩:=(Su h).t1 _ _ o;rw[KM r k1 a u,d]at j;exact absurd j Z1
 unfold Vw.dg;rw[Zhg q,n,this,ZkZ,k,ZhE]
def Rt.ry(r:Rt h p){f g}(a:f∈Xm h 4 0)(o:f.ob.gone=xk)(gf:g∈Xm h 4 0)(j:g.ob.gone=xw)(q:f.ob.target=g.ad){w}(u:w≠0)(n:(adr w).1=f.ad):∃i:Nat,(Yn h).dg w=i/\(Yn h).ns[i]?=J g:=by
 let⟨i,k,l⟩:=r.lw gf j;refine⟨i,?_,l⟩;let⟨t,e⟩:=Zih.1<|(Su h).t2 f a o;let⟨x,k1,z,y,d⟩:=(Su h).t1 _ _ e;rw[KM r k1 a y,q]at d;unfold Vw.dg;rw[Zhg u,n,e,ZhE,<-d,k,ZhE]
def Rt.nw(r:Rt h p){q}(g:q<2){o}(a:o∈obP h q):o.gone=xw:=by
 rw[r.gu Z0]at a;let⟨w,_,d⟩:=((r.am _ Z0).bd o a).1.word;cases f:o.gone;rfl;rw[f]at d;have:=d.1;simp at this;omega
def Rt.ss(r:Rt h p){w i j}(t:1<=i/\i<=4)(u:1<=j/\j<=4)(n:Gos h p w i j)(g:w≠0):∃(q:Nat) (o:Ob),q<4/\((q+1=i)\/(q+1=j))/\o∈obP h q/\w=2*(Xq h q o).ad+1/\(adr w).1=(Xq h q o).ad:=by
 obtain rfl|⟨k,o,l,f,rfl⟩:=n;exact absurd rfl g;obtain⟨q,rfl,d⟩:∃q:Nat,k=q+1/\q<4:=⟨(k-1).toNat,Z0,Z0⟩;have a:o∈obP h q:=by rw[r.gu d];exact f
 refine⟨q,o,d,l,a,?_,?_⟩;rw[SU r d a];rfl;rw[r.toTld.lx Z0 f,SU r d a]
def Rt.td(r:Rt h p){w i j}(B:1<=i/\i<=4)(C:1<=j/\j<=4)(H:Gos h p w i j)(k:w≠0):∃(n:Nat),(Yn h).dg w=n/\n< (Yn h).ns.length:=by
 let⟨q,o,F,L,u,_,x⟩:=r.ss B C H k;have y:Xq h q o∈Xm h 4 0:=q8 u Z0 Z0;cases d:o.gone;let⟨n,l,z⟩:=r.sb y d k x;exact⟨n,l,Zgc⟩;have K:2<=q:=by
  by_cases D:q<2;rw[r.nw D u]at d;exact absurd d Z1;omega
 have f:=u;rw[r.gu F]at f;let⟨t,G,A,_⟩:=r.gone _ Z0 o f d;have a:t∈obP h 0:=by rw[r.gu Z0];exact G
 let⟨n,l,z⟩:=r.ry y d (g:=Xq h 0 t) (q8 a Z0 Z0) (r.nw Z0 a) (by rw[SU r Z0 a];exact A) k x;exact⟨n,l,Zgc⟩
def Rt.rz(r:Rt h p){w i j}(d:1<=i/\i<=4)(f:1<=j/\j<=4)(g:Gos h p w i j):T4 (Yn h).ns.length ((Yn h).dg w)=xk:=by
 by_cases a:w=0;subst a;simp[Vw.dg,T4];omega;let⟨n,k,l⟩:=r.td d f g a;simp[T4];omega
def Z8x{k i w}(d:Xw h p k i w):∃a b,(1<=a/\a<=4)/\(1<=b/\b<=4)/\Gos h p w a b:=by
 unfold Xw at d;split at d;exact⟨3,4,Z0,Z0,d⟩;split at d;obtain d|d:=d;exact⟨1,2,Z0,Z0,d⟩;exact⟨3,4,Z0,Z0,d⟩;exact⟨1,2,Z0,Z0,d⟩
def Rt.mz(r:Rt h p){d}(G:I d<=16)(K:∀w∈d,Gos h p w 1 2):Vm.right ((Yn h).gr d)=xk:=by
 simp only[Vm.right,Zhb,Zhn,ZhG,Vw.gr,ZhM,Zhq];refine⟨⟨G,?_⟩,?_⟩;rintro _ ⟨f,B,rfl⟩;let⟨t,C⟩:=R4.1 B;obtain⟨q,o,_,R,x,rfl⟩:=RX t;let⟨a,n,m,L,M,N,O,P,Q⟩:=r.rk Z0 x;have e:=GV r Z0 x;simp only[R6,Ta,Zhb,Zhn,ZhG,ZhM,Zid,Zjg,Zhq];refine⟨Z0,?_⟩;rintro _ ⟨w,y,rfl⟩;let⟨j,g⟩:=ZhH y;have u:=(Zh9.1 g).1;rw[Zid]at u;have H:(Xq h q o).ob.M=o.M:=rfl;rw[ZhO Z0]at g;have l:=x;rw[r.gu Z0]at l;have z:(Zx h<|q+1)[o.Y.toNat+1+j]?=J w:=by
  rw[qQ h Z0];simp[Xq]at g;rw[ZhO Z0,ZhF]at g;rw[<-g];congr 1;omega
 let⟨i,k,D,F,A⟩:=Z8x<|r.ptr _ Z0 o l C j Z0 w z;exact r.rz D F A;rintro _ ⟨w,y,rfl⟩;exact r.rz Z0 Z0<|K w y
end
end
def Nm:Fn:=⟨6,[0,1,2,3,4,11],pQ [pR [(1,pS 0 10),pV 2<|pI 0],pC [pK 6 8 [.mm 1 0 10]] [(3,pM (.sz (.ext (.s 6) 0) 2) 2),pV 4<|.ext (.s 6) 1],pi 5 (pn (.s 4)<|pI 0)<|px [pV 2<|pI 0],pC [pK 7 49 [.mm 3 0 2]] [pV 2<|.s 7]] .ret,[(2,.v)]⟩
def c29:V2 (YC Tryz.prog) fresh sig [.fz] [] Tryz.f29=J Nm:=Z2
theorem AR{P:Z5}{f:Zq}{fn:Func}{c:Code}(j:P.funcs[f]?=J fn)(h2:fn.body=J c)(k:Ts P c=xk):FitF (YC P) f:=⟨λg d h a=>by
 have e:(YC P).funcs[f]?=P.funcs[f]? :=rfl;rw[e,j]at h;cases h;rw[h2]at a;cases a;exact FY k⟩
def Mr(l:Z6):NoM<|.sl<|l.map vi:=.sl _ λc a=>by
 have:flat (l.map vi)=l.map vi:=U9 λx d=>ZgI;rw[this]at a;obtain⟨y,_,rfl⟩:=Zhq.1 a;exact .int _ _
def qi(g:Gr):NoM<|Yj g:=(Mx g).m
def Jp{x:V}(h:NoM x):∀y∈[x],NoM y:=λy a=>by rw[Zic.1 a];exact h
def Z6S{x z:V}(h:NoM x)(k:NoM z):∀y∈[x,z],NoM y:=λy a=>by
 simp only[Zhs,ZiL,Zk9]at a;obtain rfl|rfl:=a;exact h;exact k
def up{f:Zq}{args:Zr}{r:V}(g:VC xP f xw args r)(a:∀x∈args,NoM x)(d:NoM r):VC (YC Tryz.prog) f xw args r:=IA QL g a d
def Z2h{g:Gr}(a:g.sm):VC (YC Tryz.prog) 49 xw [Yj g]<|vi<|words g:=up (Z2i a) (Jp<|qi g)<|.int _ _
def Z1a{a b:Gr}(d:a.sm):VC (YC Tryz.prog) 11 xw [Yj a,Yj b]<|.bool<|decide (a=b):=up (Z1b d) (Z6S (qi a)<|qi b)<|.bool _
def vg(h:Hp):Gr:=(Yn h).gr h.E
def ofG(h:Hp):Gr×Int:=if YQ h=xk/\right (vg h)=xk then(Wf<|vg h,0)else(UC,1)
def Z7f(h:Hp):Js h=.aq [Yj (ofG h).1,vi (ofG h).2]:=by
 unfold Js ofG Vb vg;by_cases a:YQ h=xk;rw[Zhi a];by_cases d:right ((Yn h).gr h.E)=xk;rw[Zhi d,Zhi ⟨a,d⟩];rw[Zhg d,Zhg λx=>d x.2];rw[Zhg a,Zhg λx=>a x.1]
def Z7e{h:Hp}(a:h.ok):(ofG h).1.sm:=by
 unfold ofG;split;rename_i k;exact G2 (ofOk a k.1).sm.gr k.2;exact⟨by simp[UC],by simp[UC],by simp[UC]⟩
def jY{h:Hp}(a:h.ok):VC (YC Tryz.prog) 8 xw [ZM h]<|.aq [Yj (ofG h).1,vi (ofG h).2]:=by
 rw[<-Z7f];exact Z12 a
def liveR(h:Hp):Nat:=if(ofG h).2=0 then words (ofG h).1 else 0
instance fitLive:FitF (YC Tryz.prog) 29:=AR (P:=Tryz.prog) Tryz.func29 rfl Z2
def Z0O{h:Hp}(d:h.ok):VC (YC Tryz.prog) 29 xw [ZM h]<|vi<|liveR h:=by
 refine ZT (P:=YC Tryz.prog) Tryz.func29 yo Z2 c29 rfl ?_;have k:=jY d;have f:=Z7e d;unfold liveR;generalize ofG h=g at*;obtain⟨g,e⟩:=g;simp only at k f⊢;simp[Nm];refine Zz k Z1 ?_;by_cases a:e=0;simp[a];refine Zz (Z2h f) Z1 ?_;simp;simp[a]
end Vm
end
section

end
section
namespace Vm
open Go Go.Proofs
section
def Z6U(l:List Nd):NoM<|.sl<|l.map Yi:=by
 have h:=qi ⟨l,[]⟩;unfold Yj at h;cases h with
 |agg _ h=>exact h _ Z1
def Z6V(x:Rw):NoM<|Wr x:=.agg _ λc a=>by
 simp only[Zhs,ZiL,Zk9]at a;obtain rfl|rfl|rfl|rfl|rfl|rfl|rfl:=a;all_goals first|exact .int _ _|exact Z6U _|exact Mr _
def Z0M{x:Rw}(hx:x.ok):VC (YC Tryz.prog) 5 xw [Wr x]<|ZM<|Ub x:=up (Z0N hx) (Jp<|Z6V x)<|Qg _
def qj(g:Hp)(e:Int):NoM<|.aq [ZM g,vi e]:=.aq _ λc a=>by
 simp only[Zhs,ZiL,Zk9]at a;obtain rfl|rfl:=a;exact Qg _;exact .int _ _
def Ew{h:Hp}{p:Pts}(a:h.ok)(r:Rt h p):VC (YC Tryz.prog) 10 xw [ZM h]<|.bool xk:=by
 have:=up (zA a) (Jp<|Qg h)<|.bool _;rwa[r.right]at this
def Z0A{h:Hp}(a:h.ok):VC (YC Tryz.prog) 27 xw [ZM h]<|vi<|JW h:=up (Z0B a) (Jp<|Qg h)<|.int _ _
section
variable {h:Hp}{p:Pts}
def Rt.eu(r:Rt h p):Vm.right (vg h)=xk:=r.mz r.gt r.E
def Rt.uf(r:Rt h p):ofG h=(Wf<|vg h,0):=Zhi ⟨r.right,r.eu⟩
def Rt.re(r:Rt h p):liveR h=words (Wf<|vg h):=by
 unfold Vm.liveR;rw[r.uf,Zhi rfl]
end
end
section
section
variable {h:Hp}{p:Pts}
def GW(r:Rt h p){q g:Nat}(l:q<4)(f:g<4){o k:Ob}(j:o∈obP h q)(d:k∈obP h g)(a:q≠g\/o.Y≠k.Y):(Xq h q o).ad≠(Xq h g k).ad:=by
 intro e;rw[SU r l j,SU r f d]at e;rw[r.gu l]at j;rw[r.gu f]at d;obtain⟨t,n⟩:=r.toTld.inj Z0 Z0 j d (by unfold ZO;omega);obtain a|a:=a;omega;rw[n]at a;exact a rfl
def H1(r:Rt h p):∀n q,q+n<=4->(Xm h n q).Pairwise λf g=>f.ad≠g.ad
 |0,q,_=>.nil
 |n+1,q,A=>by
  simp only[Xm];refine List.pairwise_append.2 ⟨?_,H1 r n (q+1) Z0,λf t g u=> ?_⟩;rw[List.pairwise_map];have d:=(r.am ((q:Int)+1) Z0).dt;rw[<-r.gu Z0]at d;exact d.imp_of_mem λj l w=>GW r Z0 Z0 j l<|.inr Z0;obtain⟨o,x,rfl⟩:=Zhq.1 t;obtain⟨k,B,y,z,a,rfl⟩:=RX u;exact GW r Z0 Z0 x a<|.inl Z0
def Z72(r:Rt h p){i j:Nat}{f g:Fo}(q:(Yn h).ns[i]?=J f)(t:(Yn h).ns[j]?=J g)(e:f.ad=g.ad):i=j:=by
 have d:(Yn h).ns.Pairwise λf g=>f.ad≠g.ad:=by
  rw[Ea];exact(H1 r 4 0 Z0).filter _
 have d:=ZkP.1 d;obtain⟨k,l⟩:=Zh9.1 q;obtain⟨n,o⟩:=Zh9.1 t;obtain a|a|a:=Nat.lt_trichotomy j i;exact(d j i n k a<|by rw[l,o,e]).elim;exact a.symm;exact(d i j k n a<|by rw[l,o,e]).elim
end
end
section
def Rm(h:Hp)(w:Int):Int:=(Y4 (Yn h).tm (adr w).1).getD (adr w).1
def r8(h:Hp){w:Int}(a:w≠0):(Yn h).dg w=(Y4 (Yn h).nm<|Rm h w).getD 0:=by
 unfold Vw.dg Rm;rw[Zhg a]
section
variable {h g:Hp}{p q:Pts}
def P3(r:Rt h p){f:Fo}(g:f∈Xm h 4 0)(j:f.ob.gone=xw){w:Int}(d:(adr w).1=f.ad):Rm h w=f.ad:=by
 have:Y4 (Yn h).tm f.ad=U:=by
  cases k:Y4 (Yn h).tm f.ad with
  |none=>rfl
  |some t=>
   obtain⟨x,k1,a,l,_⟩:=(Su h).t1 _ _ k;rw[KM r k1 g l,j]at a;cases a
 unfold Rm;rw[d,this,ZkZ]
def P2(r:Rt h p){f:Fo}(a:f∈Xm h 4 0)(j:f.ob.gone=xk){w:Int}(g:(adr w).1=f.ad):Rm h w=f.ob.target:=by
 obtain⟨t,e⟩:=Zih.1<|(Su h).t2 f a j;obtain⟨x,k1,l,k,d⟩:=(Su h).t1 _ _ e;rw[KM r k1 a k]at d;unfold Rm;rw[g,e,ZhE,d]
def QF{α:Type}(R:α->α->Prop):List α->List α->Prop
 | [],[]=>True
 |a::l,b::m=>R a b/\QF R l m
 |_,_=>False
def Ab{α:Type}{R:α->α->Prop}:∀ {l m:List α},I m=I l->(∀(j:Nat) (a b:α),l[j]?=J a->m[j]?=J b->R a b)->QF R l m
 | [],[],_,_=>trivial
 |a::l,b::m,d,h=>⟨h 0 a b rfl rfl,Ab Zgp λj x y f g=>h (j+1) x y Zgs<|by simpa using g⟩
 | [],_::_,d,_=>by simp at d
 |_::_,[],d,_=>by simp at d
def QK(h g:Hp)(τ:Int->Int)(w w':Int):Prop:=(w=0/\w'=0)\/(w≠0/\w'≠0/\∃f∈(Yn h).ns,f.ad=Rm h w/\Rm g w'=τ f.ad)
def Ey(h g:Hp)(τ:Int->Int)(f a:Fo):Prop:=a.ad=τ f.ad/\a.ob.M=f.ob.M/\a.sl.drop f.ob.M.toNat=f.sl.drop f.ob.M.toNat/\QF (QK h g τ) (f.sl.take f.ob.M.toNat) (a.sl.take f.ob.M.toNat)
def R7(h g:Hp)(τ:Int->Int)(i:Int):Int:=if 0<=i then(((Yn h).ns[i.toNat]?).bind λf=>Y4 (Yn g).nm<|τ f.ad).getD 0 else i
def Zb2(r:Rt h p){τ:Int->Int}{w w':Int}(q:QK h g τ w w'):(Yn g).dg w'=R7 h g τ ((Yn h).dg w):=by
 obtain⟨rfl,rfl⟩|⟨k,l,f,n,d,j⟩:=q;simp[Vw.dg,R7];obtain⟨a,o⟩:=R4.1 n;obtain⟨i,k1,t⟩:=r.lw a o;rw[r8 h k,r8 g l,<-d,j,k1];simp[R7,t]
def BN(r:Rt h p){τ:Int->Int}:∀ {l f:Z6},QF (QK h g τ) l f->f.map (Yn g).dg=(l.map (Yn h).dg).map (R7 h g τ)
 | [],[],_=>rfl
 |a::l,b::m,d=>by rw[ZhN,ZhN,ZhN,Zb2 r d.1,BN r d.2]
 | [],_::_,d=>d.elim
 |_::_,[],d=>d.elim
def Zbg(r:Rt h p)(s:Rt g q)(τ:Int->Int)(P:∀f∈(Yn h).ns,∃a∈(Yn g).ns,Ey h g τ f a)
  (t:∀f∈(Yn h).ns,∀a∈(Yn h).ns,τ f.ad=τ a.ad->f.ad=a.ad) (B:QF (QK h g τ) h.E g.E):Wf (vg g)=Wf (vg h):=by
 have key:∀x:Int,x∈order (vg h)->∃(i n:Nat) (f a:Fo),x=i/\(Yn h).ns[i]?=J f/\(Yn g).ns[n]?=J a/\R7 h g τ x=n/\Ey h g τ f a:=by
  intro x l;obtain⟨T,Z⟩:=(Cg r.eu).2 x l;have G:(vg h).nodes.length=(Yn h).ns.length:=by simp[vg,Vw.gr]
  have F:x.toNat< (Yn h).ns.length:=Z0;have D:=Zh8 F;obtain⟨a,z,d⟩:=P _<|Zhx F;generalize (Yn h).ns[x.toNat]=f at*;obtain⟨A,O⟩:=R4.1 z;obtain⟨n,k1,S⟩:=s.lw A O;refine⟨x.toNat,n,f,a,Z0,D,S,?_,d⟩;unfold R7;rw[Zhi T,D,Zhk,<-d.1,k1];rfl
 refine(Z35 r.eu s.eu (R7 h g τ) (by simp[R7]) (λx l y Q e=> ?_) (λx l=> ?_) (BN r B) λx l=> ?_).2;obtain⟨i,n,f,a,rfl,o,u,w,C⟩:=key x l;obtain⟨j,m,k,Y,rfl,H,K,X,R⟩:=key y Q;have:n=m:=Z0;subst this;rw[u]at K;cases K;have:=Z72 r o H<|t f (Zhh o) k (Zhh H)<|C.1.symm.trans R.1;omega;obtain⟨i,n,f,a,rfl,o,u,w,C⟩:=key x l;omega;obtain⟨i,n,f,a,rfl,o,u,w,W,L,M,N⟩:=key x l;rw[w];simp only[vg,Vw.gr,outs,Zhz,Zhm,o,u,ZhA,ZhE,Ta,L,M,BN r N]
def TQ(r:Rt h p){j:Nat}(a:j<4){x:Ob}(hx:x∈p.at ((j:Int)+1)):(Xq h j x).ad=ZC (Zv h) ((j:Int)+1)+x.Y:=SU r a (by rw[r.gu a];exact hx)
def Ja(r:Rt h p){j:Nat}(a:j<4){x:Ob}(hx:x∈p.at ((j:Int)+1)):Xq h j x∈Xm h 4 0:=q8 (by rw[r.gu a];exact hx) Z0 Z0
end
end
end Vm
end
section

end
section
namespace Vm
open Go Go.Proofs
def Z0I(a:Kh){h:Hp}{p:Pts}(d:h.ok)(r:Rt h p):VC (YC Tryz.prog) 26 xw [ZM h]<|.aq [ZM<|scanK h 9223372036854775807,vi 0]:=by
 have:=Z0J a d;unfold yh at this;rw[Zhg (by rw[r.right];simp)]at this;exact up this (Jp<|Qg h)<|qj _ _
def Nl:Fn:=⟨8,[0,2,3,8,7,9,5,6],pQ [pR [pV 1<|pI 0],pR [pV 2<|pI 0],pQ [pR [pV 3<|pI 0,pV 4<|.len<|.s 0,pV 7<|.s 0]]<|po [0,1,2,3,4,7] 5 (pl (.s 3)<|.s 4) (pQ [pR [pV 6<|.ac (.ba (.s 7) (.s 3) 1) 0]]<|pR [pV 2<|pa (.s 2)<|.s 6])<|pc 3]<|px [pV 1<|.s 2],[(1,.v)]⟩
def c28:xQ [.fz] Tryz.f28=J Nl:=Z2
def p9:Fn:=⟨9,[0,1,2,3,9,4,5,17,6],pQ [pR [(1,pS 0 10),(2,.m [pI 0,pI 0,pI 0,pI 0,pI 0]),pV 3<|pI 0],pQ [pC [pK 9 10 [.mm 1 0 10]] [pV 4<|.un .not<|.s 9]]<|pw (.s 4)<|px [(2,pM (.ag [pI 0,pI 0,pI 0,pI 0,pI 0]) 5),pV 3<|pI 1],pC [pK 10 26 [.mm 1 0 10]] [(5,pM (.sz (.ext (.s 10) 0) 10) 10),pV 6<|.ext (.s 10) 1],pi 7 (pn (.s 6)<|pI 0)<|px [(2,pM (.ag [pI 0,pI 0,pI 0,pI 0,pI 0]) 5),pV 3<|.s 6],pC [pK 11 27 [.mm 1 0 10]] [pV 8<|.s 11],pC [pK 12 28 [.lit [.len<|.m 1 5,.len<|.m 1 6,.one<|.s 8]],pK 13 29 [.mm 1 0 10]] [(2,pM (.ag [pb (.len<|.m 1 5)<|.m 1 4,.one<|.s 8,pb (.m 1 1)<|.s 12,.one<|.s 13,pb (.m 5 4)<|.m 1 4]) 5),pV 3<|pI 0]] .ret,[(2,(.ag 5)),(3,.v)]⟩
def c9:V2 (YC Tryz.prog) fresh sig [.fz] [] Tryz.f9=J p9:=Z2
def ZaT{a b c:Int}(y:0<=a/\a<=100000)(r:0<=b/\b<=100000)(hc:0<=c/\c<=100000):VC xP 28 xw [.sl [vi a,vi b,vi c]]<|vi<|a+b+c:=by
 refine ZT Z1n follows Z2 c28 rfl ?_;obtain⟨l,d⟩:∃l,l=[a,b,c]:=⟨_,rfl⟩;rw[show [vi a,vi b,vi c]=l.map vi by rw[d];rfl];have o:l[0]?=J a:=by rw[d];rfl
 have p:l[1]?=J b:=by rw[d];rfl
 have q:l[2]?=J c:=by rw[d];rfl
 have h:I l=3:=by rw[d];rfl
 obtain⟨F,k,w,x,n⟩:∃F:Nat->Int,F 0=0/\F 1=a/\F 2=a+b/\F 3=a+b+c:=⟨λi=>if i=0 then 0 else if i=1 then a else if i=2 then a+b else a+b+c,rfl,rfl,rfl,rfl⟩;simp[Nl,h];refine VF 3 3 (λi=>[(2,.v<|vi<|F i),(3,.v<|vi i)]) (λ_=>True) (by simp[k]) Z1 trivial ?_;intro i z _;by_cases g:i<3;obtain⟨u,j,t,r⟩:∃u,l[i]?=J u/\F i+u=F (i+1)/\0<=F i+u/\F i+u<=300000:=by
  rcases(Z0:i=0\/i=1\/i=2)with rfl|rfl|rfl;exact⟨a,o,by show F 0+a=F 1;omega,Z0⟩;exact⟨b,p,by show F 1+b=F 2;omega,Z0⟩;exact⟨c,q,by show F 2+c=F 3;omega,Z0⟩
 have w1:=ZA (F<|i+1) Z0 Z0;have w2:=ZA ((i:Int)+1) Z0 Z0;have f:(i:Int)<3:=Z0;simp[h,g,f,j,Yp j,w1,w2,t];have:i=3:=Z0;subst this;simp[h,n]
def Jm(a b c d e:Int):V:=.agg [vi a,vi b,vi c,vi d,vi e]
def Zbe{P:Z5} [Lg P]{f:Zq}{xs:Zr}{r:V}(h:VC P f xw xs r)(l:∀ {w:Z3} {G a:Z4} {v:Zg},Rd w G r v->Rd w a r v):VC P f xk xs r:=
 ⟨h.1,λw G vs d n o=>Lg.dy (h.2 w G vs d n o) λ_ _ ⟨v,j,g,k⟩=>⟨v,j,g,l k⟩⟩
def Z8R{w:Z3}{G G':Z4}{v:Zg}{a b c d e k:Int}(h:Rd w G (.aq [Jm a b c d e,vi k]) v):Rd w G' (.aq [Jm a b c d e,vi k]) v:=by
 cases h with
 |aq _ vs g j=>
  refine .aq _ _ g λi y f=> ?_
  match i,f with
  |0,f=>cases f;exact(j 0 _ rfl).gp (λy f=>by simp[Jm,V.cells]at f;obtain rfl|rfl|rfl|rfl|rfl:=f<;>rfl) λl g=>by cases g
  |1,f=>cases f;exact(j 1 _ rfl).gp (λy f=>by simp[V.cells]at f;subst f;rfl) λl g=>by cases g
instance fitOfM:FitF (YC Tryz.prog) 9:=AR (P:=Tryz.prog) Tryz.func9 rfl Z2
def EE(n:Kh){h:Hp}{p:Pts}(d:h.ok)(r:Rt h p):VC (YC Tryz.prog) 9 xk [ZM h]<|.aq [Jm ((I h.H:Int) -h.Z) (X4 p) (h.cap-Un h p) (words<|Wf<|vg h)<|(scanK h 9223372036854775807).Z-h.Z,vi 0]:=by
 refine Zbe ?_ Z8R;refine ZT (P:=YC Tryz.prog) Tryz.func9 yo Z2 c9 rfl ?_;have k1:=Ew d r;have k:=Z0I n d r;have f:=Z0A d;rw[r.vp]at f;have u:=r.room;have t:h.cap<=4096:=(WG.1 r.be).2.1;have l:=up (ZaT (a:=I h.H) (b:=I h.ae) (c:=X4 p) Z0 Z0 Z0) (Jp<|Mr [_,_,_])<|.int _ _;have j:=Z0O d;rw[r.re]at j;obtain⟨q,s⟩:=r.ii 9223372036854775807;have o:=LX d r 9223372036854775807;have:=o.H;have:=s.rt.fu;have:=s.rt.ft;have:=r.fu;have:=r.ft;unfold Un;generalize scanK h 9223372036854775807=g at*;have w1:=ZA ((I h.H:Int) -h.Z) Z0 Z0;have w2:=ZA (h.cap- ((I h.H:Int)+I h.ae+X4 p)) Z0 Z0;have w3:=ZA (g.Z-h.Z) Z0 Z0;simp only[ZM]at k1 k f l j⊢;simp[p9];refine Zz k1 Z1 ?_;simp;refine Zz k Z1 ?_;simp;refine Zz f Z1 ?_;simp;refine Zz l Z1 ?_;simp;refine Zz j Z1 ?_;simp[w1,w2,w3,Jm]
def p6:Fn:=⟨7,[0,1,2,3,6,7,8],pQ [pR [(3,pS 0 10),pV 4<|pU 0,pV 5<|pI 0],pC [pK 7 17 [.s 2,pI 20]] [pV 6<|pa (.m 3 1)<|.s 7]]<|px [pV 4<|pa (pU 1)<|.ce .rem (.s 1)<|pb (pU 9223372036854775808)<|pm (pU 2)<|.conv .u64<|.s 6,pV 5<|.s 6],[(4,.v),(5,.v)]⟩
def c6:xQ [.fz,.fz,.fz] Tryz.f6=J p6:=Z2
def N5:Fn:=⟨16,[0,1,2,3,4,6,7,19,21,8,9,28,10,36,11,44],pQ [pR [(3,pS 0 7),(4,pS 1 7),pV 5<|pU 0,pV 6<|pI 0],pQ [.au ⟨[pK 16 33 [.mm 3 0 7],.lt 17 []<|.un .not<|.s 16,.call 18 [(17,xw)] (.id 33) xw xw [.mm 4 0 7]],[([(17,xw)],.un .not<|.s 18)],[pV 7<|.ite (.s 17) pT<|.un .not<|.s 18]⟩]<|pw (.s 7)<|px [pV 5<|pU 0,pV 6<|pI 1],pi 8 (pe (.s 2)<|pU 0)<|px [pV 5<|pU 0,pV 6<|pI 0],pC [pK 19 24 [.s 2]] [pV 9<|.ext (.s 19) 0,pV 10<|.ext (.s 19) 1],pi 11 (pn (.s 10)<|pI 0)<|px [pV 5<|pU 0,pV 6<|pI 3],pC [pK 20 34 [.mm 3 0 7,.s 9]] [pV 10<|.ext (.s 20) 1,(12,pM (.sz (.ext (.s 20) 0) 2) 2)],pi 13 (pn (.s 10)<|pI 0)<|px [pV 5<|pU 0,pV 6<|pI 6],pC [pK 21 35 [.mm 4 0 7,.mm 12 0 2]] [pV 10<|.ext (.s 21) 1,pV 14<|.ext (.s 21) 0],pi 15 (pn (.s 10)<|pI 0)<|px [pV 5<|pU 0,pV 6<|pI 6],pC [pK 22 36 [.s 14]] [pV 5<|.ext (.s 22) 0,pV 6<|.ext (.s 22) 1]] .ret,[(5,.v),(6,.v)]⟩
def c12:xQ [.fz,.fz,.fz] Tryz.f12=J N5:=Z2
def Yl(f t:Ly)(w:Int):Int×Int:=
 if ZD f=xw\/ZD t=xw then(0,1)else if w=0 then(0,0)else if(adr w).2≠0 then(0,3)
 else if(ZZ f (adr w).1).2.2≠0\/(ZU t (ZZ f (adr w).1).1 (ZZ f (adr w).1).2.1).2≠0 then(0,6)
 else(2*(ZU t (ZZ f (adr w).1).1 (ZZ f (adr w).1).2.1).1+1,0)
def Z2l{t:Ly}{k a:Int}(h:(ZU t k a).2=0):Xz (ZU t k a).1=(2*(ZU t k a).1+1,0):=by
 unfold ZU at h⊢;split at h;simp at h;rename_i d;split at h;simp at h;rename_i f;split at h;simp at h;rename_i g;rw[Zhg d,Zhg f,Zhg g];have:=WK (l:=t) Zgp k;unfold Xz;rw[Zhg ZgX]
def D0(f t:Ly)(w:Int):ZB (Yl f t w).1:=by
 unfold Yl;split;simp[ZB];split;simp[ZB];split;simp[ZB];split;simp[ZB];have:=Z2k (l:=t) (k:=(ZZ f (adr w).1).1) (a:=(ZZ f (adr w).1).2.1);simp only[ZB];omega
def D1{f t:Ly}(o:f.an)(p:t.an){w:Int}(q:ZB w):VC xP 12 xw [YP f,YP t,vu w]<|.aq [vu (Yl f t w).1,vi (Yl f t w).2]:=by
 refine ZT EV follows Z2 c12 rfl ?_;have k1:=Qu o;have r:=Qu p;have A:=QO q;have u:=GG o<|Fm q;have x:=Aa p (part:=(ZZ f (adr w).1).1) (at_:=(ZZ f (adr w).1).2.1);have y:=Oi (a:=(ZU t (ZZ f (adr w).1).1 (ZZ f (adr w).1).2.1).1) Fl;have g:=λh=>Z2l (t:=t) (k:=(ZZ f (adr w).1).1) (a:=(ZZ f (adr w).1).2.1) h;unfold YP at k1 r u x;unfold Yl;simp[N5,YP];refine Zz k1 Z1 ?_;cases B:ZD f;simp;simp;refine Zz r Z1 ?_;cases z:ZD t;simp;simp;by_cases j:w=0;simp[j];simp[j];refine Zz A Z1 ?_;by_cases l:(adr w).2=0;case neg=>simp[l]
 simp[l];refine Zz u Z1 ?_;by_cases n:(ZZ f (adr w).1).2.2=0;case neg=>simp[n]
 simp[n];refine Zz x Z1 ?_;by_cases d:(ZU t (ZZ f (adr w).1).1 (ZZ f (adr w).1).2.1).2=0;case neg=>simp[d]
 rw[g d]at y;simp[d];exact Zz y Z1 Z1
def X0(f t:Ly)(ws out:Z6)(a:Nat):Nat->List Int
 |0=>out
 |j+1=>(X0 f t ws out a j).set (a+j) (Yl f t<|(ws[a+j]?).getD 0).1
def XF(f t:Ly)(ws out:Z6)(o:Ob):List Int:=
 if o.gone then out.set o.Y.toNat (Yl f t<|(ws[o.Y.toNat]?).getD 0).1 else X0 f t ws out (o.Y.toNat+1) o.M.toNat
def Vz(f t:Ly)(ws:Z6)(l:Zi):List Int:=l.foldl (XF f t ws) ws
@[simp]theorem BZ(f t:Ly)(ws out:Z6)(a n:Nat):I (X0 f t ws out a n)=I out:=by
 induction n with
 |zero=>rfl
 |succ n d=>simp[X0,d]
@[simp]theorem Mh(f t:Ly)(ws out:Z6)(o:Ob):I (XF f t ws out o)=I out:=by
 unfold XF;split<;>simp
def Mf(f t:Ly)(ws:Z6)(l:Zi):∀out,I (l.foldl (XF f t ws) out)=I out:=by
 induction l with
 |nil=>intro out;rfl
 |cons o l a=>intro out;rw[ZiP,a,Mh]
def Mm{f t:Ly}{ws out:Z6}{a:Nat}(h:∀w∈out,ZB w):∀n,∀w∈X0 f t ws out a n,ZB w
 |0=>h
 |n+1=>λw d=>by
  obtain d|rfl:=ZiB d;exact Mm h n w d;exact D0 _ _ _
def Z6F{f t:Ly}{ws out:Z6}{o:Ob}(h:∀w∈out,ZB w):∀w∈XF f t ws out o,ZB w:=by
 unfold XF;split;intro w a;obtain a|rfl:=ZiB a;exact h w a;exact D0 _ _ _;exact Mm h _
def Le{f t:Ly}{ws:Z6}{l:Zi}:∀ {out:Z6},(∀w∈out,ZB w)->∀w∈l.foldl (XF f t ws) out,ZB w:=by
 induction l with
 |nil=>intro out h;exact h
 |cons o l a=>intro out h;rw[ZiP];exact a<|Z6F h
def Xx(h:Hp)(p:Pts)(base words:Int):Hp:=
 let f:=Zv h;let t:=Zv {h with base:=base,cap:=words}
 {h with base:=base,cap:=words,E:=h.E.map λw=>(Yl f t w).1,H:=Vz f t h.H p.H,ae:=Vz f t h.ae p.ae,ah:=Vz f t h.ah p.ah,aj:=Vz f t h.aj p.aj}
def Xn(h:Hp)(base words:Int):Hp×Int:=
 if YQ h=xw\/base=0\/words<0\/4096<words then(Hp.zero,1)else if words<h.cap then(Hp.zero,8)else if 9223372036854775808-2*words<base then(Hp.zero,9)
 else(Xx h ((Xo h).getD default) base words,0)
section
section
variable {f t:Ly}
def LF(a:ZD f=xk)(d:ZD t=xk):Yl f t 0=(0,0):=by
 unfold Yl;rw[Zhg (by simp[a,d]),Zhi rfl]
def Og(g:ZD f=xk)(j:ZD t=xk){k a w:Int}(h:1<=k/\k<=4)(d:0<=a/\a<Y5 f k)(o:Y5 t k=Y5 f k)(l:w≠0)(n:adr w=(ZC f k+a,0)):Yl f t w=(ZO t k a,0):=by
 unfold Yl;rw[Zhg (by simp[g,j]),Zhg l,n];simp only;rw[RT g h d];simp only;rw[SD j h ⟨d.1,Z0⟩];simp[ZO]
def Qm(d:ZD f=xk)(l:ZD t=xk){k a:Int}(h:1<=k/\k<=4)(g:0<=a/\a<Y5 f k)(j:Y5 t k=Y5 f k):Yl f t (ZO f k a)=(ZO t k a,0):=by
 refine Og d l h g j ?_<|V9 d g.1;have:=WK d k;unfold ZO;omega
def DC(h:Hp)(b c k:Int):Y5 (Zv {h with base:=b,cap:=c}) k=Y5 (Zv h) k:=rfl
def Mj{ws d out:Z6}{a n:Nat}(h:∀j,j<n->d[a+j]?=ws[a+j]?):X0 f t d out a n=X0 f t ws out a n:=by
 induction n with
 |zero=>rfl
 |succ n g=>rw[X0,X0,g λj k=>h j Z0,h n Z0]
def Mi{ws out:Z6}{a i:Nat}:∀ {n:Nat},i<a\/a+n<=i->(X0 f t ws out a n)[i]?=out[i]?
 |0,_=>rfl
 |n+1,h=>by
  rw[X0,ZiA,Zhg Z0];exact Mi Z0
def Mk{ws out:Z6}{a i:Nat}:∀ {n:Nat},a<=i->i<a+n->i<I out->(X0 f t ws out a n)[i]?=J (Yl f t<|(ws[i]?).getD 0).1
 |0,d,h,_=>Z0
 |n+1,d,h,g=>by
  rw[X0,ZiA];by_cases e:a+n=i;subst e;rw[Zhi rfl,Zhi (by rw[BZ];exact g)];rw[Zhg e];exact Mk d Z0 g
def Z6D{ws out:Z6}{o:Ob}{a m s i:Nat}(d:o.Y=a)(em:o.M=m)(es:o.size=s)(g:m<=s)(h:i<a\/a+1+s<=i):(XF f t ws out o)[i]?=out[i]? :=by
 unfold XF;split;rw[ZiA,Zhg (by rw[d,Zhm];omega)];rw[d,em,Zhm,Zhm];exact Mi Z0
def Me{ws:Z6}{i:Nat}:∀ {l:Zi} {out:Z6},(∀o∈l,∃a m s:Nat,o.Y=a/\o.M=m/\o.size=s/\m<=s/\(i<a\/a+1+s<=i))->(l.foldl (XF f t ws) out)[i]?=out[i]?
 | [],_,_=>rfl
 |o::l,out,h=>by
  rw[ZiP,Me λx n=>h x<|ZhK _ n];obtain⟨a,m,s,d,em,g,k,j⟩:=h o<|ZiD ..;exact Z6D d em g k j
def Z6H{ws:Z6}:X0 f t ws ws 0 (I ws)=ws.map λw=>(Yl f t w).1:=by
 apply ZiV;intro i;by_cases h:i<I ws;rw[Mk Z0 Z0 h,Zhz,Zh8 h];rfl;rw[ZhP (by rw[BZ];omega),ZhP Zge]
end
section
variable {h:Hp}{p:Pts}{base words:Int}
structure MvOk (h:Hp) (base words:Int):Prop where
 b0:base≠0
 w0:0<=words
 w1:words<=4096
 cap:h.cap<=words
 bo:base<=9223372036854775808-2*words
theorem MvOk.right(m:MvOk h base words)(d:0<=base)(a:ZD (Zv h)=xk):ZD (Zv {h with base:=base,cap:=words})=xk:=by
 have:=WG.1 a;have:=m.b0;have:=m.w0;have:=m.w1;have:=m.cap;have:=m.bo;rw[WG];simp only[Zv]at*;omega
def Hb(t:Tld h p)(f:ZD (Zv {h with base:=base,cap:=words})=xk){w i j:Int}(y:1<=i/\i<=4)(z:1<=j/\j<=4)(r:Gos h p w i j):
  Yl (Zv h) (Zv {h with base:=base,cap:=words}) w=(0,0)/\w=0\/∃k o,(k=i\/k=j)/\o∈p.at k/\w=ZO (Zv h) k o.Y/\Yl (Zv h) (Zv {h with base:=base,cap:=words}) w=(ZO (Zv {h with base:=base,cap:=words}) k o.Y,0):=by
 obtain rfl|⟨k,o,g,l,rfl⟩:=r;exact .inl ⟨LF t.be f,rfl⟩;have d:1<=k/\k<=4:=by obtain rfl|rfl:=g<;>assumption
 obtain⟨a,n,m,u,x,em,q,_⟩:=t.ob d l;refine .inr ⟨k,o,g,l,rfl,?_⟩;exact Qm t.be f d ⟨Z0,by rw[TN h d];omega⟩<|DC h base words k
def KO(t:Tld h p)(a:ZD (Zv {h with base:=base,cap:=words})=xk){w i j:Int}(f:1<=i/\i<=4)(g:1<=j/\j<=4)(d:Gos h p w i j):(Yl (Zv h) (Zv {h with base:=base,cap:=words}) w).2=0:=by
 obtain⟨e,_⟩|⟨_,_,_,_,_,e⟩:=Hb t a f g d<;>rw[e]
def Z8r(t:Tld h p)(d:ZD (Zv {h with base:=base,cap:=words})=xk){k:Int}{i:Nat}{w:Int}(a:Xw h p k i w):(Yl (Zv h) (Zv {h with base:=base,cap:=words}) w).2=0:=by
 unfold Xw at a;split at a;exact KO t d Z0 Z0 a;split at a;obtain a|a:=a;exact KO t d Z0 Z0 a;exact KO t d Z0 Z0 a;exact KO t d Z0 Z0 a
def Z2m{w:Int}(h:(adr w).2=0):w≠0:=by
 rintro rfl;simp[adr]at h
def Z4c(r:Body h p){k:Int}(g:1<=k/\k<=4){o:Ob}(j:o∈p.at k)(f:o.gone=xk):3<=k/\∃w q,(Zx h k)[o.Y.toNat]?=J w/\q∈p.H/\adr w=(ZC (Zv h) 1+q.Y,0):=by
 have x:=((r.am k g).bd o j).1;obtain⟨w,y,d⟩:=x.word;rw[f,Zhi rfl]at d;obtain⟨l,n,t⟩:=d;have a:3<=k:=by
  have:=Zj7 l;omega
 obtain⟨q,u,e,_⟩:=r.gone k ⟨a,g.2⟩ o j f;refine⟨a,w,q,y,u,?_⟩;rw[<-e,t,<-n]
def Z4b(r:Body h p)(d:ZD (Zv {h with base:=base,cap:=words})=xk){w:Int}{q:Ob}(j:q∈p.H)(f:adr w=(ZC (Zv h) 1+q.Y,0)):Yl (Zv h) (Zv {h with base:=base,cap:=words}) w=(ZO (Zv {h with base:=base,cap:=words}) 1 q.Y,0):=by
 obtain⟨a,n,m,l,o,em,g,_⟩:=r.toTld.ob (k:=1) Z0 j;exact Og r.be d Z0 ⟨Z0,by rw[TN h Z0];omega⟩ (DC h base words 1) (Z2m<|by rw[f]) f
def IQ(h:Hp){k:Nat}(a:k<4):Zw h k=Zx h ((k+1:Nat):Int):=by
 have:k=0\/k=1\/k=2\/k=3:=Z0;obtain rfl|rfl|rfl|rfl:=this<;>rfl
def Tiles.si{ws:Z6}{old:Bool}{l:Zi}(n:Tiles ws old 0 l){i:Nat}{o:Ob}(g:l[i]?=J o):∀x∈l.take i,x.Y+1+x.size<=o.Y:=by
 intro x r;obtain⟨j,d⟩:=ZjM.1 r;have f:j<i:=by
  have:=(Zh9.1 d).1;rw[Zid]at this;omega
 rw[ZhO f]at d;have p:=n.dt;have a:=(Zh9.1 g).1;have h:x.Y<o.Y:=by
  have:=ZkP.1 p j i Z0 a f;rw[Zh8 Z0]at d;rw[Zh8 a]at g;rw[ZiJ d,ZiJ g]at this;exact this
 have k:=(n.bd o<|Zhh g).1;have q:=YN.1 k.shape;obtain e|e|e:=n.apart x (Zhh d) o<|Zhh g;rw[e]at h;omega;exact e;omega
def Z6z(r:Body h p)(A:ZD (Zv {h with base:=base,cap:=words})=xk){f t:Ly}(M:f=Zv h)(P:t=Zv {h with base:=base,cap:=words}):∀k,k<4->∀(i:Nat) (o:Ob),(p.at ((k+1:Nat):Int))[i]?=J o->∀out,out=((p.at ((k+1:Nat):Int)).take i).foldl (XF f t<|Zw h k) (Zw h k)->∃a s m:Nat,o.Y=a/\o.size=s/\o.M=m/\a+(s+1)<=I (Zw h k)/\s<=255/\m<=s/\
   (o.gone=xk->X0 f t out out a 1=XF f t (Zw h k) out o/\∀x,out[a]?=J x->(Yl f t x).2=0)/\(o.gone=xw->X0 f t out out (a+1) m=XF f t (Zw h k) out o/\∀j,j<m->∀x,out[a+1+j]?=J x->(Yl f t x).2=0):=by
 intro k X i o N out l;have d:1<=((k+1:Nat):Int)/\((k+1:Nat):Int)<=4:=Z0;rw[IQ h X]at l⊢;generalize ((k+1:Nat):Int)=B at*;have H:=Zhh N;obtain⟨a,s,m,u,S,em,G,Y,K⟩:=r.toTld.ob d H;have T:=r.am B d;have g:∀q,a<=q->out[q]?=(Zx h B)[q]? :=λq O=>by
  rw[l];refine Me λx n=> ?_;obtain⟨R,s',m',C,F,D,L,Z,z⟩:=r.toTld.ob d<|Zie n;have:=T.si N x n;exact⟨R,m',s',C,D,F,z,Z0⟩
 refine⟨a,s,m,u,S,em,G,Y,K,λy=>⟨?_,λx n=> ?_⟩,λy=>⟨?_,λj hj x n=> ?_⟩⟩;rw[Mj (ws:=Zx h B) λj _=>g (a+j) Z0];unfold XF;rw[Zhi y,u,Zhm];rfl;obtain⟨_,w,q,Q,O,W⟩:=Z4c r d H y;rw[u,Zhm]at Q;rw[g a<|Zhc _,Q]at n;cases n;rw[M,P,Z4b r A O W];rw[Mj (ws:=Zx h B) λj _=>g (a+1+j) Z0];unfold XF;rw[Zhg (by rw[y];simp),u,em,Zhm,Zhm];rw[g _ Z0]at n;have:=r.ptr B d o H y j Z0 x (by rw[u,Zhm];exact n);rw[M,P];exact Z8r r.toTld A this
end
end
section
def Wh(o:Ob)(q:Nat):Prop:=(o.gone=xk/\q=o.Y.toNat)\/(o.gone=xw/\o.Y.toNat+1<=q/\q<o.Y.toNat+1+o.M.toNat)
section
variable {f t:Ly}
def Ml{ws out:Z6}{a q:Nat}(d:I out=I ws):∀n,(X0 f t ws out a n)[q]?=if a<=q/\q<a+n then(ws[q]?).map (λw=>(Yl f t w).1)else out[q]?
 |0=>by rw[Zhg Z0];rfl
 |n+1=>by
  rw[X0,ZiA];by_cases e:a+n=q;subst e;rw[Zhi rfl,BZ,d];by_cases h:a+n<I ws;rw[Zhi h,Zhi Z0,Zh8 h];rfl;rw[Zhg h,Zhi Z0,ZhP Z0];rfl;rw[Zhg e,Ml d n];by_cases h:a<=q/\q<a+n;rw[Zhi h,Zhi Z0];rw[Zhg h,Zhg Z0]
open Classical in
def Z6E{ws out:Z6}{q:Nat}{o:Ob}(d:I out=I ws):(XF f t ws out o)[q]?=if Wh o q then(ws[q]?).map (λw=>(Yl f t w).1)else out[q]? :=by
 unfold XF Wh;cases g:o.gone with
 |true=>
  rw[Zhi rfl,ZiA];by_cases e:o.Y.toNat=q;subst e;rw[Zhi rfl,d];by_cases h:o.Y.toNat<I ws;rw[Zhi h,Zhi<|Or.inl ⟨rfl,rfl⟩,Zh8 h];rfl;rw[Zhg h,Zhi<|Or.inl ⟨rfl,rfl⟩,ZhP Z0];rfl;rw[Zhg e,Zhg (by rintro(⟨_,h⟩|⟨h,_⟩);exact e h.symm;cases h)]
 |false=>
  rw[Zhg Z1,Ml d];by_cases h:o.Y.toNat+1<=q/\q<o.Y.toNat+1+o.M.toNat;rw[Zhi h,Zhi<|Or.inr ⟨rfl,h⟩];rw[Zhg h,Zhg (by rintro(⟨a,_⟩|⟨_,a⟩);cases a;exact h a)]
open Classical in
def BY{ws:Z6}{q:Nat}:∀ {l:Zi} {out:Z6},I out=I ws->(l.foldl (XF f t ws) out)[q]?=if ∃o∈l,Wh o q then(ws[q]?).map (λw=>(Yl f t w).1)else out[q]?
 | [],out,_=>by rw[Zhg (by rintro⟨o,h,_⟩;cases h)];rfl
 |o::l,out,j=>by
  rw[ZiP,BY (by rw[Mh];exact j)];by_cases h:∃o∈l,Wh o q;rw[Zhi h,Zhi (by obtain⟨x,a,g⟩:=h;exact⟨x,ZhK _ a,g⟩)];rw[Zhg h,Z6E j];by_cases d:Wh o q;rw[Zhi d,Zhi ⟨o,ZiD ..,d⟩];rw[Zhg d,Zhg];rintro⟨x,a,g⟩;obtain rfl|a:=Zhs.1 a;exact d g;exact h ⟨x,a,g⟩
def Ld{ws:Z6}{l:Zi}{q:Nat}{o:Ob}(a:o∈l)(d:Wh o q):(Vz f t ws l)[q]?=(ws[q]?).map (λw=>(Yl f t w).1):=by
 unfold Vz;rw[BY rfl,Zhi ⟨o,a,d⟩]
def qg{ws:Z6}{l:Zi}{q:Nat}(h:∀o∈l,¬Wh o q):(Vz f t ws l)[q]?=ws[q]? :=by
 unfold Vz;rw[BY rfl,Zhg (by rintro⟨o,a,d⟩;exact h o a d)]
def T9{ws:Z6}{l:Zi}:I (Vz f t ws l)=I ws:=Mf _ _ _ _ _
def YZ(f t:Ly)(o:Ob):Ob:=if o.gone then {o with target:=ZC t 1+(o.target-ZC f 1)}else o
def WP(o:Ob):(YZ f t o).Y=o.Y/\(YZ f t o).size=o.size/\(YZ f t o).M=o.M/\(YZ f t o).gone=o.gone:=by
 unfold YZ;split<;>exact⟨rfl,rfl,rfl,rfl⟩
def Mg{o:Ob}(a:o.gone=xw):YZ f t o=o:=by unfold YZ;rw[a];rfl
def VH(f:Ly)(w:Int):Prop:=w=0\/∃k a,(1<=k/\k<=4)/\(0<=a/\a<Y5 f k)/\w=ZO f k a
structure LkL (f t:Ly):Prop where
 hf:ZD f=xk
 ht:ZD t=xk
 ij:∀k,Y5 t k=Y5 f k
def LkL.lc(l:LkL f t){w:Int}(h:VH f w):VH t (Yl f t w).1:=by
 obtain rfl|⟨k,a,g,d,rfl⟩:=h;rw[LF l.hf l.ht];exact .inl rfl;rw[Qm l.hf l.ht g d<|l.ij k];exact .inr ⟨k,a,g,⟨d.1,by rw[l.ij];exact d.2⟩,rfl⟩
end
section
variable {h:Hp}{p:Pts}{base words:Int}
def KP(t:Tld h p){w i j:Int}(x:1<=i/\i<=4)(y:1<=j/\j<=4)(g:Gos h p w i j):VH (Zv h) w:=by
 obtain rfl|⟨k,o,l,q,rfl⟩:=g;exact .inl rfl;have d:1<=k/\k<=4:=by obtain rfl|rfl:=l<;>assumption
 obtain⟨a,n,m,r,u,em,f,_⟩:=t.ob d q;exact .inr ⟨k,o.Y,d,⟨Z0,by rw[TN h d];omega⟩,rfl⟩
def Z8s(t:Tld h p){k:Int}{i:Nat}{w:Int}(a:Xw h p k i w):VH (Zv h) w:=by
 unfold Xw at a;split at a;exact KP t Z0 Z0 a;split at a;obtain a|a:=a;exact KP t Z0 Z0 a;exact KP t Z0 Z0 a;exact KP t Z0 Z0 a
def yu(r:Body h p){k:Int}(g:1<=k/\k<=4){o:Ob}(j:o∈p.at k)(f:o.gone=xk):∃q,q∈p.H/\(Zx h k)[o.Y.toNat]?=J (ZO (Zv h) 1 q.Y)/\o.target=ZC (Zv h) 1+q.Y/\q.size=o.size/\q.M=o.M/\3<=k:=by
 have z:=((r.am k g).bd o j).1;obtain⟨w,A,d⟩:=z.word;rw[f,Zhi rfl]at d;obtain⟨t,u,x⟩:=d;have a:3<=k:=by
  have:=Zj7 t;omega
 obtain⟨q,y,e,l,n⟩:=r.gone k ⟨a,g.2⟩ o j f;refine⟨q,y,?_,e,l,n,a⟩;rw[A,Ef u (by rw[<-x,e])];rfl
def Q4(r:Body h p){k:Int}(l:1<=k/\k<=4){o:Ob}(t:o∈p.at k){q:Nat}(A:Wh o q){w:Int}(d:(Zx h k)[q]?=J w):VH (Zv h) w:=by
 obtain⟨g,rfl⟩|⟨g,C,D⟩:=A;obtain⟨x,B,e,_⟩:=yu r l t g;rw[e]at d;cases d;obtain⟨a,n,m,u,y,em,f,_⟩:=r.toTld.ob (k:=1) Z0 B;exact .inr ⟨1,x.Y,Z0,⟨Z0,by rw[TN h Z0];omega⟩,rfl⟩;obtain⟨a,n,m,u,y,em,f,_⟩:=r.toTld.ob l t;obtain⟨j,z⟩:∃j,q=o.Y.toNat+1+j:=⟨q- (o.Y.toNat+1),Z0⟩;rw[z]at d;exact Z8s r.toTld<|r.ptr k l o t g j Z0 w d
def Bp(t:Tld h p){k:Int}(g:1<=k/\k<=4){o:Ob}(l:o∈p.at k){q:Nat}(r:Wh o q):o.Y<=q/\(q:Int)<o.Y+1+o.size:=by
 obtain⟨a,n,m,u,w,em,d,_,j⟩:=t.ob g l;obtain⟨f,rfl⟩|⟨f,x,y⟩:=r<;>omega
def L3(t:Tld h p){k:Int}(a:1<=k/\k<=4){o x:Ob}(d:o∈p.at k)(hx:x∈p.at k){q:Nat}(f:Wh x q)(g:o.Y<=q)(h2:(q:Int)<o.Y+1+o.size):x=o:=by
 have:=Bp t a hx f;rcases(t.am k a).apart x hx o d with e|e|e;exact e;omega;omega
def VA(f t:Ly)(p:Pts):Pts:=⟨p.H.map<|YZ f t,p.ae.map<|YZ f t,p.ah.map<|YZ f t,p.aj.map<|YZ f t⟩
def Lf{f t:Ly}(k:Int):(VA f t p).at k=(p.at k).map (YZ f t):=by
 unfold Pts.at VA;split;rfl;split;rfl;split<;>rfl
def JB{k:Int}(a:1<=k/\k<=4):Zx (Xx h p base words) k=Vz (Zv h) (Zv {h with base:=base,cap:=words}) (Zx h k) (p.at k):=by
 have:k=1\/k=2\/k=3\/k=4:=Z0;obtain rfl|rfl|rfl|rfl:=this<;>rfl
def Jf:Zv (Xx h p base words)=Zv {h with base:=base,cap:=words}:=by
 unfold Zv Xx;simp only[T9]
def ZbF{f t:Ly}(o:Ob):WH (YZ f t o)=WH o:=by
 obtain⟨g,a,h,d⟩:=WP (f:=f) (t:=t) o;unfold WH;rw[a,d]
def jS{f t:Ly}(l:Zi):Yx (l.map<|YZ f t)=Yx l:=by
 unfold Yx;rw[Zjw];congr 1;exact Ziv λo _=>ZbF o
def PX{f t:Ly}(l:Zi)(a:Int):Xc (l.map<|YZ f t) (ZC t 1+a)=Xc l (ZC f 1+a):=by
 unfold Xc;rw[List.filter_map,ZhM];congr 1;apply List.filter_congr;intro o _;simp only[Function.comp];cases d:o.gone with
 |false=>rw[Mg d,d];rfl
 |true=>
  rw[(WP o).2.2.2,d];have:(YZ f t o).target=ZC t 1+(o.target-ZC f 1):=by unfold YZ;rw[d];rfl
  rw[this];simp only[ZjN];by_cases e:o.target=ZC f 1+a;rw[ZjD e,ZjD Z0];rw[decide_eq_false e,decide_eq_false Z0]
def MvOk.tp(m:MvOk h base words)(d:0<=base)(a:ZD (Zv h)=xk):LkL (Zv h)<|Zv {h with base:=base,cap:=words}:=
 ⟨a,m.right d a,λk=>DC h base words k⟩
def Z5E{f:Ly}(g:ZD f=xk){k a:Int}(d:0<=a):V4 (ZO f k a)=xk:=by
 unfold V4;rw[V9 g d];simp
def Z3X{f:Ly}(g:ZD f=xk){w:Int}(h:VH f w):V4 w=xk:=by
 obtain rfl|⟨k,a,j,d,rfl⟩:=h;rfl;exact Z5E g d.1
def KQ(r:Body h p)(l:LkL (Zv h)<|Zv {h with base:=base,cap:=words}){w i j:Int}(f:1<=i/\i<=4)(g:1<=j/\j<=4)(d:Gos h p w i j):
  Gos (Xx h p base words) (VA (Zv h) (Zv {h with base:=base,cap:=words}) p) (Yl (Zv h) (Zv {h with base:=base,cap:=words}) w).1 i j:=by
 obtain⟨e,_⟩|⟨k,o,n,q,e,a⟩:=Hb r.toTld l.ht f g d;rw[e];exact .inl rfl;rw[a];refine .inr ⟨k,YZ _ _ o,n,by rw[Lf];exact Zil q,?_⟩;rw[Jf,(WP o).1]
def Z8t(r:Body h p)(l:LkL (Zv h)<|Zv {h with base:=base,cap:=words}){k:Int}{i:Nat}{w:Int}(a:Xw h p k i w):
  Xw (Xx h p base words) (VA (Zv h) (Zv {h with base:=base,cap:=words}) p) k i (Yl (Zv h) (Zv {h with base:=base,cap:=words}) w).1:=by
 have g:(Xx h p base words).Z=h.Z:=rfl;unfold Xw at*;rw[g];split at a;rename_i d;rw[Zhi d];exact KQ r l Z0 Z0 a;rename_i d;rw[Zhg d];split at a;rename_i f;rw[Zhi f];obtain a|a:=a;exact .inl<|KQ r l Z0 Z0 a;exact .inr<|KQ r l Z0 Z0 a;rename_i f;rw[Zhg f];exact KQ r l Z0 Z0 a
def ZaI(r:Body h p)(l:LkL (Zv h)<|Zv {h with base:=base,cap:=words}){k:Int}(y:1<=k/\k<=4){o:Ob}(B:o∈p.at k):
  Stands (Zx (Xx h p base words) k) (decide (2<k)) (YZ (Zv h) (Zv {h with base:=base,cap:=words}) o):=by
 have F:=((r.am k y).bd o B).1;obtain⟨G,H,K,L⟩:=WP (f:=Zv h) (t:=Zv {h with base:=base,cap:=words}) o;obtain⟨a,n,m,ea,en,em,T,_,X⟩:=r.toTld.ob y B;rw[JB y];refine⟨by rw[G];exact F.kx,by rw[H,K];exact F.shape,by rw[G,H,T9];exact F.an,?_,?_⟩;rw[G,H,K,L];refine Sp λj w d=> ?_;have D:j<o.size.toNat:=by
  have:=(Zh9.1 d).1;simp at this;omega
 rw[ZhO D,ZhF]at d;by_cases O:∃x∈p.at k,Wh x<|o.Y.toNat+1+j;obtain⟨x,A,u⟩:=O;have:=L3 r.toTld y B A u Z0 Z0;subst this;rw[Ld A u]at d;obtain⟨g,e⟩|⟨g,C,S⟩:=u;omega;refine⟨λh=>(by rw[g]at h;cases h),λ_=> ?_⟩;cases z:(Zx h k)[x.Y.toNat+1+j]? with
 |none=>rw[z]at d;cases d
 |some w0=>
  rw[z]at d;cases d;exact Z3X l.ht<|l.lc<|Q4 r y A (.inr ⟨g,C,S⟩) z
 rw[qg λx A u=>O ⟨x,A,u⟩]at d;refine JP F.gm j w ?_;rw[ZhO D,ZhF];exact d;cases g:o.gone with
 |true=>
  obtain⟨q,u,d,Z,_,_,W⟩:=yu r y B g;obtain⟨a',n',m',P,R,Q,M,_⟩:=r.toTld.ob (k:=1) Z0 u;rw[G,L,g,Ld B<|.inl ⟨g,rfl⟩,d];refine⟨_,rfl,?_⟩;rw[Zhi rfl];refine⟨ZjD Z0,?_⟩;show(adr (Yl _ _ _).1).2=0/\_=(adr (Yl _ _ _).1).1;rw[Qm (k:=1) (a:=q.Y) l.hf l.ht Z0 ⟨Z0,by rw[TN h Z0];omega⟩<|l.ij 1];simp only;rw[V9 l.ht Z0];refine⟨rfl,?_⟩;show(YZ _ _ o).target=_;unfold YZ;rw[g,Zhi rfl];show ZC _ 1+(o.target-_)=ZC _ 1+q.Y;omega
 |false=>
  have Y:∀x∈p.at k,¬Wh x o.Y.toNat:=λx A u=>by
   have:=L3 r.toTld y B A u Z0 Z0;subst this;obtain⟨C,_⟩|⟨_,C,_⟩:=u;rw[g]at C;cases C;omega
  obtain⟨w,d,N⟩:=F.word;rw[Mg g,qg Y,g];rw[g]at N;exact⟨w,d,N⟩
def Zb0(r:Body h p)(l:LkL (Zv h)<|Zv {h with base:=base,cap:=words}){k:Int}(a:1<=k/\k<=4):
  Tiles (Zx (Xx h p base words) k) (decide (2<k)) 0 ((VA (Zv h) (Zv {h with base:=base,cap:=words}) p).at k):=by
 rw[Lf];exact Tiles.map (λo=>⟨(WP o).1,(WP o).2.1⟩) (by rw[JB a,T9]) (r.am k a) λo d=>ZaI r l a d
def Rt.mv(r:Rt h p)(m:MvOk h base words)(P:0<=base):Rt (Xx h p base words)<|VA (Zv h) (Zv {h with base:=base,cap:=words}) p:=by
 have l:=m.tp P r.be;have d:(Xx h p base words).H.length=I h.H:=T9;have z:(Xx h p base words).ae.length=I h.ae:=T9;have x:(Xx h p base words).ah.length=I h.ah:=T9;have u:(Xx h p base words).aj.length=I h.aj:=T9;refine⟨⟨⟨by rw[Jf];exact l.ht,λk A=>Zb0 r.toBody l A⟩,?_,?_,?_⟩,?_,r.ft,by rw[d];exact r.fu,λC=>by rw[d];exact r.ku C,λC=> ?_,λC o B=> ?_,λw y=> ?_⟩;intro k A R g a;rw[Lf]at g;obtain⟨o,B,rfl⟩:=Zhq.1 g;obtain⟨M,N,D,F⟩:=WP (f:=Zv h) (t:=Zv {h with base:=base,cap:=words}) o;rw[F]at a;obtain⟨q,G,Q,H,K⟩:=r.gone k A o B a;refine⟨YZ _ _ q,Zil G,?_,by rw[(WP q).2.1,N];exact H,by rw[(WP q).2.2.1,D];exact K⟩;rw[Jf,(WP q).1];unfold YZ;rw[Zhi a];show ZC _ 1+(o.target-_)=ZC _ 1+q.Y;omega;intro k A R g a j O w y;rw[Lf]at g;obtain⟨o,B,rfl⟩:=Zhq.1 g;obtain⟨M,N,D,F⟩:=WP (f:=Zv h) (t:=Zv {h with base:=base,cap:=words}) o;rw[F]at a;rw[M]at y⊢;rw[D]at O;rw[JB A,Ld B<|.inr ⟨a,Z0,Z0⟩]at y;cases n:(Zx h k)[o.Y.toNat+1+j]? with
 |none=>rw[n]at y;cases y
 |some L=>
  rw[n]at y;cases y;exact Z8t r.toBody l<|r.ptr k A o B a j O L n
 have T:=r.room;have W:=m.cap;rw[d,z];have:X4 (VA (Zv h) (Zv {h with base:=base,cap:=words}) p)=X4 p:=by
  unfold X4 VA;rw[jS,jS]
 rw[this];show _<=words;omega;show I (h.E.map _)<=16;rw[ZhM];exact r.gt;obtain⟨H,K,S⟩:=r.rest C;refine⟨by rw[d];exact H,?_,?_⟩;rw[K]at x;exact ZiQ.1 x;rw[S]at u;exact ZiQ.1 u;obtain⟨q,G,rfl⟩:=Zhq.1 (show o∈p.H.map _ from B);have:=r.lf C q G;unfold UK at this⊢;rw[Jf,(WP q).1];show Xc (p.ah.map _) _+Xc (p.aj.map _) _=1;rw[PX,PX];exact this;obtain⟨L,n,rfl⟩:=Zhq.1 (show w∈h.E.map _ from y);exact KQ r.toBody l Z0 Z0<|r.E L n
def Z6y(r:Rt h p)(m:MvOk h base words):Xn h base words=(Xx h p base words,0):=by
 unfold Xn;have:=m.b0;have:=m.w0;have:=m.w1;have:=m.cap;have:=m.bo;rw[Zhg (by rw[r.right];simp;omega),Zhg Z0,Zhg Z0,r.ei,ZhE]
end
end
section
def mu(h g:Hp)(w:Int):Int:=(Yl (Zv h) (Zv g) w).1
structure Mvd (h:Hp) (p:Pts) (g:Hp):Prop where
 ht:ZD (Zv g)=xk
 ij:∀k,Y5 (Zv g) k=Y5 (Zv h) k
 num:g.to=h.to/\g.aa=h.aa/\g.Z=h.Z
 ptr:∀k:Int,1<=k/\k<=4->∀o∈p.at k,∀i,Wh o i->∀w,(Zx h k)[i]?=J w->(Zx g k)[i]?=J (mu h g w)
 ie:∀k:Int,1<=k/\k<=4->∀i,(∀o∈p.at k,¬Wh o i)->(Zx g k)[i]?=(Zx h k)[i]?
 E:g.E=h.E.map (mu h g)
section
variable {h g:Hp}{p q:Pts}
def Body.et(r:Body h p)(s:Body h q):q=p:=by
 have w:q.H=p.H:=Tiles.np (r.am 1 Z0)<|s.am 1 Z0;have G:q.ae=p.ae:=Tiles.np (r.am 2 Z0)<|s.am 2 Z0;have key:∀k:Int,3<=k/\k<=4->q.at k=p.at k:=λk g=>(r.am k Z0).et (s.am k Z0) λo x A f u d H=>by
  obtain⟨y,z,e,D,F⟩:=r.gone k g o x u;obtain⟨B,a,C,j,l⟩:=s.gone k g A f d;rw[w]at a;have:B=y:=r.toTld.db (k:=1) Z0 z a Z0;subst this;exact⟨Z0,Z0⟩
 have n:=key 3 Z0;have t:=key 4 Z0;simp only[Pts.oz,Pts.pd]at n t;cases p;cases q;simp_all
def Md{f t d n:Ly}(l:LkL f t)(g:LkL d n)(e:∀k a,1<=k/\k<=4->0<=a->a<Y5 d k->a<Y5 f k/\ZO d k a=ZO f k a/\ZO n k a=ZO t k a){w:Int}(r:VH d w):(Yl d n w).1=(Yl f t w).1:=by
 obtain rfl|⟨k,a,j,h,rfl⟩:=r;rw[LF l.hf l.ht,LF g.hf g.ht];obtain⟨o,p,q⟩:=e k a j h.1 h.2;rw[Qm g.hf g.ht j h<|g.ij k,p,Qm l.hf l.ht j ⟨h.1,o⟩<|l.ij k];exact q
def Mvd.lk(m:Mvd h p g)(a:ZD (Zv h)=xk):LkL (Zv h)<|Zv g:=⟨a,m.ht,m.ij⟩
def Mvd.len(m:Mvd h p g){k:Int}(a:1<=k/\k<=4):I (Zx g k)=I (Zx h k):=by
 have:=m.ij k;rw[TN g a,TN h a]at this;omega
def Mvd.va(m:Mvd h p g)(a:ZD (Zv h)=xk):mu h g 0=0:=by
 unfold mu;rw[LF a m.ht]
def Mvd.rh(m:Mvd h p g)(j:ZD (Zv h)=xk){k a:Int}(f:1<=k/\k<=4)(d:0<=a/\a< I (Zx h k)):mu h g (ZO (Zv h) k a)=ZO (Zv g) k a:=by
 unfold mu;rw[Qm j m.ht f ⟨d.1,by rw[TN h f];exact d.2⟩<|m.ij k]
def Mvd.eq(m:Mvd h p g):g=Xx h p g.base g.cap:=by
 have q:Zv {h with base:=g.base,cap:=g.cap}=Zv g:=by
  have r:=m.len (k:=1) Z0;have t:=m.len (k:=2) Z0;have u:=m.len (k:=3) Z0;have x:=m.len (k:=4) Z0;simp only[WD,Rf,NX,JA]at r t u x;unfold Zv;rw[r,t,u,x,m.num.1]
 have key:∀k:Int,1<=k/\k<=4->Zx g k=Zx (Xx h p g.base g.cap) k:=λk j=>by
  rw[JB j,q];apply ZiV;intro i;by_cases e:∃o∈p.at k,Wh o i;obtain⟨o,d,f⟩:=e;rw[Ld d f];cases n:(Zx h k)[i]? with
  |none=>
   rw[ZiY]at n;rw[ZhP (by rw[m.len j];exact n)];rfl
  |some w=>rw[m.ptr k j o d i f w n];rfl
  rw[qg λo d f=>e ⟨o,d,f⟩];exact m.ie k j i λo d f=>e ⟨o,d,f⟩
 have k1:=key 1 Z0;have z:=key 2 Z0;have A:=key 3 Z0;have B:=key 4 Z0;have l:g.E=(Xx h p g.base g.cap).E:=by
  rw[m.E];show _=h.E.map λw=>(Yl (Zv h) (Zv {h with base:=g.base,cap:=g.cap}) w).1;rw[q];rfl
 obtain⟨C,D,F⟩:=m.num;have y:∀a b:Hp,a.base=b.base->a.cap=b.cap->a.to=b.to->a.aa=b.aa->a.Z=b.Z->a.H=b.H->a.ae=b.ae->a.ah=b.ah->a.aj=b.aj->a.E=b.E->a=b:=λa b=>by
  cases a;cases b;simp only
  intros
  simp[*]
 exact y _ _ rfl rfl C D F k1 z A B l
theorem Mvd.of(r:Body h p){base words:Int}(l:LkL (Zv h)<|Zv {h with base:=base,cap:=words}):Mvd h p<|Xx h p base words:=by
 have a:Zv (Xx h p base words)=Zv {h with base:=base,cap:=words}:=Jf;refine⟨by rw[a];exact l.ht,λk=>by rw[a];exact l.ij k,⟨rfl,rfl,rfl⟩,λk f o g i d w j=> ?_,λk f i d=> ?_,?_⟩;rw[JB f,Ld g d,j];unfold mu;rw[a];rfl;rw[JB f,qg d];show h.E.map _=h.E.map _;unfold mu;rw[a]
def Mvd.move(r:Body h p)(m:Mvd h p g)(a4:h.Z<=I h.H){k:Int}(A:3<=k/\k<=4){o:Ob}(H:o∈p.at k)(hg:o.gone=xw){a n:Nat}(ea:o.Y=a)(en:o.size=n)(N:((n+1:Nat):Int)<=Xt (Zv g))(a3:∀w∈h.E,VH (Zv h) w):
  Mvd (Yf h k a<|n+1) (p.mv k o (I h.H)<|ZC (Zv h) 1+I h.H) (Yf g k a<|n+1):=by
 have t:1<=k/\k<=4:=Z0;obtain⟨d,f,mm,a6,b0,em,B,b6,b5⟩:=r.toTld.ob t H;have:d=a:=Z0;subst this;have:f=n:=Z0;subst this;have C:d+(f+1)<=I (Zx g k):=by rw[m.len t];exact B
 have b:=r.move a4 A H hg ea en;have lh:=La (g:=h) A B;have lg:=La (g:=g) A C;have hL:I g.H=I h.H:=m.len (k:=1) Z0;obtain⟨m1,m2,m3,m4,m5,m6,m7,m8,m9,a5⟩:=Jk h A d<|f+1;obtain⟨g1,g2,g3,g4,g5,g6,g7,g8,g9,a0⟩:=Jk g A d<|f+1;obtain⟨e1,e2,e3,e4⟩:=Lh (p:=p) A o (I h.H)<|ZC (Zv h) 1+I h.H;have M:ZD (Zv<|Yf g k d<|f+1)=xk:=M5 m.ht A C N;have O:∀j,Y5 (Zv<|Yf g k d<|f+1) j=Y5 (Zv<|Yf h k d<|f+1) j:=λj=>by
  have:=m.ij j;rw[lh,lg,hL];unfold Y5 at this⊢;split;rfl;rename_i z;rw[Zhg z,Zhg z]at this;exact this
 have L':LkL (Zv<|Yf h k d<|f+1)<|Zv<|Yf g k d<|f+1:=⟨b.be,M,O⟩;have F:∀w,VH (Zv h) w->mu (Yf h k d<|f+1) (Yf g k d<|f+1) w=mu h g w:=λw u=>by
  refine(Md L' (m.lk r.be) (λj c hj h0 Q=>⟨?_,?_,?_⟩) u).symm;rw[lh];unfold Y5 at Q⊢;split;rename_i z;rw[Zhi z]at Q;have:(Zv h).H=I h.H:=rfl;show c< ((I h.H+(f+1):Nat):Int);omega;rename_i z;rw[Zhg z]at Q;exact Q;exact(Qr A B j c).symm;exact(Qr A C j c).symm
 have S:mu (Yf h k d<|f+1) (Yf g k d<|f+1) (ZO (Zv h) 1<|I h.H)=ZO (Zv g) 1 (I h.H):=by
  rw[<-Qr A B,<-Qr A C];unfold mu;rw[Qm b.be M Z0 ⟨Z0,?_⟩<|O 1];rw[lh];show(I h.H:Int)< ((I h.H+(f+1):Nat):Int);omega
 have wl:∀(x:Hp),d+(f+1)<=I (Zx x k)->(Yf x k d<|f+1).H=x.H++((Zx x k).take<|d+(f+1)).drop d->I x.H=I h.H->∀i,(i<I h.H->(Yf x k d<|f+1).H[i]?=x.H[i]?)/\(∀j,i=I h.H+j->j<f+1->(Yf x k d<|f+1).H[i]?=(Zx x k)[d+j]?)/\(I h.H+(f+1)<=i->(Yf x k d<|f+1).H[i]?=U):=λx l e el i=>by
  rw[e];refine⟨λq=>ZhI Z0,λj hj b4=> ?_,λq=> ?_⟩;rw[Zhy Z0,ZhF,ZhO Z0];congr 1;omega;refine ZhP ?_;simp;omega
 have X:=wl h B m1 rfl;have W:=wl g C g1 hL;have T:∀x∈p.at k,∀i,Wh x i->d<=i->i<d+(f+1)->x=o:=λx l i q z P=>L3 r.toTld t H l q Z0 Z0;have word:∀x,(Yf x k d<|f+1)=(Yf x k d<|f+1):=λ_=>rfl;have Y:∀(x:Hp),d+(f+1)<=I (Zx x k)->∀i,d<i->i<d+(f+1)->(Zx (Yf x k d<|f+1) k)[i]?=J 0:=λx l i z P=>by
  obtain⟨_,_,x3,_⟩:=Jk x A d<|f+1;rw[x3,Zin Z0];have:=Ep (ws:=Zx x k) (a:=d) (n:=f+1) (j:=i-d) Z0 l;rw[show d+(i-d)=i by omega]at this;exact this
 refine⟨M,O,⟨by rw[a0,a5];exact m.num.1,by rw[g7,m7];exact m.num.2.1,by rw[g6,m6];exact m.num.2.2⟩,λj hj x l i q w u=> ?_,λj hj i q=> ?_,?_⟩;have h4:j=1\/j=2\/j=k\/j=7-k:=Z0;by_cases j1:j=1;subst j1;rw[e1]at l;simp only[WD]at u⊢;obtain l|l:=ZhC.1 l;have b7:=Bp r.toTld (k:=1) Z0 l q;obtain⟨b1,b2,b3,a7,a8,a9,a1,_⟩:=r.toTld.ob (k:=1) Z0 l;simp only[WD]at a1;have R:i<I h.H:=Z0;rw[(X i).1 R]at u;rw[(W i).1 R];exact(m.ptr 1 Z0 x l i q w u).trans (by rw[F w<|Q4 r (k:=1) Z0 l q u]);have:=Zic.1 l;subst this;have a2:∃c,i=I h.H+(1+c)/\c<mm:=by
  obtain⟨z,_⟩|⟨_,z,P⟩:=q;cases z;simp only at z P;exact⟨i-I h.H-1,Z0,Z0⟩
 obtain⟨c,rfl,Q⟩:=a2;have K:Wh o<|d+(1+c):=.inr ⟨hg,Z0,Z0⟩;rw[(X _).2.1 (1+c) rfl Z0]at u;rw[(W _).2.1 (1+c) rfl Z0,m.ptr k t o H _ K w u,F w<|Q4 r t H K u];by_cases j2:j=2;subst j2;rw[e2]at l;simp only[Rf]at u⊢;rw[m2]at u;rw[g2];exact(m.ptr 2 Z0 x l i q w u).trans (by rw[F w<|Q4 r (k:=2) Z0 l q u]);by_cases jk:j=k;subst jk;rw[e3]at l;obtain⟨y,Z,rfl⟩:=Zhq.1 l;by_cases e:y.Y=o.Y;have:y=o:=r.toTld.db t H Z e;subst this;rw[Ux rfl]at q;have L:i=d:=by
  obtain⟨_,z⟩|⟨z,_⟩:=q;simp only at z;omega;cases z
 subst L;rw[M4 A B Z0]at u;cases u;rw[M4 A C Z0,S,hL];rw[UY e]at q;have D:i<d\/d+(f+1)<=i:=by
  by_cases z:i<d;exact .inl z;by_cases P:d+(f+1)<=i;exact .inr P;exact absurd (by rw[T y Z i q Z0 Z0]) e
 rw[Lb A Z0 A<|.inr D]at u⊢;rw[m.ptr j t y Z i q w u,F w<|Q4 r t Z q u];have:j=7-k:=Z0;subst this;rw[e4]at l;rw[m4]at u;rw[g4,m.ptr _ Z0 x l i q w u,F w<|Q4 r Z0 l q u];have h4:j=1\/j=2\/j=k\/j=7-k:=Z0;by_cases j1:j=1;subst j1;rw[e1]at q;simp only[WD];by_cases z:i<I h.H;rw[(X i).1 z,(W i).1 z];exact m.ie 1 Z0 i λx l=>q x<|Zij _ l;by_cases P:i<I h.H+(f+1);obtain⟨c,rfl⟩:∃c,i=I h.H+c:=⟨i-I h.H,Z0⟩;rw[(X _).2.1 c rfl Z0,(W _).2.1 c rfl Z0];refine m.ie k t _ λx l K=> ?_;have:=T x l _ K Z0 Z0;subst this;refine q _ (ZjL _<|.head _)<|.inr ⟨rfl,?_⟩;obtain⟨h3,_⟩|⟨_,h3,h5⟩:=K;rw[hg]at h3;cases h3;simp only;omega;rw[(X i).2.2 Z0,(W i).2.2 Z0];by_cases j2:j=2;subst j2;rw[e2]at q;simp only[Rf];rw[m2,g2];exact m.ie 2 Z0 i q;by_cases jk:j=k;subst jk;rw[e3]at q;by_cases L:i=d;subst L;exact absurd (.inl ⟨by rw[Ux rfl],by rw[Ux rfl];simp only;omega⟩)<|q _<|Zil H;by_cases G:d<i/\i<d+(f+1);rw[Y h B i G.1 G.2,Y g C i G.1 G.2];have D:i<d\/d+(f+1)<=i:=Z0;rw[Lb A Z0 A<|.inr D,Lb A Z0 A<|.inr D];refine m.ie j t i λx l K=> ?_;by_cases e:x.Y=o.Y;have:x=o:=r.toTld.db t H l e;subst this;have:=Bp r.toTld t l K;omega;have:=q _<|Zil l;rw[UY e]at this;exact this K;have:j=7-k:=Z0;subst this;rw[e4]at q;rw[m4,g4];exact m.ie _ Z0 i q;rw[g5,m5,m.E];exact Ziv λw u=>(F w<|a3 w u).symm
def Z6Z(r:Body h p){k:Int}(g:1<=k/\k<=4){o:Ob}(j:o∈p.at k)(q:o.gone=xw){i:Nat}(z:o.Y+1+o.M<=i)(h2:i<o.Y+1+o.size):∀x∈p.at k,¬Wh x i:=λx u f=>by
 obtain⟨a,n,mm,w,y,em,l,_,t⟩:=r.toTld.ob g j;have:=L3 r.toTld g j u f Z0 Z0;subst this;obtain⟨d,_⟩|⟨_,_,d⟩:=f;rw[q]at d;cases d;omega
def Mvd.be(m:Mvd h p g):Zv {h with base:=g.base,cap:=g.cap}=Zv g:=by
 have:=Zii Zv m.eq;rw[Jf]at this;exact this.symm
end
end
section
section
variable {h g:Hp}{p q:Pts}
def Mvd.room(m:Mvd h p g)(j:ZD (Zv h)=xk)(a:h.cap<=g.cap):Xt (Zv h)<=Xt (Zv g):=by
 have d:=m.len (k:=1) Z0;have f:=m.len (k:=2) Z0;simp only[WD,Rf]at d f;unfold Xt;rw[Zhi j,Zhi m.ht];show h.cap- (I h.H:Int) - (I h.ae:Int)<=g.cap- (I g.H:Int) - (I g.ae:Int);omega
theorem Mvd.fwd(r:Body h p)(m:Mvd h p g)(K:h.Z<=I h.H)(F:h.cap<=g.cap)(S:∀w∈h.E,VH (Zv h) w){u v:Int}{h':Hp}{p':Pts}(hu:Gos h p u 1 2\/Gos h p u 3 4)(f:FwdTo h p u v h' p'):
  ∃D,Vm.fwd g (mu h g u)=(mu h' D v,D,0)/\Mvd h' p' D/\D.base=g.base/\D.cap=g.cap:=by
 by_cases O:u=0;subst O;have e:=f.fwd;rw[yr r.be]at e;cases e;have:=r.et f.body;subst this;exact⟨g,by rw[m.va r.be,yr m.ht],m,rfl,rfl⟩;have T:∃k o,(1<=k/\k<=4)/\o∈p.at k/\u=ZO (Zv h) k o.Y:=by
  obtain(A|⟨k,o,j,l,e⟩)|(A|⟨k,o,j,l,e⟩):=hu;exact absurd A O;exact⟨k,o,Z0,l,e⟩;exact absurd A O;exact⟨k,o,Z0,l,e⟩
 obtain⟨k,o,j,l,rfl⟩:=T;obtain⟨a,n,mm,C,N,em,q,a3,a2⟩:=r.toTld.ob j l;have z:mu h g (ZO (Zv h) k o.Y)=ZO (Zv g) k a:=by rw[m.rh r.be j ⟨Z0,Z0⟩,C]
 by_cases X:k<=2;have e:=f.fwd;rw[r.ib ⟨j.1,X⟩ l]at e;cases e;have:=r.et f.body;subst this;refine⟨g,?_,m,rfl,rfl⟩;rw[z];exact fwd_here m.ht ⟨j.1,X⟩ ⟨Z0,by rw[m.len j];omega⟩;have d:3<=k/\k<=4:=Z0;cases t:o.gone with
 |true=>
  obtain⟨y,hy,T,ht,_⟩:=yu r j l t;obtain⟨b,bn,bm,eb,_,_,a1,_⟩:=r.toTld.ob (k:=1) Z0 hy;have e:=f.fwd;rw[r.fw d l t]at e;cases e;have:=r.et f.body;subst this;have ev:2*o.target+1=ZO (Zv h) 1 y.Y:=by unfold ZO;omega
  have L:=m.ptr k j o l _ (.inl ⟨t,rfl⟩) _ T;have W:=m.rh r.be (k:=1) (a:=y.Y) Z0 ⟨Z0,Z0⟩;rw[C,Zhm,W]at L;refine⟨g,?_,m,rfl,rfl⟩;rw[ev,z,W];exact Vm.fwd_gone m.ht d L (by rw[V9 m.ht Z0])
 |false=>
  obtain⟨f1,B⟩:=r.ej d l t C N;have e:=f.fwd;rw[f1]at e;cases e;have:=(r.move K d l t C N).et f.body;subst this;have H:=Int.le_trans B<|m.room r.be F;have M:=m.move r K d l t C N H S;obtain⟨hd,G,P⟩:=((r.am k j).bd o l).1.word;rw[Zhg (by simp[t])]at P;rw[C,Zhm]at G;have R:∀x∈p.at k,¬Wh x a:=λx hx Z=>by
   have:=L3 r.toTld j l hx Z Z0 Z0;subst this;obtain⟨A,_⟩|⟨_,A,_⟩:=Z;rw[t]at A;cases A;omega
  have Q:(Zx g k)[a]?=J hd:=by rw[m.ie k j a R];exact G
  have fg:=Vm.fwd_wait m.ht d Q (P.1<|ZjD Z0) (by rw[P.2.1,N]) (by rw[m.len j];exact q) H;obtain⟨g1,g2,g3,g4,g5,g6,g7,g8,g9,a0⟩:=Jk g d a<|n+1;refine⟨_,?_,M,g9,g8⟩;rw[z,fg];have hb:=f.body;have Y:=M3 (g:=h) d q;have:=M.rh hb.be (k:=1) (a:=I h.H) Z0 ⟨Z0,by simp only[WD];omega⟩;rw[Qr d q,Qr d (by rw[m.len j];exact q)]at this;rw[this,show I g.H=(I h.H) from m.len (k:=1) Z0]
def Mvd.vl(m:Mvd h p g){k:Int}(B:1<=k/\k<=4){i:Nat}{v v':Int}(D:((∃o∈p.at k,Wh o i)/\v'=mu h g v)\/((∀o∈p.at k,¬Wh o i)/\v'=v)):Mvd (YB h k<|(Zx h k).set i v) p<|YB g k<|(Zx g k).set i v':=by
 have F:Zv (YB h k<|(Zx h k).set i v)=Zv h:=zp (by rw[Zjt]);have C:Zv (YB g k<|(Zx g k).set i v')=Zv g:=zp (by rw[Zjt]);have z:mu (YB h k<|(Zx h k).set i v) (YB g k<|(Zx g k).set i v')=mu h g:=by unfold mu;rw[F,C]
 have q:∀(x:Hp) (l:Z6) j,1<=j/\j<=4->Zx (YB x k l) j=if j=k then l else Zx x j:=λx l j r=>by
  have n:k=1\/k=2\/k=3\/k=4:=Z0;have G:j=1\/j=2\/j=3\/j=4:=Z0;obtain rfl|rfl|rfl|rfl:=n<;>obtain rfl|rfl|rfl|rfl:=G<;>rfl
 have d:∀(x:Hp) (l:Z6),(YB x k l).to=x.to/\(YB x k l).aa=x.aa/\(YB x k l).Z=x.Z/\(YB x k l).E=x.E:=λx l=>by
  unfold YB;split;exact⟨rfl,rfl,rfl,rfl⟩;split;exact⟨rfl,rfl,rfl,rfl⟩;split<;>exact⟨rfl,rfl,rfl,rfl⟩
 refine⟨by rw[C];exact m.ht,λj=>by rw[C,F];exact m.ij j,?_,λj r o A a t w f=> ?_,λj r a t=> ?_,?_⟩;rw[(d g _).1,(d g _).2.1,(d g _).2.2.1,(d h _).1,(d h _).2.1,(d h _).2.2.1];exact m.num;rw[q h _ j r]at f;rw[q g _ j r,z];by_cases e:j=k;subst e;rw[Zhi rfl]at f⊢;rw[ZiA]at f⊢;by_cases y:i=a;subst y;rw[Zhi rfl]at f⊢;have u:v'=mu h g v:=by
  obtain⟨_,n⟩|⟨n,_⟩:=D;exact n;exact absurd t<|n o A
 rw[m.len B];split at f;rename_i H;rw[Zhi H];cases f;rw[u];cases f;rw[Zhg y]at f⊢;exact m.ptr j B o A a t w f;rw[Zhg e]at f⊢;exact m.ptr j r o A a t w f;rw[q h _ j r,q g _ j r];by_cases e:j=k;subst e;rw[Zhi rfl,Zhi rfl,ZiA,ZiA];by_cases y:i=a;subst y;rw[Zhi rfl,Zhi rfl,m.len B];have u:v'=v:=by
  obtain⟨⟨o,A,n⟩,_⟩|⟨_,n⟩:=D;exact absurd n<|t o A;exact n
 rw[u];rw[Zhg y,Zhg y];exact m.ie j B a t;rw[Zhg e,Zhg e];exact m.ie j r a t;rw[(d g _).2.2.2,(d h _).2.2.2,z];exact m.E
def Mvd.uc(m:Mvd h p g)(H:ZD (Zv h)=xk){n:Pts}(r:Body {h with ah:=[],aj:=[]} n)(C:n.H=p.H)(B:n.ae=p.ae)(u:∀w∈h.E,VH (Zv {h with ah:=[],aj:=[]}) w):Mvd {h with ah:=[],aj:=[]} n {g with ah:=[],aj:=[]}:=by
 have A:ZD (Zv {g with ah:=[],aj:=[]})=xk:=by
  obtain⟨K,L,M,N,O,⟨P,Q,R,S⟩,x⟩:=WG.1 m.ht;have:=r.be;refine WG.2 ?_;simp only[Zv]at K L M N O P Q R S x⊢;simp at*;omega
 have D:∀k,Y5 (Zv {g with ah:=[],aj:=[]}) k=Y5 (Zv {h with ah:=[],aj:=[]}) k:=λk=>by
  have:=m.ij k;unfold Y5 at this⊢;split;rename_i q;rw[Zhi q,Zhi q]at this;exact this;rename_i q;rw[Zhg q,Zhg q]at this;split;rename_i y;rw[Zhi y,Zhi y]at this;exact this;split<;>rfl
 have F:LkL (Zv {h with ah:=[],aj:=[]})<|Zv {g with ah:=[],aj:=[]}:=⟨r.be,A,D⟩;have t:∀w,VH (Zv {h with ah:=[],aj:=[]}) w->mu {h with ah:=[],aj:=[]} {g with ah:=[],aj:=[]} w=mu h g w:=λw a=>
  Md (m.lk H) F (λj c d T z=>by
   have:j=1\/j=2\/j=3\/j=4:=Z0;obtain rfl|rfl|rfl|rfl:=this;exact⟨z,rfl,rfl⟩;exact⟨z,rfl,rfl⟩;have:Y5 (Zv {h with ah:=[],aj:=[]}) 3=0:=rfl;omega;have:Y5 (Zv {h with ah:=[],aj:=[]}) 4=0:=rfl;omega) a
 refine⟨A,D,m.num,λj d o f i l w a=> ?_,λj d i l=> ?_,?_⟩;have G:=Q4 r d f l a;rw[t w G];have:j=1\/j=2\/j=3\/j=4:=Z0;obtain rfl|rfl|rfl|rfl:=this;exact m.ptr 1 d o (by show o∈p.H;rw[<-C];exact f) i l w a;exact m.ptr 2 d o (by show o∈p.ae;rw[<-B];exact f) i l w a;cases a;cases a;have:j=1\/j=2\/j=3\/j=4:=Z0;obtain rfl|rfl|rfl|rfl:=this;exact m.ie 1 d i λo f=>l o (by show o∈n.H;rw[C];exact f);exact m.ie 2 d i λo f=>l o (by show o∈n.ae;rw[B];exact f);rfl;rfl;show g.E=h.E.map _;rw[m.E];exact Ziv λw a=>(t w<|u w a).symm
end
end
end Vm
end
