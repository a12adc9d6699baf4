/-
  The law MeasureFits holds of the given program, for every input.
-/
import Derived.Deep.OwnRows
import Derived.Test.YtccfecikcmjnfaaRows
import Derived.Conc.LeavingOf
import Derived.Test.YtccfecikcmjnfaaSMeasureFits6
set_option linter.unusedSimpArgs false
set_option linter.unusedVariables false
set_option linter.defProp false
open Option renaming some→J,none→U
open Bool renaming true→xk,false→xw
open Go renaming undef→xy
open List renaming length→I
open Array renaming size→xz
open Go.World renaming heap→xj
open List renaming length→xq
open Array renaming size→xz
open Go.World renaming heap→xj
set_option maxHeartbeats 40000000
set_option maxRecDepth 100000
def Zln:=@List.eq_replicate_iff
section
namespace Vm
open Go Go.Proofs
section
section
variable {h g E:Hp}{p q s:Pts}
def Zag(r:Rt g q)(h:Rt E s){i:Nat}{w v:Int}(hw:g.H[i]?=J w)(Y:E.H=g.H.set i v)(N:E.ab=g.ab)(a0:E.E=g.E)
  (p:∀j:Nat,j<4->∀x∈s.at ((j:Int)+1),x∈q.at ((j:Int)+1)/\fstL (Zv E) ((j:Int)+1)=fstL (Zv g) ((j:Int)+1)/\(2<=j->Zw E ((j:Int)+1)=Zw g ((j:Int)+1)))
  (hv:(v=0↔w=0)/\(w≠0->U7 g w=U7 g v)/\(v=w\/WY q.H i=xk)):YD (vg E)=YD (vg g):=by
 have M:∀(j:Nat) (x:Ob),j<4->x∈s.at ((j:Int)+1)->(ZG E j x).ad=(ZG g j x).ad:=λj x T C=>by
  obtain⟨L,h2,_⟩:=p j T x C;rw[Wz h T C,Wz r T L,h2]
 have G:∀w i j:Int,(1<=i/\i<=4)->(1<=j/\j<=4)->Gos E s w i j->SU E g (λx=>x) w w:=by
  intro w i j O T S;by_cases K:w=0;exact .inl ⟨K,K⟩;obtain⟨z,y,F,_,D,_,A⟩:=h.kz O T S K;have b1:=D;rw[h.cd F]at D;have a4:=(p z F y D).1;have W:=A.trans<|M z y F D;refine .inr ⟨K,K,?_⟩;cases l:y.gone;exact⟨ZG E z y,WG.2 ⟨Xp h F D,l⟩,(SF h (Xp h F D) l A).symm,by rw[M z y F D];exact SF r (Xp r F a4) l W⟩;have b5:2<=z:=by
   by_cases hl:z<2;have:=h.ce hl b1;rw[this]at l;cases l;omega
  obtain⟨t,ht,h4,_⟩:=h.gone ((z:Int)+1) Z0 y D l;have Q:t∈s.at (((0:Nat):Int)+1):=ht;have a2:(ZG E 0 t).ad=y.target:=by rw[Wz h Z0 Q,h4];rfl
  exact⟨ZG E 0 t,WG.2 ⟨Xp h Z0 Q,h.ce (q:=0) Z0 (by rw[h.cd Z0];exact Q)⟩,by rw[SE h (Xp h F D) l A,a2];rfl,by rw[a2];exact SE r (Xp r F a4) l W⟩
 refine(E9 h r (λx=>x) (λf hf=> ?_) (λf hf f' b4 he=>he) ?_).symm;obtain⟨a5,X⟩:=WG.1 hf;obtain⟨j,x,_,T,C,rfl⟩:=Ta a5;have a9:=C;rw[h.cd Z0]at C;obtain⟨R,_,a6⟩:=p j Z0 x C;obtain⟨b,c,d,eb,ec,ed,hb,_,b3⟩:=h.toTld.ob Z0 C;have a7:=Qf h Z0 a9;have a1:=Qf r Z0 (o:=x) (by rw[r.cd Z0];exact R);have H:∀(k:Hp) (n:Nat),n<c->(ZG k j x).sl[n]?=(Zw k<|(j:Int)+1)[x.Z.toNat+1+n]? :=λk n P=>by
  rw[VI k Z0];simp only[ZG];rw[ZhY Z0,ZhM];congr 1;omega
 have a3:∀n:Nat,n<c->(ZG E j x).sl[n]?=(ZG g j x).sl[n]? \/(j=0/\x.Z.toNat+1+n=i/\(ZG E j x).sl[n]?=J v/\(ZG g j x).sl[n]?=J w):=λn P=>by
  rw[H E n P,H g n P];by_cases h2:2<=j;exact .inl (by rw[a6 h2]);by_cases L:j=1;subst L;exact .inl (by show E.ab[_]?=g.ab[_]?;rw[N]);have K:j=0:=Z0;subst K;show E.H[_]?=g.H[_]? \/(_/\_/\E.H[_]?=J v/\g.H[_]?=J w);rw[Y];by_cases O:x.Z.toNat+1+n=i;have:=(Zhj.1 hw).1;exact .inr ⟨rfl,O,by rw[O,Zix this],by rw[O,hw]⟩;exact .inl (by rw[Zin (λe=>O e.symm)])
 have Z:(ZG E j x).ob.M=x.M:=rfl;refine⟨ZG g j x,WG.2 ⟨Xp r Z0 R,X⟩,(M j x Z0 C).symm,rfl,?_,A9 (by simp only[Zil,a7,a1]) λn a b' A B=> ?_⟩;refine ZiO λn=> ?_;rw[ZhM,ZhM,Z];by_cases P:x.M.toNat+n<c;obtain e|⟨rfl,O,e1,e2⟩:=a3 _ P;exact e.symm;obtain e|e:=hv.2.2;rw[e1,e2,e];obtain⟨o,ho,g1,g2⟩:=Qm.1 e;have t1:=r.ak 1 Z0;have b0:x∈q.H:=R;obtain⟨oa,on,_,ea,en,em,_,_,b2⟩:=r.toTld.ob (k:=1) Z0 ho;obtain L|L|L:=t1.apart x b0 o ho;subst L;omega;omega;omega;rw[Zib Z0,Zib Z0];rw[Z]at A B;have P:n<x.M.toNat:=by
  have:=(Zhj.1 A).1;rw[Zil]at this;omega
 rw[ZhY P]at A B;have S:SU E g (λx=>x) a a:=by
  obtain⟨u,t,hu,ht,S⟩:=qW<|h.ptr ((j:Int)+1) Z0 x C X n Z0 a (by rw[<-H E n Z0];exact A);exact G a u t hu ht S
 obtain e|⟨_,_,e1,e2⟩:=a3 n Z0;rw[A,B]at e;cases e;exact S;rw[A]at e1;rw[B]at e2;cases e1;cases e2;obtain⟨g1,_⟩|⟨g1,_,fo,k1,k2,k3⟩:=S;exact .inl ⟨g1,hv.1.1 g1⟩;exact .inr ⟨g1,λe=>g1<|hv.1.2 e,fo,k1,k2,by rw[hv.2.1 (λe=>g1<|hv.1.2 e)];exact k3⟩;rw[a0];exact Kq λw a8=>G w 1 2 Z0 Z0<|h.E w (by rw[a0];exact a8)
def Za3(r:Rt h p)(hc:h.Y=xk){t:Pts}(S:ScanTo h p g t):YD (vg g)=YD (vg h):=by
 obtain⟨i,w,v,f,s,hi,H,eq,O,B,hh⟩:=S.via;obtain⟨a,K,hv,o⟩:Rt f s/\f.H[i]?=J w/\((v=0↔w=0)/\(w≠0->U7 f w=U7 f v)/\(v=w\/WY s.H i=xk))/\YD (vg f)=YD (vg h):=by
  obtain⟨rfl,rfl,rfl⟩|⟨hp,C,F⟩:=hh;exact⟨r,H,⟨Zjd,λ_=>rfl,.inl rfl⟩,rfl⟩;have a:=GJ r hc F.body (F.ff<|r.ff hc) F.ext;have D:=(Zhj.1 H).1;obtain⟨ws,L⟩:=F.ext.H;obtain⟨v',g',a0,⟨Z,_⟩,_,A⟩:=Z4d r C;have e:=F.fwd.symm.trans Z;simp only[Zhx]at e;obtain⟨rfl,rfl,_⟩:=e;refine⟨a,by rw[L,ZhQ D];exact H,⟨F.zero,λh0=> ?_,.inr hp⟩,A⟩;obtain⟨_,rfl,_⟩|⟨rfl,_⟩|⟨k,x,hk,d,W,N,e2⟩:=F.ei;rfl;exact absurd rfl h0;obtain⟨z,rfl,Q⟩:∃z:Nat,k=(z:Int)+1/\z<4:=⟨(k-1).toNat,Z0,Z0⟩;obtain⟨y,P,X,_⟩:=a.gone _ Z0 x d N;have l:y∈s.at (((0:Nat):Int)+1):=P;have R:(adr w).1=(ZG f z x).ad:=by
   obtain⟨_,_,_,ea,_⟩:=a.toTld.ob Z0 d;rw[Wz a Q d,W,Ut a.bd Z0]
  have T:(adr v).1=(ZG f 0 y).ad:=by
   have Y:v=ZP (Zv f) 1 y.Z:=by unfold ZP;omega
   rw[Wz a Z0 l,Y,Ut a.bd (a.toTld.ik P).1];rfl
  rw[SE a (Xp a Q d) N R,SF a (Xp a Z0 l) (a.ce (q:=0) Z0 (by rw[a.cd Z0];exact l)) T,Wz a Z0 l];exact X
 rw[<-o];have hE:g.H=f.H.set i v/\g.ab=f.ab/\g.E=f.E/\(g.Y=xk->Zv g=Zv f/\g.ah=f.ah/\g.al=f.al)/\∀j:Nat,j<2->fstL (Zv g) ((j:Int)+1)=fstL (Zv f) ((j:Int)+1):=by
  have G:Zv {f with H:=f.H.set i v,aa:=(i:Int)+1}=Zv f:=by unfold Zv;simp
  rw[eq];unfold X0;split;refine⟨rfl,rfl,rfl,λh=>ZgA,λj u=> ?_⟩;rw[<-G];have:j=0\/j=1:=Z0;obtain rfl|rfl:=this<;>rfl;exact⟨rfl,rfl,rfl,λ_=>⟨G,rfl,rfl⟩,λj u=>by rw[G]⟩
 obtain⟨d1,d2,d3,d4,M⟩:=hE;refine Zag a S.rt K d1 d2 d3 (λj u x d=> ?_) hv;cases n:g.Y with
 |true=>
  obtain⟨l1,l2,l3⟩:=d4 n;rw[B n]at d;refine⟨d,by rw[l1],λh2=> ?_⟩;have:j=2\/j=3:=Z0;obtain rfl|rfl:=this;exact l2;exact l3
 |false=>
  have:=S.rt.empty n;have u:j=0\/j=1\/j=2\/j=3:=Z0;obtain rfl|rfl|rfl|rfl:=u;exact⟨by rw[<-show s.H=s.at (((0:Nat):Int)+1)from rfl,<-O.1];exact d,M 0 Z0,λh=>Z0⟩;exact⟨by rw[<-show s.ab=s.at (((1:Nat):Int)+1)from rfl,<-O.2];exact d,M 1 Z0,λh=>Z0⟩;rw[show t.at (((2:Nat):Int)+1)=t.ah from rfl,this.1]at d;cases d;rw[show t.at (((3:Nat):Int)+1)=t.al from rfl,this.2]at d;cases d
def jw(r:Rt h p):∀k,YD (vg<|Y6 h k)=YD (vg h)
 |0=>rfl
 |k+1=>by
  rw[RC];split;rename_i a;obtain⟨q,s⟩:=r.dh k;obtain⟨d,f,S⟩:=s.rt.aa a;rw[S.eq];exact(Za3 s.rt a S).trans (jw r k);exact jw r k
end
end
section
section
variable {h g:Hp}{p q:Pts}
def Cp(h:Hp)(p:Pts)(g:Hp)(q:Pts):Prop:=∀k:Int,3<=k/\k<=4->∀(i:Nat) (o a:Ob),(p.at k)[i]?=J o->(q.at k)[i]?=J a->o.gone=xw->a.gone=xk->
 ∃t∈q.H,a.target=fstL (Zv g) 1+t.Z/\t.size=o.size/\t.M=o.M/\∀j:Nat,(j:Int)<o.size->g.H[t.Z.toNat+1+j]?=(Zw h k)[o.Z.toNat+1+j]?
def Cp.refl(h:Hp)(p:Pts):Cp h p h p:=λk j i o l f d g a=>by
 rw[f]at d;cases d;rw[g]at a;cases a
def Ez(h:Hp)(p:Pts)(g:Hp)(q:Pts):Prop:=(∀k:Int,3<=k/\k<=4->(q.at k).map (λo=>(o.Z,o.size,o.M))=(p.at k).map (λo=>(o.Z,o.size,o.M)))/\
 ∀k:Int,3<=k/\k<=4->∀(i:Nat) (o a:Ob),(p.at k)[i]?=J o->(q.at k)[i]?=J a->(o.gone=xk->a=o)/\(a.gone=xw->a=o/\∀j:Nat,(j:Int)<=o.size->(Zw g k)[o.Z.toNat+j]?=(Zw h k)[o.Z.toNat+j]?)
def Cp.move(c:Cp h p g q)(e:Ez h p g q)(r:Body g q)(P:g.aa<=I g.H){k:Int}(M:3<=k/\k<=4){o:Ob}(N:o∈q.at k)(X:o.gone=xw){a n:Nat}(ea:o.Z=a)(en:o.size=n):
  Cp h p (Yl g k a<|n+1) (q.mv k o (I g.H)<|fstL (Zv g) 1+I g.H):=by
 have ex:=r.ext P M N X ea en;obtain⟨C,F,m,a0,a1,em,a2,a5,a4⟩:=r.toTld.ob (k:=k) Z0 N;have:C=a:=Z0;subst this;have:F=n:=Z0;subst this;obtain⟨m1,_⟩:=qj g M C<|F+1;obtain⟨W,e2,e3,e4⟩:=JA (p:=q) M o (I g.H)<|fstL (Zv g) 1+I g.H;have A:fstL (Zv<|Yl g k C<|F+1) 1=fstL (Zv g) 1:=by
  have:=ex.fst 1 0<|.inl rfl;unfold ZP at this;omega
 intro j K i x T H D hx l;have Y:I (q.at j)=I (p.at j):=by have:=Zit List.length<|e.1 j K;simpa using this
 have a3:=(Zhj.1 H).1;have w:(q.at j)[i]?=J ((q.at j)[i]'Z0):=Zhi _;generalize (q.at j)[i]'Z0=y at w;rw[A];have f:y.gone=xk->T=y->∃t∈(q.mv k o (I g.H)<|fstL (Zv g) 1+I g.H).H,T.target=fstL (Zv g) 1+t.Z/\t.size=x.size/\t.M=x.M/\∀u:Nat,(u:Int)<x.size->(Yl g k C<|F+1).H[t.Z.toNat+1+u]?=(Zw h j)[x.Z.toNat+1+u]? :=λhy G=>by
  subst G;obtain⟨t,Z,c1,c2,c3,c4⟩:=c j K i x T H w hx hy;have Q:=r.toTld.ob (k:=1) Z0 Z;obtain⟨b,d,_,eb,ed,_,hb,_⟩:=Q;have O:Zw g 1=g.H:=rfl;rw[O]at hb;refine⟨t,by show t∈Pts.at _ 1;rw[W];exact ZiA _ Z,c1,c2,c3,λz S=> ?_⟩;rw[m1,ZhQ Z0];exact c4 z S
 by_cases L:j=k;subst L;rw[e3,ZhG,w,ZhL]at D;cases D;by_cases B:y.Z=o.Z;have R:y=o:=r.toTld.cx Z0 N (Zhq w) B;subst R;obtain⟨d1,d2⟩:=(e.2 j K i x y H w).2 X;refine⟨⟨I g.H,y.size,y.M,xw,0⟩,by show _∈Pts.at _ 1;rw[W];exact Zju _<|.head _,by rw[UE rfl],by rw[d1],by rw[d1],λz S=> ?_⟩;rw[<-d1]at S⊢;have:=d2 (1+z) (by rw[<-d1];omega);rw[<-d1,<-Ziw]at this;rw[<-this,m1];show(_++_)[(I g.H:Int).toNat+1+z]?=_;rw[ZhA,ZhJ Z0,ZhM,ZhY Z0];congr 1;omega;rw[Tb B]at l f⊢;exact f l rfl;have e7:j=7-k:=Z0;subst e7;rw[e4,w]at D;cases D;exact f l rfl
def Body.lq(r:Body g q)(d:g.aa<=I g.H){w v:Int}{g':Hp}{j:Pts}(f:FwdTo g q w v g' j)(l:Ez h p g q)(c:Cp h p g q):Cp h p g' j:=by
 obtain⟨rfl,rfl⟩|⟨k,o,a,n,y,z,x,t,u,rfl,rfl,_⟩:=f.uj;exact c;exact c.move l r d y z x t u
end
end
section
section
variable {h:Hp}{p:Pts}
def ET(i:Nat)(g:Hp)(q:Pts):Prop:=∀o∈q.H,∃j:Nat,j<i/\g.E[j]?=J (ZP (Zv g) 1 o.Z)
def H6(r:Rt h p)(hc:h.Y=xw):∀i,i<=xq h.E->∃q,FlipI h p i (Xk (YO h) i) q/\Cp (YO h) (TM p) (Xk (YO h) i) q/\ET i (Xk (YO h) i) q
 |0,_=>⟨TM p,⟨H5 r hc,λo g=>(by cases g),.refl _ _,rfl,λ_ _=>rfl,λj B=>Z0⟩,.refl _ _,λo g=>(by cases g)⟩
 |i+1,F=>by
  obtain⟨q,I,c,R⟩:=H6 r hc i Z0;have t:(Xk (YO h) i).aa<=(Xk (YO h) i).H.length:=by
   have:(Xk (YO h) i).aa=0:=I.ext.aa;omega
  obtain⟨v,l,D,f⟩:=I.body.fm t<|.inr<|AV r Z0 I;have y:=I.body.lq t f ⟨I.ext.is,I.ext.gone⟩ c;have C:(Xk (YO h) i).E[i]?=J h.E[i]:=by rw[I.rest i<|Zhm _];exact Zhi Z0
  have H:=I.len;have z:=f.ext.E;have w:∀a,ZP (Zv l) 1 a=ZP (Zv<|Xk (YO h) i) 1 a:=λa=>f.ext.fst 1 a<|.inl rfl;have A:Xk (YO h) (i+1)= {l with E:=(Xk (YO h) i).E.set i v}:=by
   show Se (Xk (YO h) i) i=_;unfold Se;rw[C,ZhP,f.fwd,z]
  refine⟨D,H9 r Z0 I f,?_,?_⟩<;>rw[A];exact y;intro o g;have u:o∈q.H->∃j:Nat,j<i+1/\((Xk (YO h) i).E.set i v)[j]?=J (ZP (Zv l) 1 o.Z):=λd=>by
   obtain⟨j,B,e⟩:=R o d;refine⟨j,Z0,?_⟩;rw[Zin Z0,e,w]
  have:o∈q.H\/ZP (Zv l) 1 o.Z=v:=by
   obtain⟨_,rfl⟩|⟨k,x,a,n,G,_,_,_,_,_,rfl,rfl⟩:=f.uj;exact .inl g;rw[w];obtain d|d:=ZhO.1 g;exact .inl d;rw[Zim.1 d];exact .inr rfl
  obtain d|d:=this;exact u d;refine⟨i,Z0,?_⟩;show((Xk (YO h) i).E.set i v)[i]?=J (ZP (Zv l) 1 o.Z);rw[Zix Z0,d]
end
end
section
section
variable {h g:Hp}{p q:Pts}
def Gd{G}(d:∀x∈G.E,x= -1):YD G=⟨[],G.E⟩:=by
 have g:=Z7C λx a=>by rw[d x a];omega
 have f:WZ [] G.E=G.E:=by
  conv=>rhs;rw[<-Zlz G.E]
  refine ZiM λx a=> ?_;rw[d x a];rfl
 simp[YD,g,f]
def Li(F:Hp)(A:Int):Int:=(Y3 (Yd F).tm A).getD A
def JT F w:U7 F w=Li F (adr w).1:=rfl
def Z46(r:Rt h p)(hc:h.Y=xw):∃g q,FlipI h p (xq h.E) g q/\YT h=WF g/\ET (xq h.E) g q/\YD (vg<|WF g)=YD (vg h):=by
 obtain⟨q,I,c,R⟩:=H6 r hc (xq h.E) Z0;have hF:YT h=WF (Xk (YO h)<|xq h.E):=rfl;obtain⟨s,hz⟩:=AT r hc I;refine⟨_,q,I,hF,R,?_⟩;clear hF R;generalize Xk (YO h) (xq h.E)=g at*;obtain⟨_,a7,a5⟩:=r.rest hc;by_cases h0:0<xq g.H;case neg=>
  obtain⟨_,_,_,e4⟩:=hz h0;have f1:∀w∈h.E,w=0:=λw hw=>by
   obtain⟨j,B⟩:=ZhI hw;have a4:=(Zhj.1 B).1;have c8:j<xq g.E:=by rw[I.len];exact a4
   obtain⟨_,a0⟩:=I.te j a4 w _ B<|Zhi c8;have:=e4 _<|ZhE c8;obtain⟨h1,_⟩|⟨k,o,hk,ho,_,M,e⟩:=a0;exact h1;omega
  have S:(WF g).E=g.E:=by unfold WF;split<;>rfl
  have z1:(vg h).E=List.replicate (xq h.E) (-1):=by
   refine Zln.2 ⟨by simp[vg,Vw.gr],λx d=> ?_⟩;simp only[vg,Vw.gr,ZhC]at d;obtain⟨w,hw,rfl⟩:=d;rw[f1 w hw];simp[Vw.cz]
  have z2:(vg<|WF g).E=List.replicate (xq h.E) (-1):=by
   refine Zln.2 ⟨by simp[vg,Vw.gr,S,I.len],λx d=> ?_⟩;simp only[vg,Vw.gr,ZhC,S]at d;obtain⟨w,hw,rfl⟩:=d;rw[e4 w hw];simp[Vw.cz]
  rw[Gd (G:=vg h) λx d=>by rw[z1]at d;exact(Zkf.1 d).2,Gd (G:=vg<|WF g) λx d=>by rw[z2]at d;exact(Zkf.1 d).2,z1,z2]
 rw[Zht h0]at s;have eF:WF g= {g with Y:=xk}:=by unfold WF;rw[Zht h0]
 rw[eF]at s⊢;obtain⟨F,Z⟩:∃F:Hp,F= {g with Y:=xk}:=⟨_,rfl⟩;rw[<-Z]at s⊢;have f7:F.H=g.H:=by rw[Z]
 have Q:F.E=g.E:=by rw[Z]
 have O:Zv F=Zv g:=by rw[Z];rfl
 have Y:∀k,Zw F k=Zw g k:=λk=>by rw[Z];rfl
 have f2:∀j:Nat,j<2->fstL (Zv F) (((j+2:Nat):Int)+1)=fstL (Zv h) ((j:Int)+1):=λj B=>by
  have T:=I.ext.fst (((j+2:Nat):Int)+1) 0 Z0;have X:=AW h ((j:Int)+1) 0 Z0;rw[show(j:Int)+1+2=((j+2:Nat):Int)+1 by omega]at X;rw[O];have e3:ZP (Zv g) (((j+2:Nat):Int)+1) 0=ZP (Zv {g with E:=h.E}) (((j+2:Nat):Int)+1) 0:=rfl;unfold ZP at T X e3;omega
 have f0:∀j:Nat,j<2->Zw (YO h) (((j+2:Nat):Int)+1)=Zw h ((j:Int)+1)/\(TM p).at (((j+2:Nat):Int)+1)=p.at ((j:Int)+1):=λj B=>by
  have:j=0\/j=1:=Z0;obtain rfl|rfl:=this<;>exact⟨rfl,rfl⟩
 have a6:∀(j:Nat) (x:Ob),j<2->x∈p.at ((j:Int)+1)->∃D,D∈q.at (((j+2:Nat):Int)+1)/\D.Z=x.Z/\(ZG F (j+2) D).ad=(ZG h j x).ad/\
   ((D.gone=xw/\D=x/\(ZG F (j+2) D).sl=(ZG h j x).sl)\/(D.gone=xk/\∃t∈q.at (((0:Nat):Int)+1),(ZG F 0 t).ad=D.target/\t.M=x.M/\(ZG F 0 t).sl=(ZG h j x).sl)):=by
  intro j x B d;obtain⟨a,n,m,ea,en,em,e5,_⟩:=r.toTld.ob Z0 d;obtain⟨i,W⟩:=ZhI d;obtain⟨p1,p2⟩:=f0 j B;have a3:((TM p).at<|((j+2:Nat):Int)+1)[i]?=J x:=by rw[p2];exact W
  have f5:x.gone=xw:=r.ce B (by rw[r.cd Z0];exact d);have d6:=I.ext.is (((j+2:Nat):Int)+1) Z0;have f8:xq (q.at<|((j+2:Nat):Int)+1)=xq ((TM p).at<|((j+2:Nat):Int)+1):=by have:=Zit List.length d6;simpa using this
  have b4:=(Zhj.1 a3).1;have hq:(q.at<|((j+2:Nat):Int)+1)[i]?=J ((q.at<|((j+2:Nat):Int)+1)[i]'Z0):=Z1;generalize (q.at<|((j+2:Nat):Int)+1)[i]'Z0=D at hq;have a1:=Zit (λl=>l[i]?) d6;simp only[ZhG,hq,a3,ZhL,Zhh,Zhx]at a1;obtain⟨q1,q2,q3⟩:=a1;have hm:=Zhq hq;have K:(ZG F (j+2) D).ad=(ZG h j x).ad:=by
   rw[Wz s Z0 hm,Wz r Z0 d,f2 j B,q1]
  refine⟨D,hm,q1,K,?_⟩;cases M:D.gone;obtain⟨d1,d2⟩:=(I.ext.gone (((j+2:Nat):Int)+1) Z0 i x D a3 hq).2 M;subst d1;refine .inl ⟨rfl,rfl,?_⟩;simp only[ZG];rw[<-VI _ Z0,<-VI _ Z0,Y];refine ZiO λz=> ?_;simp only[ZhV,ZhM];split;have:=d2 (1+z) Z0;rw[p1]at this;rw[show(D.Z+1).toNat+z=D.Z.toNat+(1+z)by omega];exact this;rfl;obtain⟨t,H,c1,c2,c3,c4⟩:=c (((j+2:Nat):Int)+1) Z0 i x D a3 hq f5 M;have f9:=(I.body.toTld.ik H).1;refine .inr ⟨rfl,t,H,?_,c3,?_⟩;rw[Wz s Z0 H,O,c1];rfl;simp only[ZG];rw[<-VI _ Z0,<-VI _ Z0,Y,c2];refine ZiO λz=> ?_;simp only[ZhV,ZhM];split;have:=c4 z Z0;rw[p1]at this;rw[show(x.Z+1).toNat+z=x.Z.toNat+1+z by omega,show(t.Z+1).toNat+z=t.Z.toNat+1+z by omega];exact this;rfl
 have b7:∀f∈(Yd h).ns,∃(j:Nat) (x:Ob),j<2/\x∈p.at ((j:Int)+1)/\f=ZG h j x:=λf hf=>by
  obtain⟨e7,_⟩:=WG.1 hf;obtain⟨j,x,_,B,d,rfl⟩:=Ta e7;rw[r.cd Z0]at d;refine⟨j,x,?_,d,rfl⟩;by_cases b6:j<2;exact b6;have H:=r.ak ((j:Int)+1) Z0;have b8:Zw h ((j:Int)+1)=[]:=by
   have:j=2\/j=3:=Z0;obtain rfl|rfl:=this;exact a7;exact a5
  rw[b8]at H;rw[H.nil]at d;cases d
 have e8:∀(j:Nat) (x:Ob),j<2->x∈p.at ((j:Int)+1)->ZG h j x∈(Yd h).ns:=λj x B d=>WG.2 ⟨Xp r Z0 d,r.ce B (by rw[r.cd Z0];exact d)⟩;have L:∀A:Int,1<=A->(adr<|2*A+1).1=A:=λA hA=>by
  unfold adr;rw[Zhs Z0,Zhs Z0];show(2*A+1) / 2=A;omega
 have a8:∀(j:Nat) (x:Ob),j<2->x∈p.at ((j:Int)+1)->1<=(ZG h j x).ad:=λj x B d=>by
  obtain⟨a,_,_,ea,_⟩:=r.toTld.ob Z0 d;rw[Wz r Z0 d];have:=WP r.bd (k:=(j:Int)+1);omega
 have d5:∀(j:Nat) (x:Ob),j<2->x∈p.at ((j:Int)+1)->∃f'∈(Yd F).ns,f'.ad=Li F (ZG h j x).ad/\f'.ob.M=x.M/\f'.sl=(ZG h j x).sl:=by
  intro j x B d;obtain⟨D,a2,_,K,hh⟩:=a6 j x B d;have hA:=a8 j x B d;obtain⟨M,rfl,d7⟩|⟨M,t,H,T,X,e3⟩:=hh;refine⟨ZG F (j+2) D,WG.2 ⟨Xp s Z0 a2,M⟩,?_,rfl,d7⟩;have:=SF s (Xp s Z0 a2) M (w:=2*(ZG h j D).ad+1) (by rw[L _ hA,K]);rw[JT,L _ hA]at this;exact this.symm;refine⟨ZG F 0 t,WG.2 ⟨Xp s Z0 H,s.ce (q:=0) Z0 (by rw[s.cd Z0];exact H)⟩,?_,X,e3⟩;have:=SE s (Xp s Z0 a2) M (w:=2*(ZG h j x).ad+1) (by rw[L _ hA,K]);rw[JT,L _ hA]at this;rw[this,T];rfl
 have a9:∀w i j:Int,(1<=i/\i<=4)->(1<=j/\j<=4)->Gos h p w i j->w=0\/∃f∈(Yd h).ns,(adr w).1=f.ad/\f.ad=U7 h w:=λw i j W B hG=>by
  by_cases C:w=0;exact .inl C;obtain⟨z,y,hz,_,hy,_,ha⟩:=r.kz W B hG C;have N:=hy;rw[r.cd hz]at N;have c0:z<2:=by
   by_cases b6:z<2;exact b6;have H:=r.ak ((z:Int)+1) Z0;have b8:Zw h ((z:Int)+1)=[]:=by
    have:z=2\/z=3:=Z0;obtain rfl|rfl:=this;exact a7;exact a5
   rw[b8]at H;rw[H.nil]at N;cases N
  exact .inr ⟨_,e8 z y c0 N,ha,(SF r (Xp r hz N) (r.ce c0 hy) ha).symm⟩
 refine E9 r s (Li F) (λf hf=> ?_) (λf hf f' b3 he=> ?_) (A9 (by rw[Q,I.len]) λj w v hw hv=> ?_);obtain⟨j,x,B,d,rfl⟩:=b7 f hf;obtain⟨f',b3,T,X,e3⟩:=d5 j x B d;refine⟨f',b3,T,X,by rw[e3],?_⟩;rw[e3];refine Kq λw f4=> ?_;have d9:x∈obP h j:=by rw[r.cd Z0];exact d
 obtain⟨a,n,m,ea,en,em,e5,_⟩:=r.toTld.ob Z0 d;obtain⟨i,W⟩:=ZhI f4;have b4:=(Zhj.1 W).1;rw[Zil]at b4;have e9:(ZG h j x).ob.M=x.M:=rfl;rw[e9]at W b4;rw[ZhY Z0]at W;have d7:=Qf r Z0 d9;have d8:(Zw h<|(j:Int)+1)[x.Z.toNat+1+i]?=J w:=by
  rw[VI h Z0];simp only[ZG]at W;rw[ZhY Z0,ZhM]at W;rw[<-W];congr 1;omega
 obtain⟨u,v,hu,hv,hG⟩:=qW<|r.ptr ((j:Int)+1) Z0 x d (r.ce B d9) i Z0 w d8;obtain rfl|⟨f,hf,ha,hr⟩:=a9 w u v hu hv hG;exact .inl ⟨rfl,rfl⟩;by_cases C:w=0;exact .inl ⟨C,C⟩;exact .inr ⟨C,C,f,hf,hr,by rw[JT,ha]⟩;obtain⟨j,x,B,d,rfl⟩:=b7 f hf;obtain⟨j',D,b5,a2,rfl⟩:=b7 f' b3;have b0:∀(j:Nat) (x:Ob),j<2->x∈p.at ((j:Int)+1)->∃y,y∈q.at (((j+2:Nat):Int)+1)/\(ZG F (j+2) y).ad=(ZG h j x).ad/\((y.gone=xw/\Li F (ZG h j x).ad=(ZG h j x).ad)\/(y.gone=xk/\Li F (ZG h j x).ad=y.target/\∃t∈q.at (((0:Nat):Int)+1),(ZG F 0 t).ad=y.target)):=by
  intro j x B d;obtain⟨y,hy,_,K,hh⟩:=a6 j x B d;have hA:=a8 j x B d;refine⟨y,hy,K,?_⟩;obtain⟨M,rfl,_⟩|⟨M,t,H,T,_⟩:=hh;have:=SF s (Xp s Z0 hy) M (w:=2*(ZG h j y).ad+1) (by rw[L _ hA,K]);rw[JT,L _ hA,K]at this;exact .inl ⟨M,this⟩;have:=SE s (Xp s Z0 hy) M (w:=2*(ZG h j x).ad+1) (by rw[L _ hA,K]);rw[JT,L _ hA]at this;exact .inr ⟨M,this,t,H,T⟩
 obtain⟨y,hy,e0,f6⟩:=b0 j x B d;obtain⟨y',N,b2,b1⟩:=b0 j' D b5 a2;have d0:∀(i:Nat) (z t:Ob),i<2->z∈q.at (((i+2:Nat):Int)+1)->t∈q.at (((0:Nat):Int)+1)->(ZG F (i+2) z).ad≠(ZG F 0 t).ad:=λi z t W hz H=>KR s Z0 Z0 (by rw[s.cd Z0];exact hz) (by rw[s.cd Z0];exact H) Z0;obtain⟨g1,n1⟩|⟨g1,n1,t,H,T⟩:=f6;obtain⟨g2,n2⟩|⟨g2,n2,t',P,X⟩:=b1;rw[<-n1,he,n2];exact(d0 j y t' B hy P<|by rw[e0,<-n1,he,n2,X]).elim;obtain⟨g2,n2⟩|⟨g2,n2,t',P,X⟩:=b1;exact(d0 j' y' t b5 N H<|by rw[b2,<-n2,<-he,n1,T]).elim;have f3:y.target=y'.target:=by rw[<-n1,he,n2]
 have hR:∀(i:Nat) (z:Ob),i<2->z∈q.at (((i+2:Nat):Int)+1)->z.gone=xk->Res g q (ZP (Zv g) (((i+2:Nat):Int)+1) z.Z) (2*z.target+1):=λi z W hz M=>.inr ⟨_,z,Z0,hz,rfl,M,rfl⟩;have:=Res.inj I.body I.ff (hR j y B hy g1) (by rw[f3];exact hR j' y' b5 N g2);rw[<-e0,<-b2,Wz s Z0 hy,Wz s Z0 N,O];unfold ZP at this;omega;rw[Q]at hv;have a4:=(Zhj.1 hw).1;obtain⟨_,a0⟩:=I.te j a4 w v hw hv;obtain⟨h1,h2⟩|⟨k,o,hk,ho,T,M,X⟩:=a0;exact .inl ⟨h1,h2⟩;obtain⟨z,rfl,c0⟩:∃z:Nat,k=((z+2:Nat):Int)+1/\z<2:=⟨(k-3).toNat,Z0,Z0⟩;have C:w≠0:=by
  rw[T];exact I.body.toTld.vc Z0 ho
 obtain h1|⟨f,hf,ha,hr⟩:=a9 w 1 2 Z0 Z0<|r.E w<|Zhq hw;exact(C h1).elim;refine .inr ⟨C,Z0,f,hf,hr,?_⟩;obtain⟨t,H,c1,_⟩:=I.body.gone _ Z0 o ho M;have P:t∈q.at (((0:Nat):Int)+1):=H;have b9:(ZG F 0 t).ad=o.target:=by rw[Wz s Z0 P,O,c1];rfl
 have hT:1<=o.target:=by
  rw[<-b9,Wz s Z0 P];obtain⟨b,_,_,eb,_⟩:=s.toTld.ob Z0 P;have:=WP s.bd (k:=((0:Nat):Int)+1);omega
 have e6:(adr w).1=(ZG F (z+2) o).ad:=by
  rw[T,I.body.toTld.kw Z0 ho,Wz s Z0 ho,O]
 have h3:=SE s (Xp s Z0 ho) M e6;have h4:=SF s (Xp s Z0 P) (s.ce (q:=0) Z0 (by rw[s.cd Z0];exact P)) (w:=v) (by rw[X,L _ hT,b9]);rw[h4,b9,<-ha,<-JT,h3];rfl
end
end
section
section
variable {h g F:Hp}{p q:Pts}
def Rt.ua(s:Rt F q)(hc:F.Y=xw):YF q=0:=by
 obtain⟨_,a,d⟩:=s.rest hc;have f:=(s.ak 3 Z0).sum<|Zis _;have g:=(s.ak 4 Z0).sum<|Zis _;have j:=Ej q.ah;have k:=Ej q.al;have h:YF q=Y1 q.ah+Y1 q.al:=rfl;simp only[CF,Lw,Pts.lg,Pts.lh,a,d,Ziu]at f g;omega
end
end
end Vm
end
section

end
section
namespace Vm
open Go Go.Proofs
def Z0U(a:RV){h:Hp}{p:Pts}(d:h.ok)(r:Rt h p):VC (Yi Try.prog) 14 xw [ZE h]<|.am [ZE<|Y6 h 9223372036854775807,vi 0]:=by
 have:=Z0V a d;unfold ym at this;rw[Zhs (by rw[r.right];simp)]at this;exact up this (Qy<|Tk h)<|Z6W _ _
end Vm
end
section
namespace Vm
open Go Go.Proofs Go.RowKit
def Zbb(w:Z3)(d a:Obj):((w.alloc d).alloc a).heap[xz (xj w)+1]?=J a:=by
 have:=ZhT (w.alloc d) a;rwa[Zjp]at this
def Z7M{w:Z3}{B g cap n:Nat}{e:Zf}{z:Nat}{xs:Zm}(h:w.ownsRow B e z (.slice (J ⟨g,0,U⟩) n cap) n xs)(o:0<n){i:Nat}:w.frozen? ⟨g,i,U⟩=xw:=by
 obtain⟨f,_⟩|⟨l,a,d,j,_,k,_⟩:=h.2;cases f;cases j;exact Yp k
end Vm
end
section
namespace Vm
open Go Go.Proofs
def Na:Fn:=⟨5,[0,1,2,3,6],pQ [pR [(1,pS 0 2),pV 2<|pU 0,pV 3<|pI 0],pQ [pC [pK 5 38 [.mm 1 0 2]] [pV 4<|.un .not<|.s 5]]<|pw (.s 4)<|px [pV 2<|pU 0,pV 3<|pI 1]]<|px [pV 2<|pa (.bo .shl (.conv .u64<|.m 1 0)<|pU 1)<|.bo .shl (.conv .u64<|.m 1 1)<|pU 17,pV 3<|pI 0],[(2,.v),(3,.v)]⟩
def c18:ZY [.fz] Try.f18=J Na:=Z2
def Nb:Fn:=⟨4,[0,1,2,4],pQ [pR [(2,pS 0 10),pV 3 pF],pC [pK 4 15 [.mm 2 0 10]] [pV 3<|pL (pa (pa (pa (.len<|.m 2 5)<|.len<|.m 2 6)<|.s 4)<|.s 1)<|.m 2 1]] .ret,[(3,.v)]⟩
def c20:ZY [.fz,.fz] Try.f20=J Nb:=Z2
def Z4r{s p:Int}:VC xP 18 xw [WT s p]<|.am [vu (Xu s p).1,vi (Xu s p).2]:=by
 refine ZR F0 follows Z2 c18 rfl ?_;simp[Na];refine Zz Dj Z1 ?_;cases h:YC s p;simp[Xu,h];obtain⟨q,r,t,u⟩:=Yy.1 h;have a:=ZS s Z0 Z0;have d:=ZS p Z0 Z0;have n:(2:Int) ^ min 1 IntKind.u64.bits=2:=ZgB;have o:(2:Int) ^ min 17 IntKind.u64.bits=131072:=ZgB;have f:=ZS (p*131072) Z0 Z0;have g:=ZS (s*2) Z0 Z0;have j:=ZS (s*2+p*131072) Z0 Z0;have k:s*2+p*131072=2*(s+65536*p):=Z0;have l:=ZS (2*(s+65536*p)) Z0 Z0;simp[Xu,h,Xd,a,d,n,o,f,g,j,k,l]
def X6(h:Hp)(p:Pts)(n:Int):Bool:=decide ((I h.H:Int)+I h.ab+YF p+n<=h.cap)
def Rt.na{h:Hp}{p:Pts}(r:Rt h p):h.cap<=4096:=by
 exact(XO.1 r.bd).2.1
def Z9x{h:Hp}(g:h.ok){p:Pts}(r:Rt h p){n:Int}(l:0<=n/\n<=1000):VC xP 20 xw [ZE h,vi n]<|.bool<|X6 h p n:=by
 refine ZR F2 follows Z2 c20 rfl ?_;have k1:=Ey g;rw[r.nr]at k1;have j:=r.room;have k:=r.na;simp only[ZE]at k1⊢;simp[Nb];refine Zz k1 Z1 ?_;have a:=Zy ((I h.H:Int)+I h.ab) Z0 Z0;have d:=Zy ((I h.H:Int)+I h.ab+(YF p:Nat)) Z0 Z0;have f:=Zy ((I h.H:Int)+I h.ab+(YF p:Nat)+n) Z0 Z0;simp[a,d,f,X6]
end Vm
end
section
namespace Vm
open Go Go.Proofs Go.RowKit
def Z4A{W:Z3}{G:Z4}{g:Hp}{e:Int}{v:Ze}(r:Rd W G (.am [ZE g,vi e]) v):∃x,v=.tuple #[ZC g x,.int .i64 e]/\∀j,j<5->Rd W G (.sl<|(Zu g j).map vu) (x j):=by
 cases r with
 |am _ vs l h=>
  obtain⟨x,d,n⟩:=yI<|h 0 _ rfl;have f:=Sw<|h 1 _ rfl;refine⟨x,?_,n⟩;congr 1;have a:vs.size=2:=Zhf;apply ZjR;simp[a];intro i o p;have k:i<2:=Z0
  match i,k with
  |0,_=>simp[Array.getD,a]at d;simpa using d
  |1,_=>simp[Array.getD,a]at f;simpa using f
def Z14(G:Z4)(W:Z3)(r:Hp×Int)(e:Ending)(W':Z3):Prop:=
 ∃x,e=.returned (.tuple #[ZC r.1 x,.int .i64 r.2])/\Below (xz<|xj W) W W'/\∀j,j<5->Rd W' (λc=>G c\/(xz (xj W)<=c/\c<xz (xj W'))) (.sl<|(Zu r.1 j).map vu) (x j)
def Z4z{f:Zp}{h g:Hp}{k n:Int}(l:VC xP f xw [ZE h,vi k]<|.am [ZE g,vi n]){W:Z3}{G:Z4}{x:Z5}(o:∀b,G b->b<xz (xj W))(r:∀j,j<5->Rd W G (.sl<|(Zu h j).map vu) (x j)):
  Calls xP f #[ZC h x,.int .i64 k] W (Z14 G W (g,n)):=by
 refine ZjX (l.2 W G _ o rfl ?_) ?_;intro i y a
 match i,a with
 |0,a=>cases a;exact Jn r
 |1,a=>cases a;exact .int _ _
 rintro e w ⟨v,rfl,p,l⟩;obtain⟨u,rfl,t⟩:=Z4A l;exact⟨u,rfl,p,λj q=>(t j q).mono λb d=>Zgz⟩
def OY{h:Hp}(k:h.ok){p:Pts}(r:Rt h p){n:Int}(l:0<=n/\n<=1000){W:Z3}{G:Z4}{x:Z5}(f:∀b,G b->b<xz (xj W))(o:∀j,j<5->Rd W G (.sl<|(Zu h j).map vu) (x j)):
  Calls xP 20 #[ZC h x,.int .i64 n] W λe d=>e=.returned (.bool<|X6 h p n)/\Below (xz<|xj W) W d:=by
 refine ZjX ((Z9x k r l).2 W G _ f rfl ?_) ?_;intro i y a
 match i,a with
 |0,a=>cases a;exact Jn o
 |1,a=>cases a;exact .int _ _
 rintro e d ⟨v,rfl,g,q⟩;exact⟨by rw[Dc q],g⟩
def NU{s p:Int}(w:Z3):Calls xP 18 #[.agg #[.int .i64 s,.int .i64 p]] w λe a=>e=.returned (.tuple #[.int .u64 (Xu s p).1,.int .i64 (Xu s p).2])/\Below (xz<|xj w) w a:=
 TC (Z4r (s:=s) (p:=p)) rfl rfl w
def VH(g:Hp)(x:Z5):Array Value:=#[.int .u64 g.base,.int .i64 g.cap,.int .i64 g.to,.bool g.Y,.int .i64 g.aa,x 0,x 1,x 2,x 3,x 4]
structure PSt (w W:World) (nb:Nat) (g:Hp) (x:Nat->Value) (Q:Prop):Prop where
 ei:W.heap[xz (xj w)+2]?=J (.cells ZX 30 (0,0))
 dq:W.heap[nb]?=J (.cells (VH g x) 30 (0,0))
 rd:∀j,j<5->Rd W (λc=>xz (xj w)+3<=c/\c<xz (xj W)/\c≠nb) (.sl<|(Zu g j).map vu) (x j)
 cm:Below (xz<|xj w) w W
 nB:xz (xj w)+3<=nb
 own:Q->HOwn (xz (xj w)+3) W g x/\∀j,j<5->∀c,(x j).ownBlock=J c->c≠nb
def PSt.below{w W W':Z3}{h:Nat}{g:Hp}{x:Z5}{Q:Prop}(s:PSt w W h g x Q)(a:Below (xz<|xj W) W W'):PSt w W' h g x Q:=by
 have k:=Y7 s.dq;have l:=Y7 s.ei;have o:=a.size;refine⟨(a.block _ l).trans s.ei,(a.block _ k).trans s.dq,λj d=>((s.rd j d).keep (λb f=>a.block b f.2.1) λ_ q=>q).mono λb q=>⟨q.1,Z0,q.2.2⟩,s.cm.trans<|a.mono s.cm.size,s.nB,λq=>⟨⟨λj d=>XM ((s.own q).1.own j d) λc n=>a.block _ (((s.own q).1.own j d).lt c n).2,(s.own q).1.apart⟩,(s.own q).2⟩⟩
def PSt.F{w W:Z3}{a:Nat}{g:Hp}{x:Z5}{Q:Prop}(s:PSt w W a g x Q):(∀j,W.cell? ⟨a,j,U⟩=(#[.int .u64 g.base,.int .i64 g.cap,.int .i64 g.to,.bool g.Y,.int .i64 g.aa,x 0,x 1,x 2,x 3,x 4]:Array Value)[j]?)/\∀j,W.frozen? ⟨a,j,U⟩=xw:=
 ⟨λj=>Zhv _ _ _ _ _ _ s.dq,λj=>Yp s.dq⟩
def PSt.R{w W:Z3}{a:Nat}{g:Hp}{x:Z5}{Q:Prop}(s:PSt w W a g x Q):(∀j,W.cell? ⟨xz (xj w)+1+1,j,U⟩=(#[.int .u64 0,.int .i64 0,.int .i64 0,.bool xw,.int .i64 0,.slice U 0 0,.slice U 0 0,.slice U 0 0,.slice U 0 0,.slice U 0 0]:Array Value)[j]?)/\∀j,W.frozen? ⟨xz (xj w)+1+1,j,U⟩=xw:=
 ⟨λj=>Zhv _ _ _ _ _ _ s.ei,λj=>Yp s.ei⟩
def UL(W:Z3)(b:Nat)(v0 v1 a d v4 f v6 g h j:Ze):World:=(((((((((W.setCell ⟨b,0,U⟩ v0).setCell ⟨b,1,U⟩ v1).setCell ⟨b,2,U⟩ a).setCell ⟨b,3,U⟩ d).setCell ⟨b,4,U⟩ v4).setCell ⟨b,5,U⟩ f).setCell ⟨b,6,U⟩ v6).setCell ⟨b,7,U⟩ g).setCell ⟨b,8,U⟩ h).setCell ⟨b,9,U⟩ j
def Z8B{W:Z3}{a:Nat}{g:Hp}{x:Z5}{T:Zf}(d:W.heap[a]?=J (.cells (VH g x) T (0,0)))(v0 v1 f h v4 j v6 k l n:Ze):(UL W a v0 v1 f h v4 j v6 k l n).heap[a]?=J (.cells #[v0,v1,f,h,v4,j,v6,k,l,n] T (0,0)):=by
 unfold VH at d;unfold UL;simp[World.setCell,ZhW,d]
def Oi(W:Z3)(a:Nat)(v0 v1 d f v4 g v6 h j k:Ze):xz (xj<|UL W a v0 v1 d f v4 g v6 h j k)=xz (xj W):=by
 unfold UL;simp[World.setCell]
def PSt.store{w W d:Z3}{f:Nat}{g g2:Hp}{x a:Z5}{Q:Prop}(s:PSt w W f g x Q)(l:Below (xz<|xj W) W d)
  (p:∀j,j<5->Rd d (λc=>(xz (xj w)+3<=c/\c<xz (xj W)/\c≠f)\/(xz (xj W)<=c/\c<xz (xj d))) (.sl<|(Zu g2 j).map vu) (a j)):
  PSt w (UL d f (.int .u64 g2.base) (.int .i64 g2.cap) (.int .i64 g2.to) (.bool g2.Y) (.int .i64 g2.aa) (a 0) (a 1) (a 2) (a 3)<|a 4) f g2 a False:=by
 have k:=s.below l;have t:=Y7 s.dq;have u:=l.size;have r:=s.cm.size;have o:=s.nB;refine⟨(UM Z0).trans k.ei,Z8B k.dq _ _ _ _ _ _ _ _ _ _,λj n=>((p j n).keep (λb h=> ?_) λ_ q=>q).mono λb q=> ?_,Vq k.cm Z0,o,λq=>q.elim⟩;exact UM (by obtain q|q:=h<;>omega);rw[Oi];obtain q|q:=q;exact⟨q.1,Z0,q.2.2⟩;exact⟨Z0,q.2,Z0⟩
def SW(w:Z3)(r:Int×Hp×Int)(Q:Prop)(e:Ending)(w':Z3):Prop:=
 ∃x,e=.returned (.tuple #[.int .u64 r.1,ZC r.2.1 x,.int .i64 r.2.2])/\Below (xz<|xj w) w w'/\(∀j,j<5->Rd w' (λc=>xz (xj w)<=c/\c<xz (xj w')) (.sl<|(Zu r.2.1 j).map vu) (x j))/\(Q->HOwn (xz<|xj w) w' r.2.1 x)
def Vp(g:Hp)(wd:Int)(n:Nat):Hp:= {g with ab:=(wd::List.replicate n 0)++g.ab}
structure Tri (w W:World) (o0 o1:Obj):Prop where
 b0:W.heap[xz<|xj w]?=J o0
 b1:W.heap[xz (xj w)+1]?=J o1
 b2:W.heap[xz (xj w)+2]?=J (.cells ZX 30 (0,0))
 cm:Below (xz<|xj w) w W
def PY(w:Z3)(a d:Obj):∃W,((w.alloc a).alloc d).alloc (.cells #[.int .u64 0,.int .i64 0,.int .i64 0,.bool xw,.int .i64 0,.slice U 0 0,.slice U 0 0,.slice U 0 0,.slice U 0 0,.slice U 0 0] 30)=W/\xz (xj W)=xz (xj w)+3/\Tri w W a d:=by
 refine⟨_,rfl,Z1,?_,?_,?_,(((ZhH _ _).alloc (Zhm _) _).alloc Z1 _).alloc Zgn _⟩;rw[Zhz _ _ _ Zgn,Zhz _ _ _ Z1];exact ZhT _ _;rw[Zhz _ _ _ Z1];exact Zbb _ _ _;have:=ZhT ((w.alloc a).alloc d)<|.cells ZX 30;simpa[ZX]using this
def Tri.below{w W W':Z3}{d f:Obj}(s:Tri w W d f)(a:Below (xz<|xj W) W W'):Tri w W' d f:=
 ⟨(a.block _<|Y7 s.b0).trans s.b0,(a.block _<|Y7 s.b1).trans s.b1,(a.block _<|Y7 s.b2).trans s.b2,s.cm.trans<|a.mono s.cm.size⟩
def Tri.F{w W:Z3}{c0 a:Zb}{t0 d:Zf}(s:Tri w W (.cells c0 t0)<|.cells a d):(∀j,W.cell? ⟨xz<|xj w,j,U⟩=c0[j]?)/\(∀j,W.cell? ⟨xz (xj w)+1,j,U⟩=a[j]?)/\(∀j,W.cell? ⟨xz (xj w)+1+1,j,U⟩=ZX[j]?)/\∀j,W.frozen? ⟨xz (xj w)+1+1,j,U⟩=xw:=
 ⟨λj=>Zhv _ _ _ _ _ _ s.b0,λj=>Zhv _ _ _ _ _ _ s.b1,λj=>Zhv _ _ _ _ _ _ s.b2,λj=>Yp s.b2⟩
def Z8v{w w2 d l:Z3}{C D:Obj}{h:Hp}{y:Z5}(s:Tri w w2 C D)(A:xz (xj w)+3<=xz (xj w2))(z:Below (xz<|xj w2) w2 d)
  (o:HOwn (xz<|xj w2) d h y) (f:d.alloc (.cells (VH h y) 30)=l):PSt w l (xz<|xj d) h y True:=by
 have p:=s.below z;have F:=z.size;have x:∀j,j<5->∀c,(y j).ownBlock=J c->xz (xj w2)<=c/\c<xz (xj d):=λj a c g=>((o.own j a).lt c g);have B:xz (xj l)=xz (xj d)+1:=by rw[<-f];simp
 have n:=Y7 s.b2;have t:HOwn (xz (xj w)+3) l h y:=⟨λj a=>Lq (XM (o.own j a) λc g=>by rw[<-f];exact Zhz _ _ _ (x j a c g).2) λc u n=>⟨Z0,n⟩,o.apart⟩;refine⟨by rw[<-f];exact(Zhz _ _ _<|Y7 p.b2).trans p.b2,by rw[<-f];exact ZhT _ _,λj a=> ?_,by rw[<-f];exact p.cm.alloc p.cm.size _,Z0,λ_=>⟨t,λj a c g=>by have:=(x j a c g).2;omega⟩⟩;refine((Rq (k:=.u64) (o.own j a) (G:=λc=>xz (xj w2)<=c/\c<xz (xj d)) λc u n=>⟨u,n⟩).keep (λb r=>by rw[<-f];exact Zhz _ _ _ r.2) λ_ q=>q).mono λb q=>⟨Z0,Z0,Z0⟩
def VJ{W:Z3}{G:Z4}{l:Z8}{y:Ze}(h:Rd W G (.sl<|l.map vu) y):∃a c,y=.slice a (I l) c:=by
 generalize g:l.map vu=L at h;have d:I L=I l:=by rw[<-g,ZhN]
 cases h with
 |nil a c f=>exact⟨_,_,by rw[<-d];rfl⟩
 |sl _ b o cap k vs f j=>exact⟨_,_,by rw[d]⟩
def PSt.imp{w W:Z3}{a:Nat}{g:Hp}{x:Z5}{Q Q':Prop}(s:PSt w W a g x Q)(h:Q'->Q):PSt w W a g x Q':=⟨s.ei,s.dq,s.rd,s.cm,s.nB,λq=>s.own<|h q⟩
def PSt.place{w W W':Z3}{t:Nat}{g:Hp}{x:Z5}{Q:Prop}(s:PSt w W t g x Q){l:Z8}{v:Ze}(F:xz (xj W)<=xz (xj W'))(y:∀b,b<xz (xj W)->b≠t->W'.heap[b]?=W.heap[b]?)
  (B:W'.heap[t]?=J (.cells (VH {g with ab:=l}<|λj=>if j=1 then v else x j) 30 (0,0))) (r:W'.ownsRow (xz<|xj W) 24 1 v (I l)<|Ye .u64 l) (o:Below (xz<|xj w) w W'):PSt w W' t {g with ab:=l} (λj=>if j=1 then v else x j) Q:=by
 have C:=s.cm.size;have z:=s.nB;have p:∀j,j<5->j≠1->Zu {g with ab:=l} j=Zu g j:=λj h a=>by
  have:j=0\/j=2\/j=3\/j=4:=Z0;obtain rfl|rfl|rfl|rfl:=this<;>rfl
 have D:xz (xj w)+3<=xz (xj W):=by have:=Y7 s.dq;omega
 refine⟨(y _ (Y7 s.ei) Z0).trans s.ei,B,λj h=> ?_,o,z,λq=>⟨⟨λj h=> ?_,λi j u h c d f=> ?_⟩,λj h c d=> ?_⟩⟩;by_cases a:j=1;subst a;rw[Zht rfl];exact Rq (k:=.u64) r λc a n=>⟨Z0,n,by have:=Y7 s.dq;omega⟩;rw[Zhs a,p j h a];exact((s.rd j h).keep (λb A=>y b A.2.1 A.2.2) λ_ q=>q).mono λb q=>⟨q.1,Z0,q.2.2⟩;by_cases a:j=1;subst a;rw[Zht rfl];exact Lq r λc a n=>⟨Z0,n⟩;rw[Zhs a,p j h a];exact XM ((s.own q).1.own j h) λc d=>y c (((s.own q).1.own j h).lt c d).2<|(s.own q).2 j h c d;by_cases a:i=1;subst a;rw[Zht rfl]at d;rw[Zhs Z0]at f;have:=(r.lt c d).1;have:=(((s.own q).1.own j h).lt c f).2;omega;rw[Zhs a]at d;by_cases n:j=1;subst n;rw[Zht rfl]at f;have:=(r.lt c f).1;have:=(((s.own q).1.own i Z0).lt c d).2;omega;rw[Zhs n]at f;exact(s.own q).1.apart i j u h c d f;by_cases a:j=1;subst a;rw[Zht rfl]at d;have:=(r.lt c d).1;have:=Y7 s.dq;omega;rw[Zhs a]at d;exact(s.own q).2 j h c d
def Z8m{W:Z3}{G:Z4}{B p n K:Nat}{l h:Z8}{y:Ze}(w:B<=xz (xj W))(o:W.ownsRow B 24 1 (.slice (J ⟨p,0,U⟩) n K) n<|Ye .u64 l)(z:Rd W G (.sl<|h.map vu) y)(A:n+I h<=2000000)(ty:Zf):
  ∃a c g,(Builtin.append_ #[28,28] ty #[.slice (J ⟨p,0,U⟩) n K,y]).run xP W=.ok (.slice a (n+I h) c) g/\g.ownsRow B 24 1 (.slice a (n+I h) c) (I<|l++h) (Ye .u64<|l++h)/\W.grownBy g (J p):=by
 have x:=SX;rw[<-T4]at o;obtain⟨C,g,f,q,d,r,_,_,t⟩:=LU (P:=xP) (ty:=ty) x J8 o w z (by rw[T4];exact zc _) (by simp only[Y4,ZhN];omega);rw[T4]at d;have k:I l=n:=by have:=o.1;rw[T4]at this;simpa[Ye]using this
 have j:I f=I h:=by have:=d.1;simp[Ye]at this;omega
 have u:=qn t j;obtain⟨a,c,e⟩:=Wc d;subst e;rw[u]at d;simp only[ZhN]at d q;refine⟨a,c,g,q,?_,r⟩;rw[Zi3,k];simpa[Ye]using d
def Z6n{m K:Nat}(l:m<=K)(k:K<=4096)(W:Z3):(Instr.makeSlice 28 (.int .i64 (m:Int))<|.int .i64 (K:Int)).run xP W=.ok (.slice (J ⟨xz<|xj W,0,U⟩) m K) (W.alloc<|.cells (madeCells #[.int .u64 0] K) 24):=by
 have a:(xP.info? 24).map (λi=>(i.zero,i.size,i.bytes))=J (J<|.int .u64 0,1,8):=Z2;obtain⟨i,g,d⟩:=Zhk.1 a;simp only[Zhx]at d;obtain⟨j,h,f⟩:=d;have:=run_make (P:=xP) (w:=W) 28 24 i (.int .u64 0) SX g j .i64 .i64 m K Z0 Z0 (by rw[f];omega) Z0;simpa[h,Value.cells]using this
def Z6m{W:Z3}{B m K:Nat}(d:B<=xz (xj W))(a:m<=K)(f:K<=4096):(W.alloc<|.cells (madeCells #[.int .u64 0] K) 24).ownsRow B 24 1 (.slice (J ⟨xz<|xj W,0,U⟩) m K) m<|Ye .u64<|List.replicate m 0:=by
 refine⟨by simp[Ye],.inr ⟨_,K,_,rfl,d,ZhT _ _,a,ZgC,by rw[size_madeCells];simp,?_⟩⟩;rw[toList_madeCells_one];simp[Ye,List.take_replicate,ZkP a]
def Z8o{g:Hp}{wd:Int}{n m:Nat}(p:ZJ (Zv g)=xk)(u:n+1=m)(t:(I g.H:Int)+I g.ab+m<=g.cap):ZJ (Zv<|Vp g wd n)=xk:=by
 obtain⟨d,f,h,j,k,⟨l,q,o,r⟩,a⟩:=XO.1 p;refine XO.2 ⟨d,f,h,j,k,⟨l,?_,o,?_⟩,a⟩;show(0:Int)<=(I ((wd::List.replicate n 0)++g.ab):Nat);omega;show((I ((wd::List.replicate n 0)++g.ab):Nat):Int)<=g.cap-I g.H;simp;omega
def Z8k{g:Hp}{wd:Int}{n:Nat}(a:g.ok)(f:ZB wd)(h:n+1+I g.ab<=1000000):(Vp g wd n).ok:=by
 refine⟨a.base,a.cap,a.to,a.aa,a.H,?_,a.ah,a.al,a.E,a.gm,λx d=> ?_,a.ma,a.ln,a.dj⟩;simp[Vp];omega;simp only[Vp,ZiC,ZhK,ZhO,Zkf]at d;obtain rfl|⟨_,rfl⟩|d:=d;exact f;unfold ZB;omega;exact a.gx x d
def Z8p{g:Hp}{wd:Int}{n:Nat}(d:ZJ (Zv<|Vp g wd n)=xk):Y2 (Zv<|Vp g wd n) 2 0=(fstL (Zv<|Vp g wd n) 2,0)/\ZB (fstL (Zv<|Vp g wd n) 2)/\Xq (fstL (Zv<|Vp g wd n) 2)=(ZP (Zv<|Vp g wd n) 2 0,0):=by
 have f:YS (Zv<|Vp g wd n) 2=(n+1+I g.ab:Nat):=by
  show((I ((wd::List.replicate n 0)++g.ab):Nat):Int)=_;simp;omega
 obtain⟨h,j,l,o⟩:=WP d 2;refine⟨?_,⟨Z0,Z0⟩,?_⟩;have:=SY d (k:=2) (a:=0) Z0 Z0;simpa using this;unfold Xq ZP;rw[Zhs Z0,Int.add_zero]
def Z8n{w W:Z3}{u:Nat}{g:Hp}{x:Z5}{Q:Prop}(s:PSt w W u g x Q)(v:Int){v0 v1 f h v4 k v6 l n o:Ze}:SW w (v,g,0) Q (.returned<|.tuple #[.int .u64 v,ZC g x,.int .i64 0]) ((((((((((W.setCell ⟨xz (xj w)+1+1,0,U⟩ v0).setCell ⟨xz (xj w)+1+1,1,U⟩ v1).setCell ⟨xz (xj w)+1+1,2,U⟩ f).setCell ⟨xz (xj w)+1+1,3,U⟩ h).setCell ⟨xz (xj w)+1+1,4,U⟩ v4).setCell ⟨xz (xj w)+1+1,5,U⟩ k).setCell ⟨xz (xj w)+1+1,6,U⟩ v6).setCell ⟨xz (xj w)+1+1,7,U⟩ l).setCell ⟨xz (xj w)+1+1,8,U⟩ n).setCell ⟨xz (xj w)+1+1,9,U⟩ o).drew:=by
 have r:=Oi W (xz (xj w)+1+1) v0 v1 f h v4 k v6 l n o;have p:∀c,c≠xz (xj w)+1+1->_:=λc d=> @Z8C W (xz (xj w)+1+1) c d v0 v1 f h v4 k v6 l n o;unfold UL at r;refine⟨x,rfl,(Vq s.cm Z0).drew,λj a=>((s.rd j a).keep (λb z=>p b Z0) λ_ q=>q).mono λb q=>⟨Z0,?_⟩,λq=>⟨λj a=>Lq (XM ((s.own q).1.own j a) λc d=>p c ?_) λc y t=>⟨Z0,t⟩,(s.own q).1.apart⟩⟩;rw[Gp,r];exact q.2.1;have:=(((s.own q).1.own j a).lt c d).1;omega
def Z1i(w:Z3)(G:Z4)(hG:∀b,G b->b<xz (xj w))(h:Hp)(hh:h.ok)(d6:Z5)(hs:∀j,j<5->Rd w G (.sl<|(Zu h j).map vu) (d6 j))(n m:Nat)(pt wd:Int)(hn:n<=255)(hm:n+1=m)(n2:Xu n pt=(wd,0)){p q p8:Pts}(r:Rt h p){g h8:Hp}(hg:g.ok)(rg:Rt g q)(q5:h8.ok)(r8:Rt h8 p8)
  (hd:(h.Y=xk/\h8=h)\/(h.Y=xw/\X6 h p m=xk/\h8=h)\/(h.Y=xw/\X6 h p m=xw/\h8=YT h)) (n1:g=Y6 h8 m)
  {i2:Int×Hp×Int} (j4:i2=if X6 g q m then(ZP (Zv<|Vp g wd n) 2 0,Vp g wd n,0)else(0,Hp.zero,7)) {Q:Prop} (hQ:Q->h.Y=xw/\X6 h p m=xk):
  Calls xP 8 #[ZC h d6,.agg #[.int .i64 (n:Nat),.int .i64 pt]] w (SW w i2 Q):=by
 have HS:=Zhp hs;have HH:=Zhp hh;have s5:1<=m/\m<=256:=Z0;have HD:=Zhp hd;have i4:=Zhp j4;have HQ:=Zhp hQ;have HR:∀W,Below (xz<|xj w) w W->Calls xP 13 #[ZC h d6] W λe w'=>e=.returned (.bool<|Yv h)/\Below (xz<|xj W) W w':=λW C=>
  LT (w:=W) (G:=G) (x:=d6) hh (λb A=>Zhr (hG b A) C.size) (λj hj=>(hs j hj).keep (λb A=>C.block b<|hG b A) λ_ q=>q)
 rw[r.right]at HR;have l6:=Zhp<|NU (s:=(n:Int)) (p:=pt);have n9:=Zhp HR;have wn:IntKind.i64.wrap ((n:Int)+1)=(m:Int):=Zgx;have HN:=Zhp<|And.intro hm n1;obtain⟨W0,j7,s6,k9⟩:=PY w (.cells (VH h d6) 30)<|.cells #[.int .i64 (n:Nat),.int .i64 pt] 39;have o0:=Zhp k9;have s3:=Zhp j7;obtain⟨p0,s0,_,_⟩:=k9.F;unfold VH at j7 p0;clear hs HR hd j4 hQ k9 n1;unfold ZC;go_enter Fq,Try.ntmps8
 go_upto_region 6 with (first
  |(go_at_call 18;go_loud (refine(l6.out W0).mono ?_;rintro e w1 ⟨rfl,j9⟩;rw[n2];dsimp only;have l0:=o0.out.below j9;have s7:=j9.size;obtain⟨p1,s1,_,_⟩:=l0.F;unfold VH at p1;have l7:=Zhp l0;clear j9 l0 j7 l6 p0 s0))
  |(go_at_call 13;go_loud (refine(n9.out _ l7.out.cm).mono ?_;rintro e w2 ⟨rfl,k5⟩;have l1:=l7.out.below k5;have s8:=k5.size;obtain⟨p2,s2,_,_⟩:=l1.F;unfold VH at p2;have l9:=Zhp l1;clear k5 l1 p1 s1))
  |(go_at_call 19;go_loud (refine(EM _ G (λb C=>by have:=hG b C;omega) h HH.out d6<|λj hj=>(HS.out j hj).keep (λb C=>l9.out.cm.block b<|hG b C) (λ_ h=>h)).mono ?_;rintro e Z ⟨y,rfl,m7,a6⟩;obtain⟨a0,q0,e0⟩:=Wc<|a6.own 0 Z0;obtain⟨a1,q1,e1⟩:=Wc<|a6.own 1 Z0;obtain⟨a2,q2,e2⟩:=Wc<|a6.own 2 Z0;obtain⟨a3,q3,e3⟩:=Wc<|a6.own 3 Z0;obtain⟨a4,q4,e4⟩:=Wc<|a6.own 4 Z0;have l5:=Zhp<|And.intro m7 a6;clear m7 a6;unfold ZC;rw[e0,e1,e2,e3,e4])))
 obtain⟨W6,j8⟩:∃W6,Z.alloc (.cells #[.int .u64 h.base,.int .i64 h.cap,.int .i64 h.to,.bool h.Y,.int .i64 h.aa,.slice a0 (I<|Zu h 0) q0,.slice a1 (I<|Zu h 1) q1,.slice a2 (I<|Zu h 2) q2,.slice a3 (I<|Zu h 3) q3,.slice a4 (I<|Zu h 4) q4] 30)=W6:=⟨_,rfl⟩;have i3:PSt w W6 (xz<|xj Z) h y True:=Z8v l9.out Z0 l5.out.1 l5.out.2 (by unfold VH;rw[e0,e1,e2,e3,e4];exact j8);rw[j8];obtain⟨y6,f6⟩:=i3.F;rw[e0,e1,e2,e3,e4]at y6;have a5:=Zhp i3;have m5:∀W,Below (xz<|xj W6) W6 W->Calls xP 20 #[.agg #[.int .u64 h.base,.int .i64 h.cap,.int .i64 h.to,.bool h.Y,.int .i64 h.aa,.slice a0 (I<|Zu h 0) q0,.slice a1 (I<|Zu h 1) q1,.slice a2 (I<|Zu h 2) q2,.slice a3 (I<|Zu h 3) q3,.slice a4 (I<|Zu h 4) q4],.int .i64 (m:Nat)] W λe w'=>e=.returned (.bool<|X6 h p m)/\Below (xz<|xj W) W w':=λW C=>by
  have:=OY hh r (n:=(m:Int)) Z0 (W:=W) (λb A=>A.2.1) (i3.below C).rd;unfold ZC at this;rw[e0,e1,e2,e3,e4]at this;exact this
 have t:=Zhp m5;have E:=Zhp<|And.intro e0<|And.intro e1<|And.intro e2<|And.intro e3 e4;clear i3 m5 p2 s2 j8 e0 e1 e2 e3 e4 wn;have m4:∀(W2:Z3) (x2:Z5) (W7:Z3),PSt w W7 (xz<|xj Z) h y True->Below (xz<|xj W7) W7 W2->(∀j,j<5->Rd W2 (λc=>(xz (xj w)+3<=c/\c<xz (xj W7)/\c≠xz (xj Z))\/(xz (xj W7)<=c/\c<xz (xj W2))) (.sl<|(Zu (YT h) j).map vu) (x2 j))->PSt w (UL W2 (xz<|xj Z) (.int .u64 (YT h).base) (.int .i64 (YT h).cap) (.int .i64 (YT h).to) (.bool (YT h).Y) (.int .i64 (YT h).aa) (x2 0) (x2 1) (x2 2) (x2 3)<|x2 4) (xz<|xj Z) (YT h) x2 False:=λW2 x2 W7 s C hr=>s.store C hr;have n8:=Zhp m4;clear m4;obtain⟨hc,rfl⟩|⟨hc,f5,rfl⟩|⟨hc,f5,rfl⟩:=HD.out;all_goals have HC:=Zhp hc
 case' inl=>
  go_upto_region 10 with fail;have o:=Zhp (a5.out.imp (Q':=Q) λq=>trivial);have u:=Zhp E.out
 case' inr.inl=>
  have t:=t.out;rw[hc]at t;have t:=Zhp t
  go_upto_region 10 with (first
   |(go_at_call 20;go_loud (refine(t.out _<|ZhH _ _).mono ?_;rintro e w7 ⟨rfl,e7⟩;rw[f5];have a9:=a5.out.below e7;obtain⟨y7,f7⟩:=a9.F;rw[E.out.1,E.out.2.1,E.out.2.2.1,E.out.2.2.2.1,E.out.2.2.2.2]at y7;have o:=Zhp (a9.imp (Q':=Q) λq=>trivial);clear e7 a9)))
  have u:=Zhp E.out
 case' inr.inr=>
  have t:=t.out;rw[hc]at t;have t:=Zhp t
  go_upto_region 10 with (first
   |(go_at_call 20;go_loud (refine(t.out _<|ZhH _ _).mono ?_;rintro e w7 ⟨rfl,e7⟩;rw[f5];have a9:=a5.out.below e7;obtain⟨y7,f7⟩:=a9.F;rw[E.out.1,E.out.2.1,E.out.2.2.1,E.out.2.2.2.1,E.out.2.2.2.2]at y7;have j6:=Zhp a9;clear e7 a9))
   |(go_at_call 21;go_loud (have h3:=Z0Z w7 _ (λb A=>A.2.1) h HH.out y j6.out.rd;unfold ZC at h3;rw[hc,E.out.1,E.out.2.1,E.out.2.2.1,E.out.2.2.2.1,E.out.2.2.2.2,show Sd h=(YT h,0)by unfold Sd;rw[Zhs (by rw[r.right];simp),Zhs (by rw[HC.out];simp)]]at h3;refine h3.mono ?_;clear h3;rintro e w8 ⟨x8,rfl,k6,a7⟩;obtain⟨v8,g8⟩:=(j6.out.below k6).F;rw[E.out.1,E.out.2.1,E.out.2.2.1,E.out.2.2.2.1,E.out.2.2.2.2]at v8;have b5:=n8.out w8 x8 w7 j6.out k6 (λj hj=>(a7 j hj).mono λb q=>.inr q);obtain⟨b0,k0,f0⟩:=VJ<|a7 0 (by omega);obtain⟨b1,k1,f1⟩:=VJ<|a7 1 (by omega);obtain⟨b2,k2,f2⟩:=VJ<|a7 2 (by omega);obtain⟨b3,k3,f3⟩:=VJ<|a7 3 (by omega);obtain⟨b4,k4,f4⟩:=VJ<|a7 4 (by omega);unfold ZC;rw[f0,f1,f2,f3,f4];have z8:=b5.F.1;unfold UL at z8;rw[f0,f1,f2,f3,f4]at z8;have o1:=Zhp b5;have u:=Zhp<|And.intro f0<|And.intro f1<|And.intro f2<|And.intro f3 f4;clear k6 a7 b5 f0 f1 f2 f3 f4)))
 case' inl=>
  obtain⟨W8,rfl⟩:∃W8,W8=W6:=⟨_,rfl⟩;have d8:=HC;have h0:=hc;clear y6
 case' inr.inl=>
  obtain⟨W8,rfl⟩:∃W8,W8=w7:=⟨_,rfl⟩;have d8:=HC;have h0:=hc;clear y6 y7
 case' inr.inr=>
  obtain⟨W8,g5⟩:∃W8,UL w8 (xz<|xj Z) (.int .u64 (YT h).base) (.int .i64 (YT h).cap) (.int .i64 (YT h).to) (.bool (YT h).Y) (.int .i64 (YT h).aa) (.slice b0 (I<|Zu (YT h) 0) k0) (.slice b1 (I<|Zu (YT h) 1) k1) (.slice b2 (I<|Zu (YT h) 2) k2) (.slice b3 (I<|Zu (YT h) 3) k3) (.slice b4 (I<|Zu (YT h) 4) k4)=W8:=⟨_,rfl⟩;have b5:=o1.out;rw[u.out.1,u.out.2.1,u.out.2.2.1,u.out.2.2.2.1,u.out.2.2.2.2,g5]at b5;have o:=Zhp (b5.imp (Q':=Q) λq=>by have:=(HQ.out q).2;rw[f5]at this;cases this);unfold UL at g5;rw[g5];clear y6 y7 z8 g5 b5 v8 g8;cases h0:(YT h).Y;all_goals have d8:=Zhp h0
 all_goals
  obtain⟨y8,f8⟩:=o.out.F;rw[u.out.1,u.out.2.1,u.out.2.2.1,u.out.2.2.2.1,u.out.2.2.2.2]at y8;first
  | (have e9:=Z4z (Z1l Pf q5 (k:=(m:Int)) ⟨by omega,by omega⟩) (λb A=>A.2.1) o.out.rd
     rw[Z8J r8,<-HN.out.2]at e9;unfold ZC at e9;rw[u.out.1,u.out.2.1,u.out.2.2.1,u.out.2.2.2.1,u.out.2.2.2.2,show _=xk from d8.out]at e9
     go_upto_region 14 with (first
      |(go_at_call 22;go_loud (refine e9.mono ?_;clear e9;rintro e w9 ⟨x9,rfl,k7,a8⟩;obtain⟨v9,g9⟩:=(o.out.below k7).F;rw[u.out.1,u.out.2.1,u.out.2.2.1,u.out.2.2.2.1,u.out.2.2.2.2]at v9;have b6:=o.out.store k7 a8;obtain⟨b0,k0,f0⟩:=VJ<|a8 0 (by omega);obtain⟨b1,k1,f1⟩:=VJ<|a8 1 (by omega);obtain⟨b2,k2,f2⟩:=VJ<|a8 2 (by omega);obtain⟨b3,k3,f3⟩:=VJ<|a8 3 (by omega);obtain⟨b4,k4,f4⟩:=VJ<|a8 4 (by omega);unfold ZC;rw[f0,f1,f2,f3,f4];rw[f0,f1,f2,f3,f4]at b6;have m0:=Zhp b6;clear k7 a8 b6 f0 f1 f2 f3 f4))))
  |go_upto_region 14 with fail
 all_goals
  first
  | (obtain⟨W9,g6⟩:∃W9,UL w9 (xz<|xj Z) (.int .u64 g.base) (.int .i64 g.cap) (.int .i64 g.to) (.bool g.Y) (.int .i64 g.aa) (.slice b0 (I<|Zu g 0) k0) (.slice b1 (I<|Zu g 1) k1) (.slice b2 (I<|Zu g 2) k2) (.slice b3 (I<|Zu g 3) k3) (.slice b4 (I<|Zu g 4) k4)=W9:=⟨_,rfl⟩
     have b6:=m0.out;rw[g6]at b6;have d7:=Zhp (b6.imp (Q':=Q) λq=>by have h1:=(HQ.out q).1;have h2:=(HQ.out q).2;first|(rw[HC.out]at h1;cases h1;done)|(rw[f5]at h2;cases h2;done));unfold UL at g6;rw[g6];clear y8 v9 g9 g6 b6 m0)
  | (obtain⟨W9,rfl⟩:∃W9,W9=W8:=⟨_,rfl⟩
     have n0:=HN.out.2.trans<|JV d8.out m;have d:=o.out;rw[<-n0]at d;have d7:=Zhp d;clear y8 d n0)
 all_goals
  clear o u a5 E d8 HC h0 hc;obtain⟨x9,d⟩:∃x9,PSt w W9 (xz<|xj Z) g x9 Q:=⟨_,d7.out⟩;obtain⟨c0,d0,e0⟩:=VJ<|d.rd 0 Z0;obtain⟨c1,d1,e1⟩:=VJ<|d.rd 1 Z0;obtain⟨c2,d2,e2⟩:=VJ<|d.rd 2 Z0;obtain⟨c3,d3,e3⟩:=VJ<|d.rd 3 Z0;obtain⟨c4,d4,e4⟩:=VJ<|d.rd 4 Z0;obtain⟨y9,o3⟩:=d.F;rw[e0,e1,e2,e3,e4]at y9;have Y:=OY hg rg (n:=(m:Int)) Z0 (W:=W9) (λb A=>A.2.1) d.rd;unfold ZC at Y;rw[e0,e1,e2,e3,e4]at Y;have E:=Zhp<|And.intro e0<|And.intro e1<|And.intro e2<|And.intro e3 e4;have a5:=Zhp d;clear d7 d e0 e1 e2 e3 e4;cases f9:X6 g q m;case false=>
   have k8:i2=(0,Hp.zero,7):=by rw[i4.out,f9];rfl
   rw[f9]at Y;subst k8
   go_wp2_with (first
    |(go_at_call 20;go_loud (refine Y.mono ?_;clear Y;rintro e f ⟨rfl,S⟩;have B:=a5.out.below S;obtain⟨s9,r4⟩:=B.R;have a:=Zhp B;clear S B)))
   have r2:=Sv a.out.ei (.int .u64 0) (.int .i64 0) (.int .i64 0) (.bool xw) (.int .i64 0) (.slice U 0 0) (.slice U 0 0) (.slice U 0 0) (.slice U 0 0)<|.slice U 0 0;refine Zi8 (v:=.tuple #[.int .u64 0,.agg ZX,.int .i64 7]) ?_ rfl ?_
   .simp[results,Try.results8,go_sem,r2,ZX]
   exact⟨λ_=>.slice U 0 0,rfl,Vq a.out.cm Z0,jW _ _,λ_=>Ep _ _⟩
  case true=>
   have o7:I (Zu g 1)=I g.ab:=rfl;have g7:(I g.H:Int)+I g.ab+YF q+m<=g.cap:=by simpa[X6]using f9
   have j1:=rg.na;obtain⟨K,hK⟩:∃K,m+I (Zu g 1)=K:=⟨_,rfl⟩;have m3:K<=4096:=Z0;have wk:IntKind.i64.wrap ((m:Int)+(I (Zu g 1):Int))=(K:Int):=Zgx;have o8:=Z6n (m:=m) (K:=K) Z0 Z0;have s4:((0:Int)< (m:Int))=True:=ZjW Z0;have HB:=Zhp<|And.intro g7<|And.intro j1<|And.intro hK m3;rw[f9]at Y;clear g7 j1 hK m3 o7
   go_upto_region 17 with (first
    |(go_at_call 20;go_loud (refine Y.mono ?_;clear Y;rintro e f ⟨rfl,S⟩;have B:=a5.out.below S;obtain⟨n6,m1⟩:=B.F;rw[E.out.1,E.out.2.1,E.out.2.2.1,E.out.2.2.2.1,E.out.2.2.2.2]at n6;have a:=Zhp B;clear S B y9 o3)))
   obtain⟨O,D⟩:∃O,f.alloc (.cells (madeCells #[.int .u64 0] K) 24)=O:=⟨_,rfl⟩;rw[D];have b8:O.ownsRow (xz<|xj f) 24 1 (.slice (J ⟨xz<|xj f,0,U⟩) m K) m<|Ye .u64<|List.replicate m 0:=by rw[<-D];exact Z6m (Zhm _) (by have:=HB.out.2.2.1;omega) HB.out.2.2.2
   have j5:xz (xj O)=xz (xj f)+1:=by rw[<-D];simp
   have j2:∀b,b<xz (xj f)->O.heap[b]?=f.heap[b]? :=λb C=>by rw[<-D];exact Zhz _ _ _ C
   have m8:O.cell? ⟨xz<|xj f,0,U⟩=J (.int .u64 0):=by rw[b8.cellAt 0 Z0];simp[Ye,show 0<m by omega]
   have m9:=Z7M b8 (i:=0) Z0;have X:=(b8.stored 0<|.int .u64 wd).1;have i7:Below (xz<|xj w) w O:=by rw[<-D];exact a.out.cm.alloc a.out.cm.size _
   have HO:=Zhp<|And.intro X<|And.intro j5<|And.intro j2 i7;clear b8 X j2 i7 D n6 m1 o8 wk j5;go_upto_region 18 with fail;obtain⟨P,H⟩:∃P,O.setCell ⟨xz<|xj f,0,U⟩ (.int .u64 wd)=P:=⟨_,rfl⟩;rw[H];have n4:xz (xj P)=xz (xj f)+1:=by rw[<-H];simpa[World.setCell]using HO.out.2.1
   have b7:∀b,b<xz (xj f)->P.heap[b]?=f.heap[b]? :=λb C=>by rw[<-H];exact(ZhD _ _ _ _ (by show b≠xz (xj f);omega)).trans (HO.out.2.2.1 b C)
   have e6:Below (xz<|xj w) w P:=by rw[<-H];exact HO.out.2.2.2.setCell (by have:=a.out.cm.size;exact this) _
   have o9:=Y7 a.out.dq;have g3:=(b7 _ o9).trans a.out.dq;unfold VH at g3;rw[E.out.1,E.out.2.1,E.out.2.2.1,E.out.2.2.2.1,E.out.2.2.2.2]at g3;have q8:∀j,P.cell? ⟨xz<|xj Z,j,U⟩=(#[.int .u64 g.base,.int .i64 g.cap,.int .i64 g.to,.bool g.Y,.int .i64 g.aa,.slice c0 (I<|Zu g 0) d0,.slice c1 (I<|Zu g 1) d1,.slice c2 (I<|Zu g 2) d2,.slice c3 (I<|Zu g 3) d3,.slice c4 (I<|Zu g 4) d4]:Array Value)[j]? :=λj=>Zhv _ _ _ _ _ _ g3;have j3:Rd P (λc=>xz (xj w)+3<=c/\c<xz (xj f)/\c≠xz (xj Z)) (.sl<|g.ab.map vu)<|.slice c1 (I<|Zu g 1) d1:=by
    have:=a.out.rd 1 Z0;rw[E.out.2.1]at this;exact this.keep (λb C=>b7 b C.2.1) λ_ q=>q
   have X:P.ownsRow (xz<|xj f) 24 1 (.slice (J ⟨xz<|xj f,0,U⟩) m K) m<|Ye .u64<|wd::List.replicate n 0:=by
    have:=HO.out.1;rw[H,<-Lj]at this;rw[show wd::List.replicate n 0=(List.replicate m 0).set 0 wd by rw[<-hm,List.replicate_succ];rfl];exact this
   obtain⟨e5,g4,l2,m6,e8,T⟩:=Z8m Z0 X j3 (by have:=HB.out;have:I (Zu g 1)=I g.ab:=rfl;omega) 28;obtain⟨M,d5⟩:∃M,Vp g wd n=M:=⟨_,rfl⟩;obtain⟨N,hx⟩:∃N:Z5,(λj=>if j=1 then .slice e5 (m+I g.ab) g4 else x9 j)=N:=⟨_,rfl⟩;have i1:=(T.block _ Z0 Zgn).trans g3;have q9:∀j,l2.cell? ⟨xz<|xj Z,j,U⟩=(#[.int .u64 g.base,.int .i64 g.cap,.int .i64 g.to,.bool g.Y,.int .i64 g.aa,.slice c0 (I<|Zu g 0) d0,.slice c1 (I<|Zu g 1) d1,.slice c2 (I<|Zu g 2) d2,.slice c3 (I<|Zu g 3) d3,.slice c4 (I<|Zu g 4) d4]:Array Value)[j]? :=λj=>Zhv _ _ _ _ _ _ i1;have o2:∀j,l2.frozen? ⟨xz<|xj Z,j,U⟩=xw:=λj=>Yp i1;obtain⟨d9,L⟩:∃d9,l2.setCell ⟨xz<|xj Z,6,U⟩ (.slice e5 (m+I g.ab) g4)=d9:=⟨_,rfl⟩;have h5:N 0=.slice c0 (I<|Zu g 0) d0:=by rw[<-hx];exact E.out.1
   have h6:N 1=.slice e5 (m+I g.ab) g4:=by rw[<-hx];rfl
   have h7:N 2=.slice c2 (I<|Zu g 2) d2:=by rw[<-hx];exact E.out.2.2.1
   have h9:N 3=.slice c3 (I<|Zu g 3) d3:=by rw[<-hx];exact E.out.2.2.2.1
   have i0:N 4=.slice c4 (I<|Zu g 4) d4:=by rw[<-hx];exact E.out.2.2.2.2
   have n5:=T.size;have b9:PSt w d9 (xz<|xj Z) M N Q:=by
    have:=a.out.place (W':=d9) (l:=(wd::List.replicate n 0)++g.ab) (v:=.slice e5 (m+I g.ab) g4) ?_ ?_ ?_ ?_ ?_;rw[<-d5,<-hx];exact this;rw[<-L];simp[World.setCell];omega;intro b C o5;rw[<-L];exact(ZhD _ _ _ _ o5).trans ((T.block _ Z0 Zgn).trans<|b7 b C);rw[<-L];unfold VH;have e0:=E.out.1;have e2:=E.out.2.2.1;have e3:=E.out.2.2.2.1;have e4:=E.out.2.2.2.2;simp[World.setCell,ZhW,i1,e0,e2,e3,e4];rw[<-L];refine XM e8 λb C=>ZhD _ _ _ _ ?_;have:=(e8.lt b C).1;show b≠xz (xj Z);omega;rw[<-L];exact(Below.grown e6 T e6.size (λr hr=>by cases hr;have:=a.out.cm.size;omega)).setCell (by show xz (xj w)<=xz (xj Z);have:=a.out.nB;omega) _
   go_upto_region 19 with (at_builtin;refine Lib.wpList_append_run _ rfl _ _ 28 28 rfl _ _ rfl rfl _ _ m6 ?_);have g7:(I g.H:Int)+I g.ab+m<=g.cap:=by have:=HB.out.1;omega
   have o6:ZJ (Zv M)=xk:=by rw[<-d5];exact Z8o rg.bd hm g7
   have hu:ZB wd:=by
    have:=NT n pt;rw[n2]at this;unfold ZB;dsimp only at this;omega
   have o4:M.ok:=by rw[<-d5];exact Z8k hg hu (by have:=HB.out;have:I (Zu g 1)=I g.ab:=rfl;omega)
   have n3:Y2 (Zv M) 2 0=(fstL (Zv M) 2,0)/\ZB (fstL (Zv M) 2)/\Xq (fstL (Zv M) 2)=(ZP (Zv M) 2 0,0):=by
    have:=Z8p (g:=g) (wd:=wd) (n:=n) (by rw[d5];exact o6);rw[d5]at this;exact this
   obtain⟨n7,m2⟩:=b9.F;rw[h5,h6,h7,h9,i0]at n7;have h4:=zA (w:=d9) (λb C=>C.2.1) b9.rd;unfold ZC at h4;rw[h5,h6,h7,h9,i0]at h4;have l8:=Zhp b9;have HX:=Zhp<|And.intro h5<|And.intro h6<|And.intro h7<|And.intro h9 i0;have HP:=Zhp<|And.intro n3 o4;clear g3 q8 j3 X m6 e8 T i1 q9 o2 L b9 h5 h6 h7 h9 i0 n3 n5 H b7 e6 n4 m8 m9 hx
   go_upto_region 25 with (first
    |(go_at_call 24;go_loud (refine h4.mono ?_;clear h4;rintro e q6 ⟨rfl,i8⟩;unfold TR;have l3:=Zhp i8;clear i8))
    |(go_at_call 23;go_loud (refine(A8 HP.out.2.bd 2 0 q6).mono ?_;rintro e q7 ⟨rfl,i9⟩;rw[HP.out.1.1];dsimp only;have l4:=Zhp i9;clear i9))
    |(go_at_call 25;go_loud (refine(Of HP.out.1.2.1 q7).mono ?_;rintro e t1 ⟨rfl,j0⟩;rw[HP.out.1.2.2];dsimp only;have c8:=((l8.out.below l3.out).below l4.out).below j0;obtain⟨r1,r3⟩:=c8.F;rw[HX.out.1,HX.out.2.1,HX.out.2.2.1,HX.out.2.2.2.1,HX.out.2.2.2.2]at r1;obtain⟨t0,r9⟩:=c8.R;have i5:=Zhp c8;clear j0 c8 n7 m2)))
   have k8:i2=(ZP (Zv M) 2 0,M,0):=by rw[i4.out,f9,d5];rfl
   subst k8;go_region;all_goals
    go_wp2;try simp only[Exit.inBlock,Exit.then]
    have z:=Sv i5.out.ei (.int .u64 M.base) (.int .i64 M.cap) (.int .i64 M.to) (.bool M.Y) (.int .i64 M.aa) (.slice c0 (I<|Zu g 0) d0) (.slice e5 (m+I g.ab) g4) (.slice c2 (I<|Zu g 2) d2) (.slice c3 (I<|Zu g 3) d3)<|.slice c4 (I<|Zu g 4) d4;refine Zi8 (v:=.tuple #[.int .u64<|ZP (Zv M) 2 0,ZC M N,.int .i64 0]) ?_ rfl ?_
    .unfold ZC;rw[HX.out.1,HX.out.2.1,HX.out.2.2.1,HX.out.2.2.2.1,HX.out.2.2.2.2];simp[results,Try.results8,go_sem,z]
    exact Z8n i5.out _
end Vm
end
section
namespace Vm
open Go Go.Proofs
def H4{h:Hp}(y:h.ok)(z:h.to=0\/h.to=1):(YT h).ok:=by
 have:=AS y z<|I h.E;unfold YT WF;obtain⟨d,f,g,j,k,l,r,t,n,o,p,u,x,q⟩:=this;split;exact⟨d,f,g,j,k,l,r,t,n,o,p,u,x,q⟩;exact⟨d,f,g,j,k,l,Zis _,Zis _,n,o,p,λw a=>(by cases a),λw a=>(by cases a),q⟩
end Vm
end
section
namespace Vm
open Go Go.Proofs Go.RowKit
def Z1h(w:Z3)(G:Z4)(H:∀b,G b->b<xz (xj w))(h:Hp)(S:h.ok)(d:Z5)(M:∀j,j<5->Rd w G (.sl<|(Zu h j).map vu) (d j))(n pt:Int)(L:(Xu n pt).2=1\/((Xu n pt).2=0/\Yv h=xw))(Q:Prop):
  Calls xP 8 #[ZC h d,.agg #[.int .i64 n,.int .i64 pt]] w (SW w (0,Hp.zero,1) Q):=by
 have C:∀W,Below (xz<|xj w) w W->Calls xP 13 #[ZC h d] W λe w'=>e=.returned (.bool<|Yv h)/\Below (xz<|xj W) W w':=λW K=>
  LT (w:=W) (G:=G) (x:=d) S (λb f=>Zhr (H b f) K.size) (λj T=>(M j T).keep (λb f=>K.block b<|H b f) λ_ q=>q)
 have o:=Zhp<|NU (s:=n) (p:=pt);have r:=Zhp C;obtain⟨R,A,Y,g⟩:=PY w (.cells (VH h d) 30)<|.cells #[.int .i64 n,.int .i64 pt] 39;have z:=Zhp g;obtain⟨N,Z,_,_⟩:=g.F;obtain⟨P,D,y⟩:∃P D,Xu n pt=(P,D):=⟨_,_,rfl⟩;rw[y]at L;unfold VH at A N;clear M C g;unfold ZC;have key:∀W,SW w (0,Hp.zero,1) Q (.returned<|.tuple #[.int .u64 0,.agg ZX,.int .i64 1]) W=SW w (0,Hp.zero,1) Q (.returned<|.tuple #[.int .u64 0,ZC Hp.zero (λ_=>.slice U 0 0),.int .i64 1]) W:=λ_=>rfl;obtain rfl|⟨rfl,X⟩:=L;case' inr=>rw[X]at r
 all_goals
  go_enter Fq,Try.ntmps8
  go_wp2_with (first
   |(go_at_call 18;go_loud (refine(o.out R).mono ?_;rintro e w1 ⟨rfl,t⟩;rw[y];dsimp only;have k:=z.out.below t;obtain⟨O,s1,z1,f1⟩:=k.F;unfold VH at O;unfold ZX at z1;have a:=Zhp k;clear t k o N Z))
   |(go_at_call 13;go_loud (refine(r.out _ a.out.cm).mono ?_;rintro e w2 ⟨rfl,u⟩;have l:=a.out.below u;obtain⟨p2,s2,z2,f2⟩:=l.F;unfold ZX at z2;have a:=Zhp l;clear u l O s1)))
  have B:=Sv a.out.b2 (.int .u64 0) (.int .i64 0) (.int .i64 0) (.bool xw) (.int .i64 0) (.slice U 0 0) (.slice U 0 0) (.slice U 0 0) (.slice U 0 0)<|.slice U 0 0;refine Zi8 (v:=.tuple #[.int .u64 0,.agg ZX,.int .i64 1]) ?_ rfl ?_
  .simp[results,Try.results8,go_sem,B,ZX]
  exact⟨λ_=>.slice U 0 0,rfl,Vq a.out.cm Z0,jW _ _,λ_=>Ep _ _⟩
def placeG(h:Hp)(p:Pts)(n:Nat):Hp:=Y6 (if h.Y=xw/\X6 h p (n+1:Nat)=xw then YT h else h)<|n+1
def QE(h:Hp)(p q:Pts)(n:Nat)(wd:Int):Int×Hp×Int:=if X6 (placeG h p n) q (n+1:Nat)then(ZP (Zv<|Vp (placeG h p n) wd n) 2 0,Vp (placeG h p n) wd n,0)else(0,Hp.zero,7)
def H7{h:Hp}{p:Pts}(r:Rt h p)(hc:h.Y=xw):∃q,Rt (YT h) q:=by
 obtain⟨g,q,_,e,a,_⟩:=Z45 r hc;exact⟨_,by rw[e];exact a⟩
def Z1g(w:Z3)(G:Z4)(A:∀b,G b->b<xz (xj w))(h:Hp)(t:h.ok)(a:Z5)(D:∀j,j<5->Rd w G (.sl<|(Zu h j).map vu) (a j))(n:Nat)(pt wd:Int)(C:n<=255)(x:Xu n pt=(wd,0)){p:Pts}(r:Rt h p):
  ∃q,Rt (placeG h p n) q/\(placeG h p n).ok/\Calls xP 8 #[ZC h a,.agg #[.int .i64 (n:Nat),.int .i64 pt]] w (SW w (QE h p q n wd)<|h.Y=xw/\X6 h p (n+1:Nat)=xk):=by
 have key:∀d z,d.ok->Rt d z->(if h.Y=xw/\X6 h p (n+1:Nat)=xw then YT h else h)=d->((h.Y=xk/\d=h)\/(h.Y=xw/\X6 h p (n+1:Nat)=xk/\d=h)\/(h.Y=xw/\X6 h p (n+1:Nat)=xw/\d=YT h))->∃q,Rt (placeG h p n) q/\(placeG h p n).ok/\Calls xP 8 #[ZC h a,.agg #[.int .i64 (n:Nat),.int .i64 pt]] w (SW w (QE h p q n wd)<|h.Y=xw/\X6 h p (n+1:Nat)=xk):=by
  intro d z o y e B;obtain⟨q,sc⟩:=y.dh<|n+1;have u:placeG h p n=Y6 d (n+1):=by unfold placeG;rw[e]
  have k:(placeG h p n).ok:=by rw[u];exact RB o y _
  have l:Rt (placeG h p n) q:=by rw[u];exact sc.rt
  exact⟨q,l,k,Z1i w G A h t a D n (n+1) pt wd C rfl x r k l o y B u rfl<|λq=>q⟩
 by_cases f:h.Y=xk;exact key h p t r (by rw[f];simp)<|.inl ⟨f,rfl⟩;have f:h.Y=xw:=ZgD;by_cases g:X6 h p (n+1:Nat)=xk;exact key h p t r (by rw[g];simp)<|.inr<|.inl ⟨f,g,rfl⟩;have g:X6 h p (n+1:Nat)=xw:=Zhd;obtain⟨q,H⟩:=H7 r f;have F:h.to=0\/h.to=1:=(XO.1 r.bd).2.2.2.2.1;exact key (YT h) q (H4 t F) H (by rw[g,f];simp)<|.inr<|.inr ⟨f,g,rfl⟩
end Vm
end
section
namespace Vm
open Go Go.Proofs
section
section
variable {h:Hp}{p:Pts}
def Wf(h:Hp)(p:Pts):Int:=I h.H+I h.ab+YF p
def Rt.mw(r:Rt h p)(n:Nat){q:Pts}(s:Rt (Y6 h n) q):Wf (Y6 h n) q<=Wf h p/\((Y6 h n).Y=xk->Wf (Y6 h n) q=Wf h p):=by
 obtain⟨g,a⟩:=r.dh n;rw[s.gq a.rt]at a;have d:=a.ab;unfold Wf;cases f:(Y6 h n).Y;have:=a.rc;rw[s.ua f,d];exact⟨Z0,λh=>ZgA⟩;have:=(a.lj f).2.2;rw[d];exact⟨Z0,λ_=>Z0⟩
def Rt.ni(r:Rt h p){n:Nat}{q:Pts}(s:Rt (placeG h p n) q):YD (vg<|placeG h p n)=YD (vg h)/\(placeG h p n).cap=h.cap/\(Wf h p+(n+1:Nat)<=h.cap->Wf (placeG h p n) q+(n+1:Nat)<=h.cap):=by
 unfold Vm.placeG at s⊢;by_cases a:h.Y=xw/\X6 h p (n+1:Nat)=xw;rw[Zht a]at s⊢;obtain⟨g,l,I,d,R,f⟩:=Z46 r a.1;obtain⟨t,_⟩:=AT r a.1 I;rw[<-d]at t f;obtain⟨_,S⟩:=t.dh<|n+1;have j:(YT h).cap=h.cap:=by
  have:g.cap=h.cap:=I.ext.cap;rw[d];unfold WF;split<;>exact this
 refine⟨(jw t _).trans f,S.num.2.1.trans j,λk=> ?_⟩;have:=a.2;simp[X6]at this;unfold Wf at k;omega;rw[Zhs a]at s⊢;obtain⟨_,S⟩:=r.dh<|n+1;have:=(r.mw (n+1) s).1;exact⟨jw r _,S.num.2.1,λ_=>Z0⟩
end
end
end Vm
end
section
namespace Vm
open Go Go.Proofs Go.RowKit
def Z0R(G:Z4)(w:Z3)(r:Int×Hp×Int)(e:Ending)(w':Z3):Prop:=
 ∃x,e=.returned (.tuple #[.int .u64 r.1,ZC r.2.1 x,.int .i64 r.2.2])/\Below (xz<|xj w) w w'/\∀j,j<5->Rd w' (λc=>G c\/(xz (xj w)<=c/\c<xz (xj w'))) (.sl<|(Zu r.2.1 j).map vu) (x j)
def Zbn{f:Zp}(n:VA xP f=xk){h:Hp}{y:V}(a:UB y=xk){r:Int×Hp×Int}
  (hc:∀(w:Z3) (G:Z4) (d:Z5),(∀b,G b->b<xz (xj w))->(∀j,j<5->Rd w G (.sl<|(Zu h j).map vu) (d j))->Calls xP f #[ZC h d,TF y] w (Z0R G w r)):
  VC xP f xw [ZE h,y] (.am [vu r.1,ZE r.2.1,vi r.2.2]):=by
 refine⟨n,λw G vs q o k=> ?_⟩;have r0:=k 0 _ rfl;have C:=Ay a<|k 1 _ rfl;have t:vs=#[vs.getD 0 xy,vs.getD 1 xy]:=by
  have g:vs.size=2:=o;apply ZjR;simp[g];intro i D F;have u:i<2:=Z0
  match i,u with
  |0,_=>simp[Array.getD,g]
  |1,_=>simp[Array.getD,g]
 obtain⟨d,p,B⟩:=yI r0;rw[t,p,C];refine(hc w G d q B).mono ?_;rintro e H ⟨x,rfl,l,A⟩;refine⟨_,rfl,l,.am _ _ rfl ?_⟩;intro i y a
 match i,a with
 |0,a=>cases a;exact .int _ _
 |1,a=>cases a;exact Jn λj z=>(A j z).mono λb l=>Zhf
 |2,a=>cases a;exact .int _ _
def Z07{f:Zp}(g:VA xP f=xk){h:Hp}{y:V}(q:UB y=xk){r:Int×Hp×Int}{Q:Prop}
  (hc:∀(w:Z3) (G:Z4) (a:Z5),(∀b,G b->b<xz (xj w))->(∀j,j<5->Rd w G (.sl<|(Zu h j).map vu) (a j))->Calls xP f #[ZC h a,TF y] w (SW w r Q)):
  VC xP f xw [ZE h,y] (.am [vu r.1,ZE r.2.1,vi r.2.2]):=by
 refine Zbn g q λw G a l p=>(hc w G a l p).mono ?_;rintro e t ⟨x,k,d,o,_⟩;exact⟨x,k,d,λj n=>(o j n).mono λb d=>.inr d⟩
def Z1j{h:Hp}(g:h.ok){p:Pts}(r:Rt h p){n:Nat}{pt wd:Int}(z:n<=255)(j:Xu n pt=(wd,0)):∃q,Rt (placeG h p n) q/\(placeG h p n).ok/\VC xP 8 xw [ZE h,WT n pt] (.am [vu (QE h p q n wd).1,ZE (QE h p q n wd).2.1,vi (QE h p q n wd).2.2]):=by
 obtain⟨t,x⟩:∃t,placeG h p n=t:=⟨_,rfl⟩;have key:∃q,Rt (placeG h p n) q/\(placeG h p n).ok:=by
  by_cases a:h.Y=xw/\X6 h p (n+1:Nat)=xw;obtain⟨q,d⟩:=H7 r a.1;have B:h.to=0\/h.to=1:=(XO.1 r.bd).2.2.2.2.1;obtain⟨f,sc⟩:=d.dh<|n+1;unfold placeG;rw[Zht a];exact⟨f,sc.rt,RB (H4 g B) d _⟩;obtain⟨f,sc⟩:=r.dh<|n+1;unfold placeG;rw[Zhs a];exact⟨f,sc.rt,RB g r _⟩
 obtain⟨q,d,k⟩:=key;refine⟨q,d,k,Z07 Z2 (y:=WT n pt) rfl (Q:=h.Y=xw/\X6 h p (n+1:Nat)=xk) λw G o u A=> ?_⟩;obtain⟨f,l,_,a⟩:=Z1g w G u h g o A n pt wd z j r;rw[d.gq l]at a;exact a
def B7:Hp:=⟨10,5,0,xw,0,[],[],[],[],[0]⟩
def OX{h:Hp}{p:Pts}(r:Rt h p)(n:Int):X6 h p n=decide ((I h.H:Int)+I h.ab+RO h+n<=h.cap):=by unfold X6;rw[r.nr]
end Vm
end
section
namespace Vm
open Go Go.Proofs
def p7:Fn:=⟨4,[0,1,4,6],pQ [pR [pV 2<|pI 0],pi 3 (pl (.s 0)<|pI 0)<|pR [pV 0<|.un .neg<|pa (.s 0)<|pI 1]]<|px [pV 2<|.bo .rem (.s 0)<|.s 1],[(2,.v)]⟩
def c7:ZY [.fz,.fz] Try.f7=J p7:=Z2
def p9:Fn:=⟨8,[0,1,2,3,4,6,5,7],pQ [pR [(2,pS 0 10),(3,pS 1 2),pV 4 pF],pC [pK 8 8 [.mm 2 0 10,.mm 3 0 2]] [(5,pM (.sz (.ext (.s 8) 1) 10) 10),pV 6<|.ext (.s 8) 0,pV 7<|.ext (.s 8) 2]]<|px [pV 4<|pe (.s 7)<|pI 0],[(4,.v)]⟩
def c9:ZY [.fz,.fz] Try.f9=J p9:=Z2
def N4:Fn:=⟨8,[0,2,3,8,7,9,5,6],pQ [pR [pV 1<|pI 0],pR [pV 2<|pI 0],pQ [pR [pV 3<|pI 0,pV 4<|.len<|.s 0,pV 7<|.s 0]]<|po [0,1,2,3,4,7] 5 (pl (.s 3)<|.s 4) (pQ [pR [pV 6<|.ae (.az (.s 7) (.s 3) 1) 0]]<|pR [pV 2<|pa (.s 2)<|.s 6])<|pc 3]<|px [pV 1<|.s 2],[(1,.v)]⟩
def c16:ZY [.fz] Try.f16=J N4:=Z2
def p3:Fn:=⟨14,[0,1,2,3,6,7,8,9,10,11,13,12,14,15],pQ [pR [(3,pS 0 7),pV 4 pF],pC [pK 14 4 []] [pV 5<|.s 14],pC [pK 15 5 [.mm 3 0 7]] [(6,pS 15 10)],pC [.call 16 [] (.id 6) xk xw [.mm 6 0 10]] [(7,pM (.sz (.ext (.s 16) 0) 5) 5),pV 8<|.ext (.s 16) 1],pC [pK 17 7 [.s 1,pI 60]] [(9,pM (.ag [.one<|.s 17,pI 0]) 2)],pC [pK 18 7 [.s 2,pa (.m 9 0)<|pI 1]] [(9,.m [.m 9 0,.one<|.s 18])],pC [pK 19 8 [.mm 6 0 10,.mm 9 0 2]] [(10,pM (.sz (.ext (.s 19) 1) 10) 10),pV 11<|.ext (.s 19) 0,pV 12<|.ext (.s 19) 2],pC [pK 20 9 [.mm 6 0 10,.mm 9 0 2]] [pV 13<|.s 20],.ao ⟨[.lt 21 []<|.s 5,.lt 22 []<|.ite (.s 21) (pe (.s 8)<|pI 0) pF,.lt 23 []<|.ite (.s 22) (.fj xw (.s 13)<|pe (.s 12)<|pI 0) pF,.lt 24 [(23,xk)]<|pl (.m 7 2)<|pa (pI 1)<|.m 9 0,.lt 25 []<|.ite (.s 23) (.ite (.s 24) pT<|.s 13) pF,.lt 26 [(25,xk)]<|pL (pa (pI 1)<|.m 9 0)<|.m 6 1,.lt 27 []<|.ite (.s 25) (.ite (.s 26) pT<|.un .not<|.s 13) pF,.call 28 [(27,xk)] (.id 9) xw xw [.mm 6 0 10,.ag [.m 9 0,pI 0]],.lt 29 []<|.ite (.s 27) (.fj xw (.s 13)<|.s 28) pF,.lt 30 [(29,xk)]<|pL (pa (pa (.m 7 3)<|pI 1)<|.m 9 0)<|.m 6 1],[([(21,xk)],pe (.s 8)<|pI 0),([(22,xk)],.fj xw (.s 13)<|pe (.s 12)<|pI 0),([(23,xk)],.ite (.s 24) pT<|.s 13),([(25,xk),(26,xw)],.un .not<|.s 13),([(25,xk)],.ite (.s 26) pT<|.un .not<|.s 13),([(27,xk)],.fj xw (.s 13)<|.s 28),([(29,xk),(30,xw)],.un .not<|.s 13),([(29,xk)],.ite (.s 30) pT<|.un .not<|.s 13)],[pV 4<|.ite (.s 29) (.ite (.s 30) pT<|.un .not<|.s 13) pF]⟩] .ret,[(4,.v)]⟩
def c3:WW (Yi Try.prog) fresh sig [.fz,.fz,.fz] [] Try.f3=J p3:=Z2
def p4:Fn:=⟨6,[0,1,2,3,4,5],pQ [pR [pV 0 pF],.ao ⟨[],[([],.ag [pU 10,pI 5,pI 1,pT,pI 0,.lit [pU 2,pU 6],pN,.lit [pU 31,pU 0],pN,.lit [pU 31]])],[(1,.m [pU 10,pI 5,pI 1,pT,pI 0,.lit [pU 2,pU 6],pN,.lit [pU 31,pU 0],pN,.lit [pU 31]])]⟩,pC [.call 6 [] (.id 6) xk xw [.mm 1 0 10]] [(2,pM (.sz (.ext (.s 6) 0) 5) 5),pV 3<|.ext (.s 6) 1],pC [.call 7 [] (.id 6) xk xw [pY]] [(4,pM (.sz (.ext (.s 7) 0) 5) 5),pV 5<|.ext (.s 7) 1],.ao ⟨[.lt 8 []<|pe (.s 3)<|pI 0,.lt 9 []<|.ite (.s 8) (.ite (pe (.ae (.sz (.bm<|.mm 2 0 5) 5) 0)<|.ae (.sz (.bm<|.ag [pI 2,pI 0,pI 3,pI 2,pI 2]) 5) 0) (.ite (pe (.ae (.sz (.bm<|.mm 2 0 5) 5) 1)<|.ae (.sz (.bm<|.ag [pI 2,pI 0,pI 3,pI 2,pI 2]) 5) 1) (.ite (pe (.ae (.sz (.bm<|.mm 2 0 5) 5) 2)<|.ae (.sz (.bm<|.ag [pI 2,pI 0,pI 3,pI 2,pI 2]) 5) 2) (.ite (pe (.ae (.sz (.bm<|.mm 2 0 5) 5) 3)<|.ae (.sz (.bm<|.ag [pI 2,pI 0,pI 3,pI 2,pI 2]) 5) 3) (.ite (pe (.ae (.sz (.bm<|.mm 2 0 5) 5) 4)<|.ae (.sz (.bm<|.ag [pI 2,pI 0,pI 3,pI 2,pI 2]) 5) 4) pT pF) pF) pF) pF) pF) pF,.lt 10 []<|.ite (.s 9) (pe (.s 5)<|pI 1) pF,.call 11 [(10,xk)] (.id 9) xw xk [.mm 1 0 10,.ag [pI 2,pI 0]],.lt 12 []<|.ite (.s 10) (.s 11) pF,.call 13 [(12,xk)] (.id 9) xw xk [.mm 1 0 10,.ag [pI 3,pI 0]],.lt 14 []<|.ite (.s 12) (.un .not<|.s 13) pF,.call 15 [(14,xk)] (.id 9) xw xw [pY,.ag [pI 0,pI 0]]],[([(8,xk)],.ite (pe (.ae (.sz (.bm<|.mm 2 0 5) 5) 0)<|.ae (.sz (.bm<|.ag [pI 2,pI 0,pI 3,pI 2,pI 2]) 5) 0) (.ite (pe (.ae (.sz (.bm<|.mm 2 0 5) 5) 1)<|.ae (.sz (.bm<|.ag [pI 2,pI 0,pI 3,pI 2,pI 2]) 5) 1) (.ite (pe (.ae (.sz (.bm<|.mm 2 0 5) 5) 2)<|.ae (.sz (.bm<|.ag [pI 2,pI 0,pI 3,pI 2,pI 2]) 5) 2) (.ite (pe (.ae (.sz (.bm<|.mm 2 0 5) 5) 3)<|.ae (.sz (.bm<|.ag [pI 2,pI 0,pI 3,pI 2,pI 2]) 5) 3) (.ite (pe (.ae (.sz (.bm<|.mm 2 0 5) 5) 4)<|.ae (.sz (.bm<|.ag [pI 2,pI 0,pI 3,pI 2,pI 2]) 5) 4) pT pF) pF) pF) pF) pF),([(9,xk)],pe (.s 5)<|pI 1),([(12,xk)],.un .not<|.s 13),([(14,xk)],.un .not<|.s 15)],[pV 0<|.ite (.s 14) (.un .not<|.s 15) pF]⟩] .ret,[(0,.v)]⟩
def c4:WW (Yi Try.prog) fresh sig [] [] Try.f4=J p4:=Z2
def p6:Fn:=⟨9,[0,1,2,3,9,4,5,17,6],pQ [pR [(1,pS 0 10),(2,.m [pI 0,pI 0,pI 0,pI 0,pI 0]),pV 3<|pI 0],pQ [pC [pK 9 13 [.mm 1 0 10]] [pV 4<|.un .not<|.s 9]]<|pw (.s 4)<|px [(2,pM (.ag [pI 0,pI 0,pI 0,pI 0,pI 0]) 5),pV 3<|pI 1],pC [pK 10 14 [.mm 1 0 10]] [(5,pM (.sz (.ext (.s 10) 0) 10) 10),pV 6<|.ext (.s 10) 1],pi 7 (pn (.s 6)<|pI 0)<|px [(2,pM (.ag [pI 0,pI 0,pI 0,pI 0,pI 0]) 5),pV 3<|.s 6],pC [pK 11 15 [.mm 1 0 10]] [pV 8<|.s 11],pC [pK 12 16 [.lit [.len<|.m 1 5,.len<|.m 1 6,.one<|.s 8]],pK 13 17 [.mm 1 0 10]] [(2,pM (.ag [pb (.len<|.m 1 5)<|.m 1 4,.one<|.s 8,pb (.m 1 1)<|.s 12,.one<|.s 13,pb (.m 5 4)<|.m 1 4]) 5),pV 3<|pI 0]] .ret,[(2,(.ag 5)),(3,.v)]⟩
def c6:WW (Yi Try.prog) fresh sig [.fz] [] Try.f6=J p6:=Z2
def Z7X{c n:Int}(hc:Ym c)(f:0<n):VC xP 7 xw [vi c,vi n]<|vi<|pick c n:=by
 refine ZR Z1V follows Z2 c7 rfl ?_;obtain⟨a,d⟩:=hc;by_cases h:c<0;simp[p7,h];simp(disch:=omega) only[Zy];refine⟨Z0,?_⟩;unfold pick;rw[Zht h,Zir Z0];simp[p7,h];refine⟨Z0,?_⟩;unfold pick;rw[Zhs h,Zir Z0]
def Z1f{h:Hp}(g:h.ok)(j:Yv h=xw){n pt wd:Int}(a:Xu n pt=(wd,0)):VC xP 8 xw [ZE h,WT n pt]<|.am [vu 0,ZE Hp.zero,vi 1]:=
 Z07 Z2 (y:=WT n pt) rfl (r:=(0,Hp.zero,1)) (Q:=False) λw G d f k=>Z1h w G f h g d k n pt (.inr ⟨by rw[a],j⟩) _
def EB{h g:Hp}{n m x e:Int}(k:VC xP 8 xw [ZE h,WT n m]<|.am [vu x,ZE g,vi e]):VC xP 9 xw [ZE h,WT n m]<|.bool<|decide (e=0):=by
 refine ZR Z2d follows Z2 c9 rfl ?_;simp only[ZE,WT]at k⊢;simp[p9];refine Zz k Z1 ?_;simp
def Zb0{a b c:Int}(y:0<=a/\a<=100000)(r:0<=b/\b<=100000)(hc:0<=c/\c<=100000):VC xP 16 xw [.sl [vi a,vi b,vi c]]<|vi<|a+b+c:=by
 refine ZR Z1r follows Z2 c16 rfl ?_;obtain⟨l,d⟩:∃l,l=[a,b,c]:=⟨_,rfl⟩;rw[show [vi a,vi b,vi c]=l.map vi by rw[d];rfl];have o:l[0]?=J a:=by rw[d];rfl
 have p:l[1]?=J b:=by rw[d];rfl
 have q:l[2]?=J c:=by rw[d];rfl
 have h:I l=3:=by rw[d];rfl
 obtain⟨F,k,w,x,n⟩:∃F:Nat->Int,F 0=0/\F 1=a/\F 2=a+b/\F 3=a+b+c:=⟨λi=>if i=0 then 0 else if i=1 then a else if i=2 then a+b else a+b+c,rfl,rfl,rfl,rfl⟩;simp[N4,h];refine VO 3 3 (λi=>[(2,.v<|vi<|F i),(3,.v<|vi i)]) (λ_=>True) (by simp[k]) Z1 trivial ?_;intro i z _;by_cases g:i<3;obtain⟨u,j,t,r⟩:∃u,l[i]?=J u/\F i+u=F (i+1)/\0<=F i+u/\F i+u<=300000:=by
  rcases(Z0:i=0\/i=1\/i=2)with rfl|rfl|rfl;exact⟨a,o,by show F 0+a=F 1;omega,Z0⟩;exact⟨b,p,by show F 1+b=F 2;omega,Z0⟩;exact⟨c,q,by show F 2+c=F 3;omega,Z0⟩
 have w1:=Zy (F<|i+1) Z0 Z0;have w2:=Zy ((i:Int)+1) Z0 Z0;have f:(i:Int)<3:=Z0;simp[h,g,f,j,Yn j,w1,w2,t];have:i=3:=Z0;subst this;simp[h,n]
def Cb(n m:Int):NoM<|WT n m:=.agg _ λc a=>by
 simp only[ZhK,ZiU,Zkl]at a;obtain rfl|rfl:=a<;>exact .int _ _
def Z6Z(u:Int)(g:Hp)(e:Int):NoM<|.am [vu u,ZE g,vi e]:=.am _ λc a=>by
 simp only[ZhK,ZiU,Zkl]at a;obtain rfl|rfl|rfl:=a;exact .int _ _;exact Tk _;exact .int _ _
def zD{h:Hp}{p:Pts}(j:h.ok)(r:Rt h p){n:Nat}{m:Int}(d:YC n m=xk):∃q,Rt (placeG h p n) q/\(∃(w:Int) (g:Hp),VC (Yi Try.prog) 8 xw [ZE h,WT n m]<|.am [vu w,ZE g,vi (if X6 (placeG h p n) q (n+1:Nat)then 0 else 7)])/\VC (Yi Try.prog) 9 xw [ZE h,WT n m] (.bool<|X6 (placeG h p n) q (n+1:Nat)):=by
 have a:Xu n m=(2*((n:Int)+65536*m),0):=by unfold Xu;rw[Zht d]
 obtain⟨q,l,_,k⟩:=Z1j j r (n:=n) (by have:=Yy.1 d;omega) a;have e:(QE h p q n<|2*((n:Int)+65536*m)).2.2=if X6 (placeG h p n) q (n+1:Nat)then 0 else 7:=by unfold QE;split<;>rfl
 have f:=EB k;rw[e]at k f;refine⟨q,l,⟨_,_,up k (qp (Tk h)<|Cb _ _)<|Z6Z _ _ _⟩,?_⟩;have:=up f (qp (Tk h)<|Cb _ _)<|.bool _;rwa[show decide ((if X6 (placeG h p n) q (n+1:Nat)=xk then(0:Int)else 7)=0)=X6 (placeG h p n) q (n+1:Nat)by split<;>simp_all]at this
def Sp(a b c d e:Int):V:=.agg [vi a,vi b,vi c,vi d,vi e]
def Z06{P:Z6} [Lg P]{f:Zp}{xs:Zr}{r:V}(h:VC P f xw xs r)(l:∀ {w:Z3} {G a:Z4} {v:Ze},Rd w G r v->Rd w a r v):VC P f xk xs r:=
 ⟨h.1,λw G vs d n o=>Lg.dw (h.2 w G vs d n o) λ_ _ ⟨v,j,g,k⟩=>⟨v,j,g,l k⟩⟩
def OD{w:Z3}{G G':Z4}{v:Ze}{a b c d e k:Int}(h:Rd w G (.am [Sp a b c d e,vi k]) v):Rd w G' (.am [Sp a b c d e,vi k]) v:=by
 cases h with
 |am _ vs g j=>
  refine .am _ _ g λi y f=> ?_
  match i,f with
  |0,f=>cases f;exact(j 0 _ rfl).gl (λy f=>by simp[Sp,V.cells]at f;obtain rfl|rfl|rfl|rfl|rfl:=f<;>rfl) λl g=>by cases g
  |1,f=>cases f;exact(j 1 _ rfl).gl (λy f=>by simp[V.cells]at f;subst f;rfl) λl g=>by cases g
instance fitOfM:FitF (Yi Try.prog) 6:=yp (P:=Try.prog) Try.func6 rfl Z2
def EI(n:RV){h:Hp}{p:Pts}(d:h.ok)(r:Rt h p):VC (Yi Try.prog) 6 xk [ZE h]<|.am [Sp ((I h.H:Int) -h.aa) (YF p) (h.cap-Wf h p) (words<|YD<|vg h)<|(Y6 h 9223372036854775807).aa-h.aa,vi 0]:=by
 refine Z06 ?_ OD;refine ZR (P:=Yi Try.prog) Try.func6 Ji Z2 c6 rfl ?_;have k1:=Z0K d r;have k:=Z0U n d r;have f:=Z0M d;rw[r.nr]at f;have u:=r.room;have t:=r.na;have l:=up (Zb0 (a:=I h.H) (b:=I h.ab) (c:=YF p) Z0 Z0 Z0) (Qy<|Mm [_,_,_])<|.int _ _;have j:=Z15 d;rw[r.oy]at j;obtain⟨q,s⟩:=r.dh 9223372036854775807;have o:=RB d r 9223372036854775807;have:=o.H;have:=s.rt.dy;have:=s.rt.gi;have:=r.dy;have:=r.gi;unfold Wf;generalize Y6 h 9223372036854775807=g at*;have w1:=Zy ((I h.H:Int) -h.aa) Z0 Z0;have w2:=Zy (h.cap- ((I h.H:Int)+I h.ab+YF p)) Z0 Z0;have w3:=Zy (g.aa-h.aa) Z0 Z0;simp only[ZE]at k1 k f l j⊢;simp[p6];refine Zz k1 Z1 ?_;simp;refine Zz k Z1 ?_;simp;refine Zz f Z1 ?_;simp;refine Zz l Z1 ?_;simp;refine Zz j Z1 ?_;simp[w1,w2,w3,Sp]
def Z17{h:Hp}(a:h.ok)(d:Yv h=xw):VC (Yi Try.prog) 6 xk [ZE h]<|.am [Sp 0 0 0 0 0,vi 1]:=by
 refine Z06 ?_ OD;refine ZR (P:=Yi Try.prog) Try.func6 Ji Z2 c6 rfl ?_;have k1:=up (QU a) (Qy<|Tk h)<|.bool _;rw[d]at k1;simp only[ZE]at k1⊢;simp[p6];refine Zz k1 Z1 ?_;simp[Sp]
def O0{c n:Int}(hc:Ym c)(a:0<n):VC (Yi Try.prog) 7 xw [vi c,vi n]<|vi<|pick c n:=up (Z7X hc a) (qp (.int _ _)<|.int _ _)<|.int _ _
instance fitAwake17:FitF (Yi Try.prog) 4:=yp (P:=Try.prog) Try.func4 rfl Z2
def Z2H(w:RV):VC (Yi Try.prog) 4 xw []<|.bool xk:=by
 refine ZR (P:=Yi Try.prog) Try.func4 Ji Z2 c4 rfl ?_;obtain⟨p,r⟩:=JR.1 (Zgo:Yv TH=xk);have o:Yv Hp.zero=xw:=Zgo;have k1:=EI w AI r;have q:Y6 TH 9223372036854775807=Jb:=by
  rw[show(9223372036854775807:Nat)=2+9223372036854775805 from rfl,jv,show Y6 TH 2=Jb by decide+kernel,JV rfl]
 have t:(YF p:Int)=0:=by rw[<-r.nr];decide+kernel
 have u:words (YD<|vg TH)=2:=Zgo;have h:∀n:Nat,2<=n->placeG TH p n=Jb:=λn x=>by
  unfold placeG;rw[Zhs (by simp[TH]),show n+1=2+(n-1)by omega,jv,show Y6 TH 2=Jb by decide+kernel,JV rfl]
 have j:RO Jb=0:=Zgo;obtain⟨y,k,_,a⟩:=zD AI r (n:=2) (m:=0) ZgB;obtain⟨z,l,_,d⟩:=zD AI r (n:=3) (m:=0) ZgB;rw[h 2 Z0]at k a;rw[h 3 Z0]at l d;rw[OX k,j]at a;rw[OX l,j]at d;have f:=Z17 Z0C o;have g:=up (EB<|Z1f Z0C o (n:=0) (pt:=0) (wd:=0) ZgB) (qp (Tk _)<|Cb _ _)<|.bool _;rw[q,u]at k1;unfold Wf at k1;rw[t]at k1;simp only[ZE,WT,Sp,TH,Jb,Hp.zero,ZhR,ZiN]at k1 a d f g;simp at k1 a d f g;simp[p4];refine Zz k1 Z1 ?_;simp;refine Zz f Z1 ?_;simp;refine Zz a (λ_=>rfl) ?_;simp;refine Zz d (λ_=>rfl) ?_;simp;refine Zz g Z1 ?_;simp
instance fitM17:FitF (Yi Try.prog) 3:=yp (P:=Try.prog) Try.func3 rfl Z2
def Z5V(G:RV){x:Rw}(hx:x.ok){n m:Int}(Q:Ym n)(O:Ym m):VC (Yi Try.prog) 3 xw [Wt x,vi n,vi m]<|.bool xk:=by
 refine ZR (P:=Yi Try.prog) Try.func3 Ji Z2 c3 rfl ?_;simp[p3];refine Zz (Z2H G) Z1 ?_;simp;have L:=Z12 hx;unfold Wt at L;refine Zz L Z1 ?_;obtain⟨y,hl,S⟩:=Z4t hx;obtain⟨p,r⟩:=JR.1<|Z4u hx;generalize Te x=h at*;have k1:=EI G y r;have l:=UK (c:=n) (n:=60) Z0;have K:=O0 Q (n:=60) Z0;obtain⟨a,N⟩:=Zhy l.1;rw[N]at l K;have wa:=Zy ((a:Int)+1) Z0 Z0;have R:=UK (c:=m) (n:=(a:Int)+1) Z0;have Z:=O0 O (n:=(a:Int)+1) Z0;generalize pick m ((a:Int)+1)=b at*;obtain⟨q,o,⟨w,g,z⟩,A⟩:=zD y r (n:=a) (m:=b)<|Yy.2 ⟨Z0,Z0,Z0,Z0⟩;obtain⟨q',B,_,j⟩:=zD y r (n:=a) (m:=0)<|Yy.2 ⟨Z0,Z0,Z0,Z0⟩;rw[o.gq B]at j;obtain⟨Y,f,u⟩:=r.ni o;have k:=o.oz;rw[Y]at k;have M:X6 (placeG h p a) q (a+1:Nat)=decide (Wf (placeG h p a) q+(a+1:Nat)<=h.cap):=by unfold X6 Wf;rw[f]
 have H:(words (YD<|vg h):Int)<=Wf (placeG h p a) q:=k;have T:0<=Wf h p/\Wf h p<=h.cap:=⟨by unfold Wf;omega,r.room⟩;have X:0<=Wf (placeG h p a) q/\Wf (placeG h p a) q<=h.cap:=⟨by unfold Wf;omega,by have:=o.room;rw[f]at this;exact this⟩;have hc:=r.na;rw[M]at z A j;generalize Wf (placeG h p a) q=q0 at*;generalize words (YD<|vg h)=W at*;have w1:=Zy (1+(a:Int)) Z0 Z0;have w2:=Zy ((W:Int)+1) Z0 Z0;have w3:=Zy ((W:Int)+1+a) Z0 Z0;simp only[ZE,WT,Sp]at k1 z A j;simp;refine Zz k1 Z1 ?_;simp;refine Zz K Z1 ?_;simp[wa];refine Zz Z Z1 ?_;simp;refine Zz z Z1 ?_;simp;refine Zz A Z1 ?_;by_cases t:q0+((a+1:Nat):Int)<=h.cap;have C:1+(a:Int)<=h.cap:=Z0;have D:(W:Int)+1+a<=h.cap:=Z0;have d:q0+((a:Int)+1)<=h.cap:=Z0;rw[Zlx t]at j⊢;simp[w1,w2,w3,C,D,d];refine Zz j Z1 ?_;simp[w1,w2,w3,C,D,d];have F:h.cap-Wf h p<1+(a:Int):=by
  by_cases e:Wf h p+((a+1:Nat):Int)<=h.cap;exact absurd (u e) t;omega
 have d:¬q0+((a:Int)+1)<=h.cap:=Z0;rw[decide_eq_false t]at j⊢;simp[w1,w2,w3,F,d];refine Zz j Z1 ?_;simp[w1,w2,w3,F,d]
end Vm
end
section
namespace Go.Proofs.Ytccfecikcmjnfaa
open Vm Go.ChangeShapes Go.WideShapes Go.ChangeAt Go.RowKit
def measureFits_law(xs:List V)(d:I xs=Try.f3.params.toList.length)(a:∀(i:Nat) (t:TypeId) (x:V),Try.f3.params.toList[i]?=J t->xs[i]?=J x->Xm Try.prog 8 t x):
  VC (Yi Try.prog) 3 xw xs (.bool xk):=by
 rw[Try.params3]at d a
 match xs,d with
 | [j,k,l],_=>
   obtain⟨x,rfl,h⟩:=Zbe<|a 0 _ j rfl rfl;obtain⟨n,rfl,g⟩:=K5<|a 1 _ k rfl rfl;obtain⟨m,rfl,f⟩:=K5<|a 2 _ l rfl rfl;exact Z5V Pf h g f
def measureFits_lifted(j:Os)(a:j.Started)(H:Type)(enc:TypeId×Value->H):
  ReturnsInLeavingWide {} Try.checked j 3 .any (Rows.measureFitsSpec.pre6 enc Try.prog Try.f3 Rows.measureFitsRow.domain xw) (Rows.measureFitsSpec.post enc Try.prog Try.f3 xw xk xw xw):=by
 refine returnsInLeavingWide_of_change_sized (C:=Try.checked) own a Try.func3
  (ChangeSpec.witness6 (enc:=enc) (C:=Try.checked) xw ⟨#[], #[.agg #[.slice U 0 0,.slice U 0 0,.slice U 0 0,.int .u64 0,.int .i64 0,.int .i64 0,.int .i64 0],.int .i64 0,.int .i64 0],[]⟩ 8 Z2 Z2 Z2 Z2) ?_
 intro W base args g gs d f k _ _ _
 exact Z4n (P:=Try.prog) Z2 (Z5W (P:=Yi Try.prog) (tb:=4) 8 laidOut Z2 Z2 rfl Z2 Try.underlying4 (λH g h=>by
  rw[Try.params3]at h
  match g,h with
  | [_,_,_],_=>rfl) measureFits_law H enc W base args g gs d f k)
theorem measureFits_holds:Rows.MeasureFitsSaid:=
 OpenClaim.holds_of_wide_leaving 3 Try.f3 rfl rfl rfl rfl rfl rfl rfl ⟨rfl,rfl,rfl,rfl,rfl⟩ rfl rfl rfl rfl rfl Z2 Try.func3 Z2
  (Zk1 Z2) (by unfold Func.isWrapper;first|(rw[Zht Zgo];kernel_rfl)|(rw[Zhs Zgo];exact⟨rfl,rfl⟩))
  (λf a H d _=>measureFits_lifted f a H d)
#print axioms measureFits_holds
end Go.Proofs.Ytccfecikcmjnfaa
end
