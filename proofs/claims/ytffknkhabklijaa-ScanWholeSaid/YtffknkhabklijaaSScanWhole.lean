/-
  The law ScanWhole holds of the given program, for every input.
-/
import Derived.Test.YtffknkhabklijaaRows
import Derived.Conc.LeavingOf
import Derived.Test.YtffknkhabklijaaSScanWhole7
set_option linter.unusedSimpArgs false
set_option linter.unusedVariables false
set_option linter.defProp false
open Option renaming some→J,none→U
open Bool renaming true→xk,false→xw
open List renaming length→I
open Array renaming size→xz
open Go.World renaming heap→xj
open List renaming length→xq
open Array renaming size→xz
open Go.World renaming heap→xj
set_option maxHeartbeats 1000000
set_option maxRecDepth 100000
def Zj5:=@List.eq_replicate_iff
section
namespace Vm
open Go Go.Proofs
section
def VS(h:Hp)(w:Int):Int:=(Y2 (ZZ h).tm (adr w).1).getD (adr w).1
def OM(h:Hp){w:Int}(a:w≠0):(ZZ h).cl w=(Y2 (ZZ h).nm<|VS h w).getD 0:=by
 unfold Vw.cl VS;rw[if_neg a]
section
variable {h g:Hp}{p q:Pts}
def Sq(r:Rt h p){f:Fo}(g:f∈X6 h 4 0)(j:f.ob.gone=xw){w:Int}(d:(adr w).1=f.ad):VS h w=f.ad:=by
 have:Y2 (ZZ h).tm f.ad=U:=by
  cases k:Y2 (ZZ h).tm f.ad with
  |none=>rfl
  |some t=>
   obtain⟨x,k1,a,l,_⟩:=(SA h).t1 _ _ k;rw[J1 r k1 g l,j]at a;cases a
 unfold VS;rw[d,this,ZiU]
def Sp(r:Rt h p){f:Fo}(a:f∈X6 h 4 0)(j:f.ob.gone=xk){w:Int}(g:(adr w).1=f.ad):VS h w=f.ob.target:=by
 obtain⟨t,e⟩:=Zg9.1<|(SA h).t2 f a j;obtain⟨x,k1,l,k,d⟩:=(SA h).t1 _ _ e;rw[J1 r k1 a k]at d;unfold VS;rw[g,e,Zfw,d]
def RG{α:Type}(R:α->α->Prop):List α->List α->Prop
 | [],[]=>True
 |a::l,b::m=>R a b/\RG R l m
 |_,_=>False
def jD{α:Type}{R:α->α->Prop}:∀ {l m:List α},I m=I l->(∀(j:Nat) (a b:α),l[j]?=J a->m[j]?=J b->R a b)->RG R l m
 | [],[],_,_=>trivial
 |a::l,b::m,d,h=>⟨h 0 a b rfl rfl,jD Zek λj x y f g=>h (j+1) x y Zeq<|by simpa using g⟩
 | [],_::_,d,_=>by simp at d
 |_::_,[],d,_=>by simp at d
def SF(h g:Hp)(τ:Int->Int)(w w':Int):Prop:=(w=0/\w'=0)\/(w≠0/\w'≠0/\∃f∈(ZZ h).ns,f.ad=VS h w/\VS g w'=τ f.ad)
def E5(h g:Hp)(τ:Int->Int)(f a:Fo):Prop:=a.ad=τ f.ad/\a.ob.M=f.ob.M/\a.sl.drop f.ob.M.toNat=f.sl.drop f.ob.M.toNat/\RG (SF h g τ) (f.sl.take f.ob.M.toNat) (a.sl.take f.ob.M.toNat)
def R8(h g:Hp)(τ:Int->Int)(i:Int):Int:=if 0<=i then(((ZZ h).ns[i.toNat]?).bind λf=>Y2 (ZZ g).nm<|τ f.ad).getD 0 else i
def Z8T(r:Rt h p){τ:Int->Int}{w w':Int}(q:SF h g τ w w'):(ZZ g).cl w'=R8 h g τ ((ZZ h).cl w):=by
 obtain⟨rfl,rfl⟩|⟨k,l,f,n,d,j⟩:=q;simp[Vw.cl,R8];obtain⟨a,o⟩:=Wu.1 n;obtain⟨i,k1,t⟩:=r.lh a o;rw[OM h k,OM g l,<-d,j,k1];simp[R8,t]
def Bm(r:Rt h p){τ:Int->Int}:∀ {l f:Z8},RG (SF h g τ) l f->f.map (ZZ g).cl=(l.map (ZZ h).cl).map (R8 h g τ)
 | [],[],_=>rfl
 |a::l,b::m,d=>by rw[ZfA,ZfA,ZfA,Z8T r d.1,Bm r d.2]
 | [],_::_,d=>d.elim
 |_::_,[],d=>d.elim
def DH(r:Rt h p)(s:Rt g q)(τ:Int->Int)(P:∀f∈(ZZ h).ns,∃a∈(ZZ g).ns,E5 h g τ f a)
  (t:∀f∈(ZZ h).ns,∀a∈(ZZ h).ns,τ f.ad=τ a.ad->f.ad=a.ad) (B:RG (SF h g τ) h.E g.E):Ye (vg g)=Ye (vg h):=by
 have key:∀x:Int,x∈order (vg h)->∃(i n:Nat) (f a:Fo),x=i/\(ZZ h).ns[i]?=J f/\(ZZ g).ns[n]?=J a/\R8 h g τ x=n/\E5 h g τ f a:=by
  intro x l;obtain⟨T,Z⟩:=(Jt r.cm).2 x l;have G:(vg h).nodes.length=(ZZ h).ns.length:=by simp[vg,Vw.gr]
  have F:x.toNat< (ZZ h).ns.length:=Z0;have D:=Zf4 F;obtain⟨a,z,d⟩:=P _<|Zfq F;generalize (ZZ h).ns[x.toNat]=f at*;obtain⟨A,O⟩:=Wu.1 z;obtain⟨n,k1,S⟩:=s.lh A O;refine⟨x.toNat,n,f,a,Z0,D,S,?_,d⟩;unfold R8;rw[if_pos T,D,Zfd,<-d.1,k1];rfl
 refine(Z19 r.cm s.cm (R8 h g τ) (by simp[R8]) (λx l y Q e=> ?_) (λx l=> ?_) (Bm r B) λx l=> ?_).2;obtain⟨i,n,f,a,rfl,o,u,w,C⟩:=key x l;obtain⟨j,m,k,Y,rfl,H,K,X,R⟩:=key y Q;have:n=m:=Z0;subst this;rw[u]at K;cases K;have:=Z4X r o H<|t f (Zfc o) k (Zfc H)<|C.1.symm.trans R.1;omega;obtain⟨i,n,f,a,rfl,o,u,w,C⟩:=key x l;omega;obtain⟨i,n,f,a,rfl,o,u,w,W,L,M,N⟩:=key x l;rw[w];simp only[vg,Vw.gr,outs,Zfl,Zfh,o,u,Zfn,Zfw,Vv,L,M,Bm r N]
def Ka{α:Type}{R:α->α->Prop}:∀ {l:List α},(∀a∈l,R a a)->RG R l l
 | [],_=>trivial
 |a::l,h=>⟨h a Z1,Ka λx d=>h x<|by simp[d]⟩
def Wk(r:Rt h p){j:Nat}(a:j<4){x:Ob}(hx:x∈p.at ((j:Int)+1)):(ZC h j x).ad=fstL (Zu h) ((j:Int)+1)+x.Y:=R0 r a (by rw[r.bz a];exact hx)
def Xh(r:Rt h p){j:Nat}(a:j<4){x:Ob}(hx:x∈p.at ((j:Int)+1)):ZC h j x∈X6 h 4 0:=KU (by rw[r.bz a];exact hx) Z0 Z0
end
end
section
section
variable {h g:Hp}{p q:Pts}
def FK(r:Rt h p)(hc:h.Z=xk)(b:Body g q)(f:Th g q)(e:Ext h p g q):Rt g q:=by
 obtain⟨n,a⟩:=e.H;have l:I h.H<=I g.H:=by rw[a,ZfN];omega
 have j:=r.fi;have k:=r.ld hc;refine⟨b,by rw[e.E];exact r.fk,by rw[e.aa];exact r.gy,by rw[e.aa];omega,λ_=>by rw[e.aa];omega,λd=> ?_,λ_=>f,λw a=> ?_⟩;rw[e.Z,hc]at d;cases d;rw[e.E]at a;exact e.iw Z0 Z0<|r.E w a
def Ext.eh(e:Ext h p g q){j:Int}(a:1<=j/\j<=4):Vm.fstL (Zu g) j=Vm.fstL (Zu h) j:=by
 have:=e.fst j 0 Z0;grind [ZM]
def Z4C(r:Rt h p)(hc:h.Z=xk){k:Int}(hk:3<=k/\k<=4){o:Ob}(W:o∈p.at k)(hg:o.gone=xw){a n:Nat}(ea:o.Y=a)(en:o.size=n):
  Rt (Yi h k a<|n+1) (p.mv k o (I h.H)<|Vm.fstL (Zu h) 1+I h.H)/\Ye (vg<|Yi h k a<|n+1)=Ye (vg h):=by
 have e:=r.toBody.ext r.fi hk W hg ea en;have s:=FK r hc (r.toBody.move r.fi hk W hg ea en) (IJ r.toBody (r.eo hc) r.fi hk W hg ea en) e;obtain⟨m1,m2,m3,m4,m5,_⟩:=yM h hk a<|n+1;obtain⟨c1,c2,c3,c4⟩:=Ji (p:=p) hk o (I h.H)<|Vm.fstL (Zu h) 1+I h.H;refine⟨s,?_⟩;obtain⟨l,rfl,a0⟩:∃l:Nat,k=(l:Int)+1/\l<4:=⟨(k-1).toNat,Z0,Z0⟩;obtain⟨N,P,m,d5,d6,em,d7,e3,e0⟩:=r.toTld.ob Z0 W;have:N=a:=Z0;subst this;have:P=n:=Z0;subst this;have T:(⟨I h.H,o.size,o.M,xw,0⟩:Ob)∈(p.mv ((l:Int)+1) o (I h.H)<|Vm.fstL (Zu h) 1+I h.H).at (((0:Nat):Int)+1):=by
  show _∈(p.mv _ _ _ _).at 1;rw[c1];exact ZgO _<|.head _
 have b3:V3 o.Y (Vm.fstL (Zu h) 1+I h.H) o∈(p.mv ((l:Int)+1) o (I h.H)<|Vm.fstL (Zu h) 1+I h.H).at ((l:Int)+1):=by
  rw[c3];exact ZgM W
 have K:∀(j:Nat) (x:Ob),j<4->x∈p.at ((j:Int)+1)->(j≠l\/x≠o)->x∈(p.mv ((l:Int)+1) o (I h.H)<|Vm.fstL (Zu h) 1+I h.H).at ((j:Int)+1):=by
  intro j x H C g;by_cases O:j=0;subst O;show _∈(p.mv _ _ _ _).at 1;rw[c1];exact Zge _ C;by_cases h1:j=1;subst h1;show _∈(p.mv _ _ _ _).at 2;rw[c2];exact C;by_cases M:j=l;subst M;rw[c3];refine Zfj.2 ⟨x,C,UV λe=> ?_⟩;obtain g|g:=g;exact g rfl;exact g<|r.toTld.cx Z0 W C e;have e7:(j:Int)+1=7- ((l:Int)+1):=Z0;rw[e7]at C⊢;rw[c4];exact C
 generalize hq:p.mv ((l:Int)+1) o (I h.H) (Vm.fstL (Zu h) 1+I h.H)=q at*;have R:∀(j:Nat) (x x':Ob),j<4->x∈p.at ((j:Int)+1)->x'∈q.at ((j:Int)+1)->x'.Y=x.Y->(ZC (Yi h ((l:Int)+1) N<|P+1) j x').ad=(ZC h j x).ad:=by
  intro j x x' H C F e';rw[Wk s H F,Wk r H C,e.eh Z0,e']
 have hA:=Wk r a0 W;have hB:=Wk s Z0 T;rw[e.eh Z0]at hB;obtain⟨A,Q⟩:∃A,A=(ZC h l o).ad:=⟨_,rfl⟩;obtain⟨B,b1⟩:∃B,B=Vm.fstL (Zu h) 1+I h.H:=⟨_,rfl⟩;have b0:(ZC (Yi h ((l:Int)+1) N<|P+1) 0 ⟨I h.H,o.size,o.M,xw,0⟩).ad=B:=by rw[hB,b1];rfl
 have S:∀(j:Nat) (x:Ob),j<4->x∈p.at ((j:Int)+1)->(j≠l\/x≠o)->(ZC h j x).ad≠A:=by
  intro j x H C g;rw[Q];refine Ky r H a0 (by rw[r.bz H];exact C) (by rw[r.bz a0];exact W) ?_;obtain g|g:=g;exact .inl g;by_cases M:j=l;subst M;exact .inr λe=>g<|r.toTld.cx Z0 W C e;exact .inl M
 have a4:∀(j:Nat) (x:Ob),j<4->x∈p.at ((j:Int)+1)->(j≠l\/x≠o)->(ZC h j x).ad≠B:=by
  intro j x H C g;have F:=K j x H C g;rw[<-R j x x H C F rfl,<-b0];refine Ky s H Z0 (by rw[s.bz H];exact F) (by rw[s.bz Z0];exact T) ?_;by_cases O:j=0;subst O;obtain⟨b,_,_,eb,_,_,hb,_⟩:=r.toTld.ob (k:=((0:Nat):Int)+1) Z0 C;have:Zx h (((0:Nat):Int)+1)=h.H:=rfl;rw[this]at hb;exact .inr (by show x.Y≠(I h.H:Int);omega);exact .inl O
 have hw:∀(j:Nat) (x:Ob),j<4->x∈p.at ((j:Int)+1)->(j≠l\/x≠o)->(ZC (Yi h ((l:Int)+1) N<|P+1) j x).sl=(ZC h j x).sl:=by
  intro j x H C g;obtain⟨b,c,_,eb,ec,_,hb,_⟩:=r.toTld.ob Z0 C;simp only[ZC];rw[<-Vx _ H,<-Vx _ H];have e1:(x.Y+1).toNat=b+1:=Z0;have e2:x.size.toNat=c:=Z0;rw[e1,e2];have a9:∀i:Nat,i<b+1+c->b+1<=i->(Zx (Yi h ((l:Int)+1) N<|P+1)<|(j:Int)+1)[i]?=(Zx h<|(j:Int)+1)[i]? :=by
   intro i Z d8;by_cases O:j=0;subst O;show(Yi h ((l:Int)+1) N<|P+1).H[i]?=h.H[i]?;have:Zx h (((0:Nat):Int)+1)=h.H:=rfl;rw[this]at hb;rw[m1,Zfx Z0];by_cases h1:j=1;subst h1;show(Yi h ((l:Int)+1) N<|P+1).ac[i]?=h.ac[i]?;rw[m2];refine BA hk Z0 Z0 ?_;by_cases M:j=l;subst M;rcases(r.ak ((j:Int)+1) Z0).apart x C o W with e|e|e;obtain g|g:=g;exact(g rfl).elim;exact(g e).elim;exact .inr<|.inl Z0;exact .inr<|.inr Z0;exact .inl Z0
  refine Zgx λi=> ?_;simp only[ZfE,Zfu];split;exact a9 _ Z0 Z0;rfl
 have b7:(ZC (Yi h ((l:Int)+1) N<|P+1) 0 ⟨I h.H,o.size,o.M,xw,0⟩).sl=(ZC h l o).sl:=by
  simp only[ZC];rw[<-Vx _ Z0,<-Vx _ a0];show(((Yi h ((l:Int)+1) N<|P+1).H).drop _).take _=_;rw[m1,show((I h.H:Int)+1).toNat=I h.H+1 by omega,show(o.Y+1).toNat=N+1 by omega,show o.size.toNat=P by omega,Zii,Zi3 Z0,ZfU,show I h.H+1-I h.H=1 by omega,List.drop_drop,List.drop_take,List.take_take];congr 1;omega
 have a5:∀w i j:Int,(1<=i/\i<=4)->(1<=j/\j<=4)->Gos h p w i j->SF h (Yi h ((l:Int)+1) N<|P+1) (λx=>if x=A then B else x) w w:=by
  intro w i j Z H hG;by_cases O:w=0;exact .inl ⟨O,O⟩;obtain⟨z,y,L,_,X,_,ha⟩:=r.iw Z H hG O;rw[r.bz L]at X;refine .inr ⟨O,O,?_⟩;cases G:y.gone;refine⟨ZC h z y,Wu.2 ⟨Xh r L X,G⟩,(Sq r (Xh r L X) G ha).symm,?_⟩;by_cases a2:z=l/\y=o;obtain⟨rfl,rfl⟩:=a2;dsimp only;rw[if_pos Q.symm];have:=Sp s (Xh s L b3) (by show(V3 _ _ _).gone=xk;rw[Uo rfl]) (w:=w) (by rw[ha,R z y _ L W b3 (J4 _ _ _).1]);rw[this];show(V3 _ _ _).target=B;rw[Uo rfl,b1];have g:z≠l\/y≠o:=by
   by_cases D:z=l;exact .inr λe=>a2 ⟨D,e⟩;exact .inl D
  dsimp only;rw[if_neg<|S z y L X g];have Y:=K z y L X g;have e':=R z y y L X Y rfl;rw[<-e'];exact Sq s (Xh s L Y) G (by rw[ha,e']);have e5:2<=z:=by
   by_cases hl:z<2;have:=r.bu hl (by rw[r.bz L];exact X);rw[this]at G;cases G;omega
  obtain⟨t,ht,h4,_⟩:=r.gone ((z:Int)+1) Z0 y X G;have a1:t∈p.at (((0:Nat):Int)+1):=ht;have c7:t.gone=xw:=r.bu (q:=0) Z0 (by rw[r.bz Z0];exact a1);have b5:(ZC h 0 t).ad=y.target:=by rw[Wk r Z0 a1,h4];rfl
  have a2:y≠o:=λe=>by rw[e,hg]at G;cases G
  refine⟨ZC h 0 t,Wu.2 ⟨Xh r Z0 a1,c7⟩,?_,?_⟩;rw[Sp r (Xh r L X) G ha,b5];rfl;dsimp only;rw[if_neg<|S 0 t Z0 a1<|.inl Z0,b5];have Y:=K z y L X<|.inr a2;rw[Sp s (Xh s L Y) G (by rw[ha,R z y y L X Y rfl])];rfl
 refine DH r s (λx=>if x=A then B else x) (λf hf=> ?_) (λf hf f' c5 he=> ?_) ?_;obtain⟨a6,a7⟩:=Wu.1 hf;obtain⟨j,x,_,H,C,rfl⟩:=UU a6;have c8:=C;rw[r.bz Z0]at C;obtain⟨b,c,d,eb,ec,ed,hb,_⟩:=r.toTld.ob Z0 C;have a3:RG (SF h (Yi h ((l:Int)+1) N<|P+1)<|λx=>if x=A then B else x) ((ZC h j x).sl.take (ZC h j x).ob.M.toNat)<|(ZC h j x).sl.take (ZC h j x).ob.M.toNat:=Ka λw a8=>by
  obtain⟨i,Z⟩:=Zfo a8;have b4:=(Zf3.1 Z).1;rw[Zg0]at b4;have c6:(ZC h j x).ob.M=x.M:=rfl;rw[c6]at Z b4;rw[ZfF Z0]at Z;have e4:=R1 r Z0 c8;have b6:(Zx h<|(j:Int)+1)[x.Y.toNat+1+i]?=J w:=by
   rw[Vx h Z0];simp only[ZC]at Z;rw[ZfF Z0,Zfu]at Z;rw[<-Z];congr 1;omega
  obtain⟨u,v,hu,hv,hG⟩:=qw<|r.ptr ((j:Int)+1) Z0 x C a7 i Z0 w b6;exact a5 w u v hu hv hG
 by_cases b8:j=l/\x=o;obtain⟨rfl,rfl⟩:=b8;refine⟨ZC _ 0 ⟨I h.H,x.size,x.M,xw,0⟩,Wu.2 ⟨Xh s Z0 T,rfl⟩,?_,rfl,by rw[b7],by rw[b7];exact a3⟩;dsimp only;rw[if_pos Q.symm,b0];have g:j≠l\/x≠o:=by
  by_cases D:j=l;exact .inr λe=>b8 ⟨D,e⟩;exact .inl D
 have F:=K j x Z0 C g;refine⟨ZC _ j x,Wu.2 ⟨Xh s Z0 F,a7⟩,?_,rfl,by rw[hw j x Z0 C g],by rw[hw j x Z0 C g];exact a3⟩;dsimp only;rw[if_neg<|S j x Z0 C g,R j x x Z0 C F rfl];obtain⟨a6,a7⟩:=Wu.1 hf;obtain⟨b2,d0⟩:=Wu.1 c5;obtain⟨j,x,_,H,C,rfl⟩:=UU a6;obtain⟨j',x',_,d9,F,rfl⟩:=UU b2;rw[r.bz Z0]at C F
 have b9:(ZC h j x).ad≠A->(ZC h j x).ad≠B:=λhn=>a4 j x Z0 C (by
  by_cases D:j=l;subst D;exact .inr λe=>hn (by rw[e,Q]);exact .inl D)
 have c0:(ZC h j' x').ad≠A->(ZC h j' x').ad≠B:=λhn=>a4 j' x' Z0 F (by
  by_cases D:j'=l;subst D;exact .inr λe=>hn (by rw[e,Q]);exact .inl D)
 split at he<;>split at he;rename_i h1 h2;rw[h1,h2];rename_i h1 h2;exact(c0 h2 he.symm).elim;rename_i h1 h2;exact(b9 h1 he).elim;exact he;rw[m5];exact Ka λw a8=>a5 w 1 2 Z0 Z0<|r.E w a8
def Z2b(r:Rt h p){w:Int}(A:Gos h p w 1 2\/Gos h p w 3 4):∃v g q,FwdTo h p w v g q/\Rt g q/\Ye (vg g)=Ye (vg h):=by
 obtain⟨v,g,q,f⟩:=r.toBody.fg r.fi A;refine⟨v,g,q,f,?_⟩;obtain⟨rfl,rfl⟩|⟨k,o,a,n,y,j,x,t,u,rfl,rfl,_⟩:=f.tf;exact⟨r,rfl⟩;have d:h.Z=xk:=by
  cases d:h.Z;obtain⟨_,B,C⟩:=r.rest d;have l:=r.ak k Z0;have z:Zx h k=[]:=by
   have:k=3\/k=4:=Z0;obtain rfl|rfl:=this;exact B;exact C
  rw[z]at l;rw[l.nil]at j;cases j;rfl
 exact Z4C r d y j x t u
end
end
section
section
variable {h g E:Hp}{p q s:Pts}
def Z7Y(r:Rt g q)(rt:Rt E s){i:Nat}{w v:Int}(hw:g.H[i]?=J w)(X:E.H=g.H.set i v)(M:E.ac=g.ac)(Z:E.E=g.E)
  (l:∀j:Nat,j<4->∀x∈s.at ((j:Int)+1),x∈q.at ((j:Int)+1)/\fstL (Zu E) ((j:Int)+1)=fstL (Zu g) ((j:Int)+1)/\(2<=j->Zx E ((j:Int)+1)=Zx g ((j:Int)+1)))
  (hv:(v=0↔w=0)/\(w≠0->VS g w=VS g v)/\(v=w\/Wt q.H i=xk)):Ye (vg E)=Ye (vg g):=by
 have L:∀(j:Nat) (x:Ob),j<4->x∈s.at ((j:Int)+1)->(ZC E j x).ad=(ZC g j x).ad:=λj x S B=>by
  obtain⟨K,h2,_⟩:=l j S x B;rw[Wk rt S B,Wk r S K,h2]
 have F:∀w i j:Int,(1<=i/\i<=4)->(1<=j/\j<=4)->Gos E s w i j->SF E g (λx=>x) w w:=by
  intro w i j N S R;by_cases H:w=0;exact .inl ⟨H,H⟩;obtain⟨z,y,D,_,C,_,p⟩:=rt.iw N S R H;have b0:=C;rw[rt.bz D]at C;have a3:=(l z D y C).1;have T:=p.trans<|L z y D C;refine .inr ⟨H,H,?_⟩;cases h:y.gone;exact⟨ZC E z y,Wu.2 ⟨Xh rt D C,h⟩,(Sq rt (Xh rt D C) h p).symm,by rw[L z y D C];exact Sq r (Xh r D a3) h T⟩;have b4:2<=z:=by
   by_cases hl:z<2;have:=rt.bu hl b0;rw[this]at h;cases h;omega
  obtain⟨t,ht,h4,_⟩:=rt.gone ((z:Int)+1) Z0 y C h;have P:t∈s.at (((0:Nat):Int)+1):=ht;have a1:(ZC E 0 t).ad=y.target:=by rw[Wk rt Z0 P,h4];rfl
  exact⟨ZC E 0 t,Wu.2 ⟨Xh rt Z0 P,rt.bu (q:=0) Z0 (by rw[rt.bz Z0];exact P)⟩,by rw[Sp rt (Xh rt D C) h p,a1];rfl,by rw[a1];exact Sp r (Xh r D a3) h T⟩
 refine(DH rt r (λx=>x) (λf hf=> ?_) (λf hf f' b3 he=>he) ?_).symm;obtain⟨a4,W⟩:=Wu.1 hf;obtain⟨j,x,_,S,B,rfl⟩:=UU a4;have a8:=B;rw[rt.bz Z0]at B;obtain⟨Q,_,a5⟩:=l j Z0 x B;obtain⟨b,c,d,eb,ec,ed,hb,_,b2⟩:=rt.toTld.ob Z0 B;have a6:=R1 rt Z0 a8;have a0:=R1 r Z0 (o:=x) (by rw[r.bz Z0];exact Q);have G:∀(k:Hp) (n:Nat),n<c->(ZC k j x).sl[n]?=(Zx k<|(j:Int)+1)[x.Y.toNat+1+n]? :=λk n O=>by
  rw[Vx k Z0];simp only[ZC];rw[ZfF Z0,Zfu];congr 1;omega
 have a2:∀n:Nat,n<c->(ZC E j x).sl[n]?=(ZC g j x).sl[n]? \/(j=0/\x.Y.toNat+1+n=i/\(ZC E j x).sl[n]?=J v/\(ZC g j x).sl[n]?=J w):=λn O=>by
  rw[G E n O,G g n O];by_cases h2:2<=j;exact .inl (by rw[a5 h2]);by_cases K:j=1;subst K;exact .inl (by show E.ac[_]?=g.ac[_]?;rw[M]);have H:j=0:=Z0;subst H;show E.H[_]?=g.H[_]? \/(_/\_/\E.H[_]?=J v/\g.H[_]?=J w);rw[X];by_cases N:x.Y.toNat+1+n=i;have:=(Zf3.1 hw).1;exact .inr ⟨rfl,N,by rw[N,Zgd this],by rw[N,hw]⟩;exact .inl (by rw[Zg6 (λe=>N e.symm)])
 have Y:(ZC E j x).ob.M=x.M:=rfl;refine⟨ZC g j x,Wu.2 ⟨Xh r Z0 Q,W⟩,(L j x Z0 B).symm,rfl,?_,jD (by simp only[Zg0,a6,a0]) λn a b' p A=> ?_⟩;refine Zgx λn=> ?_;rw[Zfu,Zfu,Y];by_cases O:x.M.toNat+n<c;obtain e|⟨rfl,N,e1,e2⟩:=a2 _ O;exact e.symm;obtain e|e:=hv.2.2;rw[e1,e2,e];obtain⟨o,ho,g1,g2⟩:=Tu.1 e;have t1:=r.ak 1 Z0;have a9:x∈q.H:=Q;obtain⟨oa,on,_,ea,en,em,_,_,b1⟩:=r.toTld.ob (k:=1) Z0 ho;obtain K|K|K:=t1.apart x a9 o ho;subst K;omega;omega;omega;rw[Zg4 Z0,Zg4 Z0];rw[Y]at p A;have O:n<x.M.toNat:=by
  have:=(Zf3.1 p).1;rw[Zg0]at this;omega
 rw[ZfF O]at p A;have R:SF E g (λx=>x) a a:=by
  obtain⟨u,t,hu,ht,R⟩:=qw<|rt.ptr ((j:Int)+1) Z0 x B W n Z0 a (by rw[<-G E n Z0];exact p);exact F a u t hu ht R
 obtain e|⟨_,_,e1,e2⟩:=a2 n Z0;rw[p,A]at e;cases e;exact R;rw[p]at e1;rw[A]at e2;cases e1;cases e2;obtain⟨g1,_⟩|⟨g1,_,fo,k1,k2,k3⟩:=R;exact .inl ⟨g1,hv.1.1 g1⟩;exact .inr ⟨g1,λe=>g1<|hv.1.2 e,fo,k1,k2,by rw[hv.2.1 (λe=>g1<|hv.1.2 e)];exact k3⟩;rw[Z];exact Ka λw a7=>F w 1 2 Z0 Z0<|rt.E w (by rw[Z];exact a7)
def Z7K(r:Rt h p)(hc:h.Z=xk){t:Pts}(S:ScanTo h p g t):Ye (vg g)=Ye (vg h):=by
 obtain⟨i,w,v,f,s,hi,H,eq,O,B,hh⟩:=S.via;obtain⟨a,K,hv,o⟩:Rt f s/\f.H[i]?=J w/\((v=0↔w=0)/\(w≠0->VS f w=VS f v)/\(v=w\/Wt s.H i=xk))/\Ye (vg f)=Ye (vg h):=by
  obtain⟨rfl,rfl,rfl⟩|⟨hp,C,F⟩:=hh;exact⟨r,H,⟨ZgX,λ_=>rfl,.inl rfl⟩,rfl⟩;have a:=FK r hc F.body (F.eo<|r.eo hc) F.ext;have D:=(Zf3.1 H).1;obtain⟨ws,L⟩:=F.ext.H;obtain⟨v',g',a0,⟨Z,_⟩,_,A⟩:=Z2b r C;have e:=F.fwd.symm.trans Z;simp only[Zff]at e;obtain⟨rfl,rfl,_⟩:=e;refine⟨a,by rw[L,Zfx D];exact H,⟨F.zero,λh0=> ?_,.inr hp⟩,A⟩;obtain⟨_,rfl,_⟩|⟨rfl,_⟩|⟨k,x,hk,d,W,N,e2⟩:=F.iz;rfl;exact absurd rfl h0;obtain⟨z,rfl,Q⟩:∃z:Nat,k=(z:Int)+1/\z<4:=⟨(k-1).toNat,Z0,Z0⟩;obtain⟨y,P,X,_⟩:=a.gone _ Z0 x d N;have l:y∈s.at (((0:Nat):Int)+1):=P;have R:(adr w).1=(ZC f z x).ad:=by
   obtain⟨_,_,_,ea,_⟩:=a.toTld.ob Z0 d;rw[Wk a Q d,W,Ud a.bf Z0]
  have T:(adr v).1=(ZC f 0 y).ad:=by
   have Y:v=ZM (Zu f) 1 y.Y:=by unfold ZM;omega
   rw[Wk a Z0 l,Y,Ud a.bf (a.toTld.gi P).1];rfl
  rw[Sp a (Xh a Q d) N R,Sq a (Xh a Z0 l) (a.bu (q:=0) Z0 (by rw[a.bz Z0];exact l)) T,Wk a Z0 l];exact X
 rw[<-o];have hE:g.H=f.H.set i v/\g.ac=f.ac/\g.E=f.E/\(g.Z=xk->Zu g=Zu f/\g.ah=f.ah/\g.aj=f.aj)/\∀j:Nat,j<2->fstL (Zu g) ((j:Int)+1)=fstL (Zu f) ((j:Int)+1):=by
  have G:Zu {f with H:=f.H.set i v,aa:=(i:Int)+1}=Zu f:=by unfold Zu;simp
  rw[eq];unfold YS;split;refine⟨rfl,rfl,rfl,λh=>Zel,λj u=> ?_⟩;rw[<-G];have:j=0\/j=1:=Z0;obtain rfl|rfl:=this<;>rfl;exact⟨rfl,rfl,rfl,λ_=>⟨G,rfl,rfl⟩,λj u=>by rw[G]⟩
 obtain⟨d1,d2,d3,d4,M⟩:=hE;refine Z7Y a S.rt K d1 d2 d3 (λj u x d=> ?_) hv;cases n:g.Z with
 |true=>
  obtain⟨l1,l2,l3⟩:=d4 n;rw[B n]at d;refine⟨d,by rw[l1],λh2=> ?_⟩;have:j=2\/j=3:=Z0;obtain rfl|rfl:=this;exact l2;exact l3
 |false=>
  have:=S.rt.empty n;have u:j=0\/j=1\/j=2\/j=3:=Z0;obtain rfl|rfl|rfl|rfl:=u;exact⟨by rw[<-show s.H=s.at (((0:Nat):Int)+1)from rfl,<-O.1];exact d,M 0 Z0,λh=>Z0⟩;exact⟨by rw[<-show s.ac=s.at (((1:Nat):Int)+1)from rfl,<-O.2];exact d,M 1 Z0,λh=>Z0⟩;rw[show t.at (((2:Nat):Int)+1)=t.ah from rfl,this.1]at d;cases d;rw[show t.at (((3:Nat):Int)+1)=t.aj from rfl,this.2]at d;cases d
def D3(r:Rt h p):∀k,Ye (vg<|Y3 h k)=Ye (vg h)
 |0=>rfl
 |k+1=>by
  rw[Sw];split;rename_i a;obtain⟨q,s⟩:=r.gc k;obtain⟨d,f,S⟩:=s.rt.aa a;rw[S.eq];exact(Z7K s.rt a S).trans (D3 r k);exact D3 r k
end
end
end Vm
end
section
namespace Vm
open Go
open Go.Proofs
def BY:Fn:=⟨25,[0,1,2,4,5,6,7,8,9,10,11,12,64,13,14,72,15,77,16,17,94,18,19,20,21],pQ [pR [(2,pS 0 7),pV 3 pF],pC [pK 25 37 []] [pV 4<|.s 25],pC [pK 26 16 [.mm 2 0 7]] [(5,pS 26 10)],pC [pK 27 22 [.mm 5 0 10]] [pV 6<|pa (pb (.len<|.m 5 5)<|.m 5 4)<|.s 27],pC [pK 28 22 [.mm 5 0 10]] [pV 7<|pa (pa (.len<|.m 5 5)<|.len<|.m 5 6)<|.s 28],pC [pK 29 15 [.mm 5 0 10]] [(8,pM (.sz (.ext (.s 29) 0) 2) 2),pV 9<|.ext (.s 29) 1],pC [pK 30 39 [.mm 5 0 10,.s 6]] [(10,pM (.sz (.ext (.s 30) 0) 10) 10),pV 11<|.ext (.s 30) 1],pQ [.am ⟨[.lt 31 []<|pn (.s 9)<|pI 0,.lt 32 []<|.ite (.s 31) pT<|pn (.s 11)<|pI 0],[([(31,xw)],pn (.s 11)<|pI 0),([(32,xw)],.m 10 3)],[pV 12<|.ite (.s 32) pT<|.m 10 3]⟩]<|pw (.s 12)<|px [pV 3 pF],pR [(13,pM (.mm 5 0 10) 10)],pQ [pR [pV 14<|pI 0]]<|.block 0<|.loop [0,1,2,3,4,5,6,7,8,9,10,11,12,13,14]<|pQ [pQ [.am ⟨[.lt 33 []<|pl (.s 14)<|.s 6],[([(33,xk)],.m 13 3)],[pV 15<|.ite (.s 33) (.m 13 3) pF]⟩]<|.cond (.s 15) .skip<|.exit 0,.block 1<|pQ [pR [pV 16<|pI 1],pi 17 (pj (.len<|.s 1)<|pI 0)<|pC [pK 34 38 [.ae (.ao (.s 1) (.bo .rem (.s 14)<|.len<|.s 1) 1) 0,pI 6]] [pV 16<|pa (pI 1)<|.s 34],pC [pK 35 39 [.mm 13 0 10,.s 16]] [(18,pM (.sz (.ext (.s 35) 0) 10) 10),pV 19<|.ext (.s 35) 1],pi 20 (pn (.s 19)<|pI 0)<|px [pV 3 pF]]<|pR [(13,pM (.mm 18 0 10) 10)]]<|pc 14,pC [pK 36 15 [.mm 13 0 10]] [(21,pM (.sz (.ext (.s 36) 0) 2) 2),pV 22<|.ext (.s 36) 1],pC [pK 37 41 [.mm 5 0 10]] [(23,pM (.sz (.ext (.s 37) 0) 10) 10),pV 24<|.ext (.s 37) 1],.am ⟨[.lt 38 []<|.s 4,.lt 39 []<|.ite (.s 38) (pe (.s 22)<|pI 0) pF,.lt 40 []<|.ite (.s 39) (pe (.s 24)<|pI 0) pF,.lt 41 []<|.ite (.s 40) (.un .not<|.m 13 3) pF,.call 42 [(41,xk)] (.id 40) xw xw [.mm 13 0 10,.mm 10 0 10],.lt 43 []<|.ite (.s 41) (.s 42) pF,.call 44 [(43,xk)] (.id 40) xw xw [.mm 13 0 10,.mm 23 0 10],.lt 45 []<|.ite (.s 43) (.s 44) pF,.call 46 [(45,xk)] (.id 18) xw xw [.mm 8 0 2,.mm 21 0 2],.lt 47 []<|.ite (.s 45) (.s 46) pF,.lt 48 []<|.ite (.s 47) (pe (pa (.len<|.m 13 7)<|.len<|.m 13 8)<|pI 0) pF,.lt 49 []<|.ite (.s 48) (pL (pa (.len<|.m 13 5)<|.len<|.m 13 6)<|.s 7) pF,.call 50 [(49,xk)] (.id 25) xw xw [.mm 13 0 10]],[([(38,xk)],pe (.s 22)<|pI 0),([(39,xk)],pe (.s 24)<|pI 0),([(40,xk)],.un .not<|.m 13 3),([(47,xk)],pe (pa (.len<|.m 13 7)<|.len<|.m 13 8)<|pI 0),([(48,xk)],pL (pa (.len<|.m 13 5)<|.len<|.m 13 6)<|.s 7)],[pV 3<|.ite (.s 49) (.s 50) pF]⟩] .ret,[(3,.v)]⟩
def F3:ZL (Yl Try.prog) fresh sig [.fz,.fz] [] Try.f11=J BY:=Z2
end Vm
end
section
namespace Vm
open Go Go.Proofs
def Z0j(a:SG):VC (Yl Try.prog) 37 xw []<|.bool xk:=up (Z0k a) (λx d=>by cases d)<|.bool _
instance fitScanK:FitF (Yl Try.prog) 10:=RV (P:=Try.prog) Try.func10 rfl Z2
def Rt.uj{h:Hp}{p:Pts}(r:Rt h p){b:Nat}(j:(I h.H:Int) -h.aa+Xb p<=b):(Y3 h b).Z=xw:=by
 obtain⟨q,s⟩:=r.gc b;cases a:(Y3 h b).Z;rfl;obtain⟨d,f,g⟩:=s.ld a;have:=s.rt.ld a;omega
def PP(a:SG){h:Hp}{p:Pts}(d:h.ok)(r:Rt h p):VC (Yl Try.prog) 41 xw [ZK h]<|.an [ZK<|Y3 h 9223372036854775807,vi 0]:=by
 have:=jw a d;unfold SY at this;rw[if_neg (by rw[r.right];simp)]at this;exact up this (L1<|Jk h)<|Ip _ _
instance fitScanE:FitF (Yl Try.prog) 11:=RV (P:=Try.prog) Try.func11 rfl Z2
section
section
variable {h g:Hp}{p q:Pts}
def Cp(h:Hp)(p:Pts)(g:Hp)(q:Pts):Prop:=∀k:Int,3<=k/\k<=4->∀(i:Nat) (o a:Ob),(p.at k)[i]?=J o->(q.at k)[i]?=J a->o.gone=xw->a.gone=xk->
 ∃t∈q.H,a.target=fstL (Zu g) 1+t.Y/\t.size=o.size/\t.M=o.M/\∀j:Nat,(j:Int)<o.size->g.H[t.Y.toNat+1+j]?=(Zx h k)[o.Y.toNat+1+j]?
def Cp.refl(h:Hp)(p:Pts):Cp h p h p:=λk j i o l f d g a=>by
 rw[f]at d;cases d;rw[g]at a;cases a
def E4(h:Hp)(p:Pts)(g:Hp)(q:Pts):Prop:=(∀k:Int,3<=k/\k<=4->(q.at k).map (λo=>(o.Y,o.size,o.M))=(p.at k).map (λo=>(o.Y,o.size,o.M)))/\
 ∀k:Int,3<=k/\k<=4->∀(i:Nat) (o a:Ob),(p.at k)[i]?=J o->(q.at k)[i]?=J a->(o.gone=xk->a=o)/\(a.gone=xw->a=o/\∀j:Nat,(j:Int)<=o.size->(Zx g k)[o.Y.toNat+j]?=(Zx h k)[o.Y.toNat+j]?)
def Cp.move(c:Cp h p g q)(e:E4 h p g q)(r:Body g q)(P:g.aa<=I g.H){k:Int}(M:3<=k/\k<=4){o:Ob}(N:o∈q.at k)(X:o.gone=xw){a n:Nat}(ea:o.Y=a)(en:o.size=n):
  Cp h p (Yi g k a<|n+1) (q.mv k o (I g.H)<|fstL (Zu g) 1+I g.H):=by
 have ex:=r.ext P M N X ea en;obtain⟨C,F,m,a0,a1,em,a2,a5,a4⟩:=r.toTld.ob (k:=k) Z0 N;have:C=a:=Z0;subst this;have:F=n:=Z0;subst this;obtain⟨m1,_⟩:=yM g M C<|F+1;obtain⟨W,e2,e3,e4⟩:=Ji (p:=q) M o (I g.H)<|fstL (Zu g) 1+I g.H;have A:fstL (Zu<|Yi g k C<|F+1) 1=fstL (Zu g) 1:=by
  have:=ex.fst 1 0<|.inl rfl;unfold ZM at this;omega
 intro j K i x T H D hx l;have Y:I (q.at j)=I (p.at j):=by have:=Zgb List.length<|e.1 j K;simpa using this
 have a3:=(Zf3.1 H).1;have w:(q.at j)[i]?=J ((q.at j)[i]'Z0):=Zf4 _;generalize (q.at j)[i]'Z0=y at w;rw[A];have f:y.gone=xk->T=y->∃t∈(q.mv k o (I g.H)<|fstL (Zu g) 1+I g.H).H,T.target=fstL (Zu g) 1+t.Y/\t.size=x.size/\t.M=x.M/\∀u:Nat,(u:Int)<x.size->(Yi g k C<|F+1).H[t.Y.toNat+1+u]?=(Zx h j)[x.Y.toNat+1+u]? :=λhy G=>by
  subst G;obtain⟨t,Z,c1,c2,c3,c4⟩:=c j K i x T H w hx hy;have Q:=r.toTld.ob (k:=1) Z0 Z;obtain⟨b,d,_,eb,ed,_,hb,_⟩:=Q;have O:Zx g 1=g.H:=rfl;rw[O]at hb;refine⟨t,by show t∈Pts.at _ 1;rw[W];exact Zge _ Z,c1,c2,c3,λz S=> ?_⟩;rw[m1,Zfx Z0];exact c4 z S
 by_cases L:j=k;subst L;rw[e3,Zfl,w,Zfn]at D;cases D;by_cases B:y.Y=o.Y;have R:y=o:=r.toTld.cx Z0 N (Zfc w) B;subst R;obtain⟨d1,d2⟩:=(e.2 j K i x y H w).2 X;refine⟨⟨I g.H,y.size,y.M,xw,0⟩,by show _∈Pts.at _ 1;rw[W];exact ZgO _<|.head _,by rw[Uo rfl],by rw[d1],by rw[d1],λz S=> ?_⟩;rw[<-d1]at S⊢;have:=d2 (1+z) (by rw[<-d1];omega);rw[<-d1,<-Zgi]at this;rw[<-this,m1];show(_++_)[(I g.H:Int).toNat+1+z]?=_;rw[Zfh,Zfs Z0,Zfu,ZfF Z0];congr 1;omega;rw[UV B]at l f⊢;exact f l rfl;have e7:j=7-k:=Z0;subst e7;rw[e4,w]at D;cases D;exact f l rfl
def Body.lq(r:Body g q)(d:g.aa<=I g.H){w v:Int}{g':Hp}{j:Pts}(f:FwdTo g q w v g' j)(l:E4 h p g q)(c:Cp h p g q):Cp h p g' j:=by
 obtain⟨rfl,rfl⟩|⟨k,o,a,n,y,z,x,t,u,rfl,rfl,_⟩:=f.tf;exact c;exact c.move l r d y z x t u
end
end
section
section
variable {h:Hp}{p:Pts}
def jA(i:Nat)(g:Hp)(q:Pts):Prop:=∀o∈q.H,∃j:Nat,j<i/\g.E[j]?=J (ZM (Zu g) 1 o.Y)
def G5(r:Rt h p)(hc:h.Z=xw):∀i,i<=xq h.E->∃q,FlipI h p i (Xf (YL h) i) q/\Cp (YL h) (Tr p) (Xf (YL h) i) q/\jA i (Xf (YL h) i) q
 |0,_=>⟨Tr p,⟨G3 r hc,λo g=>(by cases g),.refl _ _,rfl,λ_ _=>rfl,λj B=>Z0⟩,.refl _ _,λo g=>(by cases g)⟩
 |i+1,F=>by
  obtain⟨q,I,c,R⟩:=G5 r hc i Z0;have t:(Xf (YL h) i).aa<=(Xf (YL h) i).H.length:=by
   have:(Xf (YL h) i).aa=0:=I.ext.aa;omega
  obtain⟨v,l,D,f⟩:=I.body.fg t<|.inr<|An r Z0 I;have y:=I.body.lq t f ⟨I.ext.iq,I.ext.gone⟩ c;have C:(Xf (YL h) i).E[i]?=J h.E[i]:=by rw[I.rest i<|Zf9 _];exact Zf4 Z0
  have H:=I.len;have z:=f.ext.E;have w:∀a,ZM (Zu l) 1 a=ZM (Zu<|Xf (YL h) i) 1 a:=λa=>f.ext.fst 1 a<|.inl rfl;have A:Xf (YL h) (i+1)= {l with E:=(Xf (YL h) i).E.set i v}:=by
   show TW (Xf (YL h) i) i=_;unfold TW;rw[C,Zfw,f.fwd,z]
  refine⟨D,G7 r Z0 I f,?_,?_⟩<;>rw[A];exact y;intro o g;have u:o∈q.H->∃j:Nat,j<i+1/\((Xf (YL h) i).E.set i v)[j]?=J (ZM (Zu l) 1 o.Y):=λd=>by
   obtain⟨j,B,e⟩:=R o d;refine⟨j,Z0,?_⟩;rw[Zg6 Z0,e,w]
  have:o∈q.H\/ZM (Zu l) 1 o.Y=v:=by
   obtain⟨_,rfl⟩|⟨k,x,a,n,G,_,_,_,_,_,rfl,rfl⟩:=f.tf;exact .inl g;rw[w];obtain d|d:=Zfy.1 g;exact .inl d;rw[Zg2.1 d];exact .inr rfl
  obtain d|d:=this;exact u d;refine⟨i,Z0,?_⟩;show((Xf (YL h) i).E.set i v)[i]?=J (ZM (Zu l) 1 o.Y);rw[Zgd Z0,d]
end
end
section
section
variable {h g:Hp}{p q:Pts}
def Fc{G:Gr}(d:∀x∈G.E,x= -1):Ye G=⟨[],G.E⟩:=by
 have g:order G=[]:=Z5r λx a=>by rw[d x a];omega
 have f:We [] G.E=G.E:=by
  unfold We
  conv=>rhs;rw[<-Zjj G.E]
  refine Zgr λx a=> ?_;rw[d x a];rfl
 simp only[Ye,g,Zgn,f]
def L6(F:Hp)(A:Int):Int:=(Y2 (ZZ F).tm A).getD A
def JG(F:Hp)(w:Int):VS F w=L6 F (adr w).1:=rfl
def G8(r:Rt h p)(hc:h.Z=xw):∃g q,FlipI h p (xq h.E) g q/\Wr h=Wa g/\jA (xq h.E) g q/\Ye (vg<|Wa g)=Ye (vg h):=by
 obtain⟨q,I,c,R⟩:=G5 r hc (xq h.E)<|Zf9 _;have hF:Wr h=Wa (Xf (YL h)<|xq h.E):=rfl;obtain⟨s,hz⟩:=Al r hc I;refine⟨_,q,I,hF,R,?_⟩;clear hF R;generalize Xf (YL h) (xq h.E)=g at*;obtain⟨_,a7,a5⟩:=r.rest hc;by_cases h0:0<xq g.H;case neg=>
  obtain⟨_,_,_,d8⟩:=hz h0;have e8:∀w∈h.E,w=0:=λw hw=>by
   obtain⟨j,B⟩:=Zfo hw;have a4:=(Zf3.1 B).1;have c5:j<xq g.E:=by rw[I.len];exact a4
   obtain⟨_,a0⟩:=I.ta j a4 w _ B<|Zf4 c5;have:=d8 _<|Zfq c5;obtain⟨h1,_⟩|⟨k,o,hk,ho,_,M,e⟩:=a0;exact h1;omega
  have S:(Wa g).E=g.E:=by unfold Wa;split<;>rfl
  have z1:(vg h).E=List.replicate (xq h.E) (-1):=by
   refine Zj5.2 ⟨by simp[vg,Vw.gr],λx d=> ?_⟩;simp only[vg,Vw.gr,Zfj]at d;obtain⟨w,hw,rfl⟩:=d;rw[e8 w hw];simp[Vw.cl]
  have z2:(vg<|Wa g).E=List.replicate (xq h.E) (-1):=by
   refine Zj5.2 ⟨by simp[vg,Vw.gr,S,I.len],λx d=> ?_⟩;simp only[vg,Vw.gr,Zfj,S]at d;obtain⟨w,hw,rfl⟩:=d;rw[d8 w hw];simp[Vw.cl]
  rw[Fc (G:=vg h) λx d=>by rw[z1]at d;exact(ZiC.1 d).2,Fc (G:=vg<|Wa g) λx d=>by rw[z2]at d;exact(ZiC.1 d).2,z1,z2]
 rw[if_pos h0]at s;have eF:Wa g= {g with Z:=xk}:=by unfold Wa;rw[if_pos h0]
 rw[eF]at s⊢;obtain⟨F,Z⟩:∃F:Hp,F= {g with Z:=xk}:=⟨_,rfl⟩;rw[<-Z]at s⊢;have f4:F.H=g.H:=by rw[Z]
 have Q:F.E=g.E:=by rw[Z]
 have O:Zu F=Zu g:=by rw[Z];rfl
 have Y:∀k,Zx F k=Zx g k:=λk=>by rw[Z];rfl
 have e9:∀j:Nat,j<2->fstL (Zu F) (((j+2:Nat):Int)+1)=fstL (Zu h) ((j:Int)+1):=λj B=>by
  have T:=I.ext.fst (((j+2:Nat):Int)+1) 0 Z0;have X:=Ao h ((j:Int)+1) 0 Z0;rw[show(j:Int)+1+2=((j+2:Nat):Int)+1 by omega]at X;rw[O];have e3:ZM (Zu g) (((j+2:Nat):Int)+1) 0=ZM (Zu {g with E:=h.E}) (((j+2:Nat):Int)+1) 0:=rfl;unfold ZM at T X e3;omega
 have e7:∀j:Nat,j<2->Zx (YL h) (((j+2:Nat):Int)+1)=Zx h ((j:Int)+1)/\(Tr p).at (((j+2:Nat):Int)+1)=p.at ((j:Int)+1):=λj B=>by
  have:j=0\/j=1:=Z0;obtain rfl|rfl:=this<;>exact⟨rfl,rfl⟩
 have a6:∀(j:Nat) (x:Ob),j<2->x∈p.at ((j:Int)+1)->∃D,D∈q.at (((j+2:Nat):Int)+1)/\D.Y=x.Y/\(ZC F (j+2) D).ad=(ZC h j x).ad/\
   ((D.gone=xw/\D=x/\(ZC F (j+2) D).sl=(ZC h j x).sl)\/(D.gone=xk/\∃t∈q.at (((0:Nat):Int)+1),(ZC F 0 t).ad=D.target/\t.M=x.M/\(ZC F 0 t).sl=(ZC h j x).sl)):=by
  intro j x B d;obtain⟨a,n,m,ea,en,em,d9,_⟩:=r.toTld.ob Z0 d;obtain⟨i,W⟩:=Zfo d;obtain⟨p1,p2⟩:=e7 j B;have a3:((Tr p).at<|((j+2:Nat):Int)+1)[i]?=J x:=by rw[p2];exact W
  have f2:x.gone=xw:=r.bu B (by rw[r.bz Z0];exact d);have c8:=I.ext.iq (((j+2:Nat):Int)+1) Z0;have f5:xq (q.at<|((j+2:Nat):Int)+1)=xq ((Tr p).at<|((j+2:Nat):Int)+1):=by have:=Zgb List.length c8;simpa using this
  have b4:=(Zf3.1 a3).1;have hq:(q.at<|((j+2:Nat):Int)+1)[i]?=J ((q.at<|((j+2:Nat):Int)+1)[i]'Z0):=Zf4 _;generalize (q.at<|((j+2:Nat):Int)+1)[i]'Z0=D at hq;have a1:=Zgb (λl=>l[i]?) c8;simp only[Zfl,hq,a3,Zfn,Zf2,Zff]at a1;obtain⟨q1,q2,q3⟩:=a1;have hm:=Zfc hq;have K:(ZC F (j+2) D).ad=(ZC h j x).ad:=by
   rw[Wk s Z0 hm,Wk r Z0 d,e9 j B,q1]
  refine⟨D,hm,q1,K,?_⟩;cases M:D.gone;obtain⟨d1,d2⟩:=(I.ext.gone (((j+2:Nat):Int)+1) Z0 i x D a3 hq).2 M;subst d1;refine .inl ⟨rfl,rfl,?_⟩;simp only[ZC];rw[<-Vx _ Z0,<-Vx _ Z0,Y];refine Zgx λz=> ?_;simp only[ZfE,Zfu];split;have:=d2 (1+z) Z0;rw[p1]at this;rw[show(D.Y+1).toNat+z=D.Y.toNat+(1+z)by omega];exact this;rfl;obtain⟨t,H,c1,c2,c3,c4⟩:=c (((j+2:Nat):Int)+1) Z0 i x D a3 hq f2 M;have f6:=(I.body.toTld.gi H).1;refine .inr ⟨rfl,t,H,?_,c3,?_⟩;rw[Wk s Z0 H,O,c1];rfl;simp only[ZC];rw[<-Vx _ Z0,<-Vx _ Z0,Y,c2];refine Zgx λz=> ?_;simp only[ZfE,Zfu];split;have:=c4 z Z0;rw[p1]at this;rw[show(x.Y+1).toNat+z=x.Y.toNat+1+z by omega,show(t.Y+1).toNat+z=t.Y.toNat+1+z by omega];exact this;rfl
 have b7:∀f∈(ZZ h).ns,∃(j:Nat) (x:Ob),j<2/\x∈p.at ((j:Int)+1)/\f=ZC h j x:=λf hf=>by
  obtain⟨e4,_⟩:=Wu.1 hf;obtain⟨j,x,_,B,d,rfl⟩:=UU e4;rw[r.bz Z0]at d;refine⟨j,x,?_,d,rfl⟩;by_cases b6:j<2;exact b6;have H:=r.ak ((j:Int)+1) Z0;have b8:Zx h ((j:Int)+1)=[]:=by
   have:j=2\/j=3:=Z0;obtain rfl|rfl:=this;exact a7;exact a5
  rw[b8]at H;rw[H.nil]at d;cases d
 have e5:∀(j:Nat) (x:Ob),j<2->x∈p.at ((j:Int)+1)->ZC h j x∈(ZZ h).ns:=λj x B d=>Wu.2 ⟨Xh r Z0 d,r.bu B (by rw[r.bz Z0];exact d)⟩;have L:∀A:Int,1<=A->(adr<|2*A+1).1=A:=λA hA=>by
  unfold adr;rw[if_neg Z0,if_neg Z0];show(2*A+1) / 2=A;omega
 have a8:∀(j:Nat) (x:Ob),j<2->x∈p.at ((j:Int)+1)->1<=(ZC h j x).ad:=λj x B d=>by
  obtain⟨a,_,_,ea,_⟩:=r.toTld.ob Z0 d;rw[Wk r Z0 d];have:=WQ r.bf (k:=(j:Int)+1);omega
 have c7:∀(j:Nat) (x:Ob),j<2->x∈p.at ((j:Int)+1)->∃f'∈(ZZ F).ns,f'.ad=L6 F (ZC h j x).ad/\f'.ob.M=x.M/\f'.sl=(ZC h j x).sl:=by
  intro j x B d;obtain⟨D,a2,_,K,hh⟩:=a6 j x B d;have hA:=a8 j x B d;obtain⟨M,rfl,d0⟩|⟨M,t,H,T,X,e3⟩:=hh;refine⟨ZC F (j+2) D,Wu.2 ⟨Xh s Z0 a2,M⟩,?_,rfl,d0⟩;have:=Sq s (Xh s Z0 a2) M (w:=2*(ZC h j D).ad+1) (by rw[L _ hA,K]);rw[JG,L _ hA]at this;exact this.symm;refine⟨ZC F 0 t,Wu.2 ⟨Xh s Z0 H,s.bu (q:=0) Z0 (by rw[s.bz Z0];exact H)⟩,?_,X,e3⟩;have:=Sp s (Xh s Z0 a2) M (w:=2*(ZC h j x).ad+1) (by rw[L _ hA,K]);rw[JG,L _ hA]at this;rw[this,T];rfl
 have a9:∀w i j:Int,(1<=i/\i<=4)->(1<=j/\j<=4)->Gos h p w i j->w=0\/∃f∈(ZZ h).ns,(adr w).1=f.ad/\f.ad=VS h w:=λw i j W B hG=>by
  by_cases C:w=0;exact .inl C;obtain⟨z,y,hz,_,hy,_,ha⟩:=r.iw W B hG C;have N:=hy;rw[r.bz hz]at N;have c0:z<2:=by
   by_cases b6:z<2;exact b6;have H:=r.ak ((z:Int)+1) Z0;have b8:Zx h ((z:Int)+1)=[]:=by
    have:z=2\/z=3:=Z0;obtain rfl|rfl:=this;exact a7;exact a5
   rw[b8]at H;rw[H.nil]at N;cases N
  exact .inr ⟨_,e5 z y c0 N,ha,(Sq r (Xh r hz N) (r.bu c0 hy) ha).symm⟩
 refine DH r s (L6 F) (λf hf=> ?_) (λf hf f' b3 he=> ?_) (jD (by rw[Q,I.len]) λj w v hw hv=> ?_);obtain⟨j,x,B,d,rfl⟩:=b7 f hf;obtain⟨f',b3,T,X,e3⟩:=c7 j x B d;refine⟨f',b3,T,X,by rw[e3],?_⟩;rw[e3];refine Ka λw f1=> ?_;have d6:x∈obP h j:=by rw[r.bz Z0];exact d
 obtain⟨a,n,m,ea,en,em,d9,_⟩:=r.toTld.ob Z0 d;obtain⟨i,W⟩:=Zfo f1;have b4:=(Zf3.1 W).1;rw[Zg0]at b4;have e6:(ZC h j x).ob.M=x.M:=rfl;rw[e6]at W b4;rw[ZfF Z0]at W;have d0:=R1 r Z0 d6;have d5:(Zx h<|(j:Int)+1)[x.Y.toNat+1+i]?=J w:=by
  rw[Vx h Z0];simp only[ZC]at W;rw[ZfF Z0,Zfu]at W;rw[<-W];congr 1;omega
 obtain⟨u,v,hu,hv,hG⟩:=qw<|r.ptr ((j:Int)+1) Z0 x d (r.bu B d6) i Z0 w d5;obtain rfl|⟨f,hf,ha,hr⟩:=a9 w u v hu hv hG;exact .inl ⟨rfl,rfl⟩;by_cases C:w=0;exact .inl ⟨C,C⟩;exact .inr ⟨C,C,f,hf,hr,by rw[JG,ha]⟩;obtain⟨j,x,B,d,rfl⟩:=b7 f hf;obtain⟨j',D,b5,a2,rfl⟩:=b7 f' b3;have b0:∀(j:Nat) (x:Ob),j<2->x∈p.at ((j:Int)+1)->∃y,y∈q.at (((j+2:Nat):Int)+1)/\(ZC F (j+2) y).ad=(ZC h j x).ad/\((y.gone=xw/\L6 F (ZC h j x).ad=(ZC h j x).ad)\/(y.gone=xk/\L6 F (ZC h j x).ad=y.target/\∃t∈q.at (((0:Nat):Int)+1),(ZC F 0 t).ad=y.target)):=by
  intro j x B d;obtain⟨y,hy,_,K,hh⟩:=a6 j x B d;have hA:=a8 j x B d;refine⟨y,hy,K,?_⟩;obtain⟨M,rfl,_⟩|⟨M,t,H,T,_⟩:=hh;have:=Sq s (Xh s Z0 hy) M (w:=2*(ZC h j y).ad+1) (by rw[L _ hA,K]);rw[JG,L _ hA,K]at this;exact .inl ⟨M,this⟩;have:=Sp s (Xh s Z0 hy) M (w:=2*(ZC h j x).ad+1) (by rw[L _ hA,K]);rw[JG,L _ hA]at this;exact .inr ⟨M,this,t,H,T⟩
 obtain⟨y,hy,d7,f3⟩:=b0 j x B d;obtain⟨y',N,b2,b1⟩:=b0 j' D b5 a2;have c6:∀(i:Nat) (z t:Ob),i<2->z∈q.at (((i+2:Nat):Int)+1)->t∈q.at (((0:Nat):Int)+1)->(ZC F (i+2) z).ad≠(ZC F 0 t).ad:=λi z t W hz H=>Ky s Z0 Z0 (by rw[s.bz Z0];exact hz) (by rw[s.bz Z0];exact H)<|.inl Z0;obtain⟨g1,n1⟩|⟨g1,n1,t,H,T⟩:=f3;obtain⟨g2,n2⟩|⟨g2,n2,t',P,X⟩:=b1;rw[<-n1,he,n2];exact(c6 j y t' B hy P<|by rw[d7,<-n1,he,n2,X]).elim;obtain⟨g2,n2⟩|⟨g2,n2,t',P,X⟩:=b1;exact(c6 j' y' t b5 N H<|by rw[b2,<-n2,<-he,n1,T]).elim;have f0:y.target=y'.target:=by rw[<-n1,he,n2]
 have hR:∀(i:Nat) (z:Ob),i<2->z∈q.at (((i+2:Nat):Int)+1)->z.gone=xk->Res g q (ZM (Zu g) (((i+2:Nat):Int)+1) z.Y) (2*z.target+1):=λi z W hz M=>.inr ⟨_,z,Z0,hz,rfl,M,rfl⟩;have:=Res.inj I.body I.eo (hR j y B hy g1) (by rw[f0];exact hR j' y' b5 N g2);rw[<-d7,<-b2,Wk s Z0 hy,Wk s Z0 N,O];unfold ZM at this;omega;rw[Q]at hv;have a4:=(Zf3.1 hw).1;obtain⟨_,a0⟩:=I.ta j a4 w v hw hv;obtain⟨h1,h2⟩|⟨k,o,hk,ho,T,M,X⟩:=a0;exact .inl ⟨h1,h2⟩;obtain⟨z,rfl,c0⟩:∃z:Nat,k=((z+2:Nat):Int)+1/\z<2:=⟨(k-3).toNat,Z0,Z0⟩;have C:w≠0:=by
  rw[T];exact I.body.toTld.um Z0 ho
 obtain h1|⟨f,hf,ha,hr⟩:=a9 w 1 2 Z0 Z0<|r.E w<|Zfc hw;exact(C h1).elim;refine .inr ⟨C,Z0,f,hf,hr,?_⟩;obtain⟨t,H,c1,_⟩:=I.body.gone _ Z0 o ho M;have P:t∈q.at (((0:Nat):Int)+1):=H;have b9:(ZC F 0 t).ad=o.target:=by rw[Wk s Z0 P,O,c1];rfl
 have hT:1<=o.target:=by
  rw[<-b9,Wk s Z0 P];obtain⟨b,_,_,eb,_⟩:=s.toTld.ob Z0 P;have:=WQ s.bf (k:=((0:Nat):Int)+1);omega
 have e0:(adr w).1=(ZC F (z+2) o).ad:=by
  rw[T,I.body.toTld.kw Z0 ho,Wk s Z0 ho,O]
 have h3:=Sp s (Xh s Z0 ho) M e0;have h4:=Sq s (Xh s Z0 P) (s.bu (q:=0) Z0 (by rw[s.bz Z0];exact P)) (w:=v) (by rw[X,L _ hT,b9]);rw[h4,b9,<-ha,<-JG,h3];rfl
end
end
section
section
variable {F:Hp}{q:Pts}
def Bj(s:Rt F q):∀o∈q.H,∃n:Nat,(ZZ F).cl (ZM (Zu F) 1 o.Y)=n/\(ZZ F).ns[n]?=J (ZC F 0 o):=λo a=>by
 have g:o∈q.at (((0:Nat):Int)+1):=a;obtain⟨n,f,j,d,l⟩:=s.gn (w:=ZM (Zu F) 1 o.Y) (.inr ⟨1,o,.inl rfl,a,rfl⟩)<|s.toTld.um (k:=1) Z0 a;have p:=Wu.1<|Zfc d;have h:=Wk s Z0 g;have:f=ZC F 0 o:=J1 s p.1 (Xh s Z0 g) (by rw[h];unfold ZM at l;simp only[Int.natCast_zero,Int.zero_add]at*;omega);exact⟨n,j,this▸d⟩
def Bi(F:Hp)(q:Pts):List Int:=q.H.map λo=>(ZZ F).cl<|ZM (Zu F) 1 o.Y
def Z49(s:Rt F q):(Bi F q).Nodup/\((Bi F q).map<|Qx<|vg F).sum=I F.H:=by
 have t:=s.ak 1 Z0;refine⟨ZiO.2 ((List.Pairwise.and_mem.1 t.dj).imp λ{a b} y k=> ?_),?_⟩;obtain⟨h,l,A⟩:=y;have e:=s.sb (w:=ZM (Zu F) 1 a.Y) (v:=ZM (Zu F) 1 b.Y) (.inr ⟨1,a,.inl rfl,h,rfl⟩) (.inr ⟨1,b,.inl rfl,l,rfl⟩) k;obtain⟨_,g⟩:=s.toTld.inj (k:=1) (j:=1) Z0 Z0 h l e;subst g;omega;have f:Wx q.H=I F.H:=by
  have:=t.sum<|Zga _;simpa[Zx]using this
 unfold Bi;rw[Zh0,<-f];unfold Wx;congr 1;refine Zgr λo r=> ?_;obtain⟨n,u,x⟩:=Bj s o r;have p:o∈obP F 0:=by rw[s.bz Z0];exact r
 have z:=R1 s (q:=0) Z0 p;obtain⟨a,b,c,_,g,B,_,_,C⟩:=s.mz (q:=0) Z0 p;have d:(ZC F 0 o).ob=o:=rfl;simp only[Function.comp,u,Qx,vg,Vw.gr,Zfh,Zfl,x,Zfn,Zfw,Uu,Vv,ZfC,Zg0,ZgI,z,d];omega
def Z24{h:Hp}{p:Pts}(r:Rt h p)(hc:h.Z=xw){g:Hp}(I:FlipI h p (xq h.E) g q)(R:jA (xq h.E) g q):∃d,Rt (Wa g) d/\d.ac=[]/\∀o∈d.H,ZM (Zu<|Wa g) 1 o.Y∈(Wa g).E:=by
 obtain⟨s,k⟩:=Al r hc I;refine⟨_,s,?_⟩;unfold Wa;split
 exact⟨I.ext.gj,λo a=>by
  obtain⟨j,_,f⟩:=R o a;exact Zfc f⟩
 exact⟨rfl,λo a=>by cases a⟩
end
end
section
def QF(g:Hp)(q:Pts):Prop:=∀o∈q.H,ZM (Zu g) 1 o.Y∈g.E\/∃i:Nat,(i:Int)<g.aa/\(i:Int)<o.Y/\Wt q.H i=xk/\g.H[i]?=J (ZM (Zu g) 1 o.Y)
section
variable {h g F:Hp}{p q:Pts}
def Z3H{l a:Zh}{i:Int}(h:∀o∈l,o∈a)(g:Wt l i=xk):Wt a i=xk:=by
 obtain⟨o,f,d⟩:=Tu.1 g;exact Tu.2 ⟨o,h o f,d⟩
def ScanTo.ve(S:ScanTo h p g q)(L:QF h p):QF g q:=by
 obtain⟨i,w,v,f,s,hi,P,eq,⟨A,_⟩,_,K⟩:=S.via;obtain⟨X,Y,Z,n4⟩:=S.num;obtain⟨_,_,l⟩:=S.H;obtain⟨t,O⟩:=S.gk;have H:∀a,ZM (Zu g) 1 a=ZM (Zu h) 1 a:=λa=>by simp[ZM,fstL,Zu,X,Y,Z]
 intro o r;rw[H,S.E];by_cases u:o∈p.H;obtain d|⟨j,Q,R,T,W⟩:=L o u;exact .inl d;exact .inr ⟨j,Z0,R,Z3H (λx B=>by rw[O];exact Zge _ B) T,by rw[l j Q];exact W⟩;rw[A]at r;obtain⟨_,_,rfl⟩|⟨N,_,F⟩:=K;exact absurd r u;obtain⟨_,rfl⟩|⟨k,x,a,n,hk,B,_,_,_,e1,C,D⟩:=F.tf;exact absurd r u;have M:=(Zf3.1 P).1;obtain⟨ws,z⟩:=F.ext.H;have y:o∈p.H++[⟨I h.H,x.size,x.M,xw,0⟩]:=by rw[C]at r;exact r
 obtain d|d:=Zfy.1 y;exact absurd d u;have G:o.Y=I h.H:=by rw[Zg2.1 d]
 refine .inr ⟨i,Z0,Z0,by rw[A];exact N,?_⟩;have:g.H=f.H.set i v:=by rw[eq];unfold YS;split<;>rfl
 rw[this,Zgd (by rw[z,ZfN];omega),D,G]
def Rt.so(r:Rt h p)(L:QF h p):∀k,∃q,Rt (Y3 h k) q/\QF (Y3 h k) q
 |0=>⟨p,r,L⟩
 |k+1=>by
  obtain⟨q,s,l⟩:=r.so L k;rw[Sw];cases a:(Y3 h k).Z;exact⟨q,s,l⟩;obtain⟨f,d,S⟩:=s.aa a;rw[if_pos rfl,S.eq];exact⟨d,S.rt,S.ve l⟩
def Ho(s:Rt F q)(L:QF F q):∀n:Nat,∀o∈q.H,o.Y<n->(ZZ F).cl (ZM (Zu F) 1 o.Y)∈order (vg F)
 |0,o,d,z=>by
  obtain⟨a,_,_,h,_⟩:=s.toTld.ob (k:=1) Z0 d;omega
 |n+1,o,d,G=>by
  obtain⟨m,A,B⟩:=Bj s o d;obtain p|⟨i,_,D,l,r⟩:=L o d;exact Jc s.cm (Zfj.2 ⟨_,p,rfl⟩) Z0;obtain⟨x,g,H,K⟩:=Tu.1 l;have t:=Ho s L n x g Z0;obtain⟨k,k1,u⟩:=Bj s x g;rw[BT s.cm,R9];refine .inr ⟨ZgO _<|Zha.2 ⟨_,t,?_⟩,Z0⟩;obtain⟨a,b,c,h,w,y,C,_,j⟩:=s.toTld.ob (k:=1) Z0 g;have f:(ZC F 0 x).sl[i-a-1]?=J (ZM (Zu F) 1 o.Y):=by
   simp only[ZC];rw[ZfF Z0,Zfu,<-r];show F.H[_]?=_;congr 1;omega
  simp only[outs,k1,vg,Vw.gr,Zfh,Zfl,u,Zfn,Zfw,Vv];refine Zfj.2 ⟨_,Zfc (i:=i-a-1) ?_,rfl⟩;rw[ZfF (by show _<x.M.toNat;omega),f]
def Rt.ub(s:Rt F q)(hc:F.Z=xw):Xb q=0:=by
 obtain⟨_,a,d⟩:=s.rest hc;have f:=(s.ak 3 Z0).sum<|Zga _;have g:=(s.ak 4 Z0).sum<|Zga _;have j:=DQ q.ah;have k:=DQ q.aj;have h:Xb q=Y1 q.ah+Y1 q.aj:=rfl;simp only[Cb,Li,Pts.kx,Pts.ky,a,d,Zgc]at f g;omega
def Z3V(s:Rt F q)(L:QF F q)(hc:F.Z=xw)(h:F.ac=[]):words (Ye<|vg F)=I F.H:=by
 obtain⟨g,z⟩:=Z49 s;have n:=Z1b s.cm;have p:words (Ye<|vg F)=((order<|vg F).map<|Qx<|vg F).sum:=(if_pos<|Z7a s.cm).trans<|Fe _;have r:words (vg F)=XX (vg F).nodes:=if_pos s.cm;have d:=s.mj F.E;have t:=s.ub hc;have u:=Ds (Qx<|vg F) (l:=order<|vg F) g λx j=>by
  obtain⟨o,f,rfl⟩:=Zfj.1 j;obtain⟨a,_,_,y,_⟩:=s.toTld.ob (k:=1) Z0 f;exact Ho s L (a+1) o f Z0
 have w:XX (vg F).nodes=XX ((ZZ F).gr F.E).nodes:=rfl;rw[h]at d;simp only[Zgc]at d;omega
def Rt.rn(r:Rt h p)(hc:h.Z=xw){n:Nat}(w:(Y3 (Wr h) n).Z=xw):∃q,Rt (Y3 (Wr h) n) q/\(Y3 (Wr h) n).ac=[]/\(Y3 (Wr h) n).to=1-h.to/\Ye (vg<|Y3 (Wr h) n)=Ye (vg h)/\(Y3 (Wr h) n).H.length=words (Ye<|vg h):=by
 obtain⟨g,q,I,f,R,l⟩:=G8 r hc;obtain⟨B,s,A,d⟩:=Z24 r hc I R;rw[<-f]at s d l;obtain⟨z,t,y⟩:=s.so (λo x=>.inl<|d o x) n;obtain⟨_,S⟩:=s.gc n;have a:=(D3 s n).trans l;have j:(Wr h).ac=[]/\(Wr h).to=1-h.to:=by
  have g1:g.ac=[]:=I.ext.ac;have u:g.to=1-h.to:=I.ext.rh;rw[f];unfold Wa;split<;>exact⟨g1,u⟩
 have k:=S.ac.trans j.1;exact⟨z,t,k,S.num.2.2.trans j.2,a,by rw[<-a,Z3V t y w k]⟩
end
end
def Z23{h:Hp}(y:h.ok)(z:h.to=0\/h.to=1):(Wr h).ok:=by
 have:=Ak y z<|I h.E;unfold Wr Wa;obtain⟨d,f,g,j,k,l,r,t,n,o,p,u,x,q⟩:=this;split;exact⟨d,f,g,j,k,l,r,t,n,o,p,u,x,q⟩;exact⟨d,f,g,j,k,l,Zga _,Zga _,n,o,p,λw a=>(by cases a),λw a=>(by cases a),q⟩
end Vm
end
section
namespace Vm
open Go
open Go.Proofs
def p9:Fn:=⟨18,[0,1,2,3,4,5,6,7,8,9,10,94,11,12,13,99,14,119],pQ [pR [(1,pS 0 7),pV 2 pF],pC [pK 18 34 []] [pV 3<|.s 18],pC [pK 19 35 [.mm 1 0 7]] [(4,pS 19 10)],pC [pK 20 36 [.mm 4 0 10]] [(5,pM (.sz (.ext (.s 20) 0) 10) 10),pV 6<|.ext (.s 20) 1],pC [pK 21 15 [.mm 4 0 10]] [(7,pM (.sz (.ext (.s 21) 0) 2) 2),pV 8<|.ext (.s 21) 1],pC [pK 22 15 [.mm 5 0 10]] [(9,pM (.sz (.ext (.s 22) 0) 2) 2),pV 10<|.ext (.s 22) 1],pQ [.am ⟨[.lt 23 []<|pn (.s 6)<|pI 0,.lt 24 []<|.ite (.s 23) pT<|pn (.s 8)<|pI 0,.lt 25 []<|.ite (.s 24) pT<|pn (.s 10)<|pI 0,.call 26 [(25,xw)] (.id 25) xw xw [.mm 5 0 10],.lt 27 []<|.ite (.s 25) pT<|.un .not<|.s 26,.call 28 [(27,xw)] (.id 18) xw xw [.mm 7 0 2,.mm 9 0 2],.lt 29 []<|.ite (.s 27) pT<|.un .not<|.s 28,.lt 30 []<|.ite (.s 29) pT<|pe (.m 5 2)<|.m 4 2,.lt 31 []<|.ite (.s 30) pT<|pn (.m 5 0)<|.m 4 0,.lt 32 []<|.ite (.s 31) pT<|pn (.m 5 1)<|.m 4 1,.lt 33 []<|.ite (.s 32) pT<|pj (.len<|.m 5 6)<|pI 0,.lt 34 []<|.ite (.s 33) pT<|pn (.m 5 4)<|pI 0],[([(23,xw)],pn (.s 8)<|pI 0),([(24,xw)],pn (.s 10)<|pI 0),([(25,xw)],.un .not<|.s 26),([(27,xw)],.un .not<|.s 28),([(29,xw)],pe (.m 5 2)<|.m 4 2),([(30,xw)],pn (.m 5 0)<|.m 4 0),([(31,xw)],pn (.m 5 1)<|.m 4 1),([(32,xw)],pj (.len<|.m 5 6)<|pI 0),([(33,xw)],pn (.m 5 4)<|pI 0),([(34,xw)],pn (.len<|.m 5 9)<|.len<|.m 4 9)],[pV 11<|.ite (.s 34) pT<|pn (.len<|.m 5 9)<|.len<|.m 4 9]⟩]<|pw (.s 11)<|px [pV 2 pF],pR [pV 12<|pI 0],pR [pV 13<|pI 0],pQ [pR [pV 14<|pI 0]]<|.block 0<|.loop [0,1,2,3,4,5,6,7,8,9,10,11,12,13,14]<|pQ [pu 15 (pl (.s 14)<|.len<|.m 7 1) .skip<|.exit 0,.block 1<|pR [pV 13<|.mx (.s 13)<|pa (.ae (.ao (.m 7 1) (.s 14) 1) 0)<|pI 1]]<|pc 14,pQ [pR [pV 16<|pI 0]]<|.block 2<|.loop [0,1,2,3,4,5,6,7,8,9,10,11,12,13,14,15,16]<|pQ [pQ [.am ⟨[.lt 35 []<|pl (.s 16)<|.s 13],[([(35,xk)],pl (.s 16)<|.len<|.m 7 0)],[pV 17<|.ite (.s 35) (pl (.s 16)<|.len<|.m 7 0) pF]⟩]<|.cond (.s 17) .skip<|.exit 2,.block 3<|pR [pV 12<|pa (pa (pa (.s 12)<|pI 1)<|.len<|.ae (.ao (.m 7 0) (.s 16) 2) 0)<|.len<|.ae (.ao (.m 7 0) (.s 16) 2) 1]]<|pc 16,.am ⟨[.lt 36 []<|.s 3,.lt 37 []<|.ite (.s 36) (pe (.len<|.m 5 5)<|.s 12) pF,.lt 38 []<|.ite (.s 37) (.dy xw (.m 5 3)<|pj (.s 12)<|pI 0) pF,.lt 39 [(38,xk)]<|.un .not<|.m 5 3,.call 40 [(38,xk),(39,xw)] (.id 22) xw xw [.mm 5 0 10]],[([(36,xk)],pe (.len<|.m 5 5)<|.s 12),([(37,xk)],.dy xw (.m 5 3)<|pj (.s 12)<|pI 0),([(38,xk),(39,xw)],pe (.s 40)<|pb (pa (.len<|.m 4 5)<|.len<|.m 4 6)<|.s 12),([(38,xk)],.ite (.s 39) pT<|pe (.s 40)<|pb (pa (.len<|.m 4 5)<|.len<|.m 4 6)<|.s 12)],[pV 2<|.ite (.s 38) (.ite (.s 39) pT<|pe (.s 40)<|pb (pa (.len<|.m 4 5)<|.len<|.m 4 6)<|.s 12) pF]⟩] .ret,[(2,.v)]⟩
def c9:ZL (Yl Try.prog) fresh sig [.fz] [] Try.f9=J p9:=Z2
end Vm
end
section
namespace Vm
open Go Go.Proofs
def PQ{h:Hp}{p:Pts}(a:h.ok)(r:Rt h p)(hc:h.Z=xw):VC (Yl Try.prog) 36 xw [ZK h]<|.an [ZK<|Wr h,vi 0]:=by
 have:=up (PU a) (L1<|Jk h)<|Ip _ _;rwa[show US h=(Wr h,0)by unfold US;rw[if_neg (by rw[r.right];simp),if_neg (by rw[hc];simp)]]at this
def r9{x:Rw}(hx:x.ok):VC (Yl Try.prog) 35 xw [WO x]<|ZK<|Ry x:=up (t5 hx) (L1<|Z4P x)<|Jk _
instance fitFlipK:FitF (Yl Try.prog) 9:=RV (P:=Try.prog) Try.func9 rfl Z2
end Vm
end
section
namespace Vm
open Go
open Go.Proofs
def Ma:Fn:=⟨18,[0,1,2,3,4,5,6,7,8,9,10,11,12,13,14,15,16,17],pQ [pR [(1,pS 0 7),pV 2 pF],pC [pK 18 37 []] [pV 3<|.s 18],pC [pK 19 35 [.mm 1 0 7]] [(4,pS 19 10)],pC [pK 20 20 [.mm 4 0 10]] [pV 5<|.s 20],pC [pK 21 15 [.mm 4 0 10]] [(6,pM (.sz (.ext (.s 21) 0) 2) 2),pV 7<|.ext (.s 21) 1],pC [pK 22 36 [.mm 4 0 10]] [(8,pM (.sz (.ext (.s 22) 0) 10) 10),pV 9<|.ext (.s 22) 1],pC [pK 23 41 [.mm 8 0 10]] [(10,pM (.sz (.ext (.s 23) 0) 10) 10),pV 11<|.ext (.s 23) 1],pC [pK 24 36 [.mm 10 0 10]] [(12,pM (.sz (.ext (.s 24) 0) 10) 10),pV 13<|.ext (.s 24) 1],pC [pK 25 41 [.mm 12 0 10]] [(14,pM (.sz (.ext (.s 25) 0) 10) 10),pV 15<|.ext (.s 25) 1],pC [pK 26 15 [.mm 14 0 10]] [(16,pM (.sz (.ext (.s 26) 0) 2) 2),pV 17<|.ext (.s 26) 1],.am ⟨[.lt 27 []<|.s 3,.lt 28 []<|.ite (.s 27) (pe (.s 7)<|pI 0) pF,.lt 29 []<|.ite (.s 28) (pe (.s 9)<|pI 0) pF,.lt 30 []<|.ite (.s 29) (pe (.s 11)<|pI 0) pF,.lt 31 []<|.ite (.s 30) (pe (.s 13)<|pI 0) pF,.lt 32 []<|.ite (.s 31) (pe (.s 15)<|pI 0) pF,.lt 33 []<|.ite (.s 32) (pe (.s 17)<|pI 0) pF,.lt 34 []<|.ite (.s 33) (pe (.len<|.m 10 5)<|.s 5) pF,.lt 35 []<|.ite (.s 34) (pe (.len<|.m 10 6)<|pI 0) pF,.lt 36 []<|.ite (.s 35) (pe (.len<|.m 14 5)<|.s 5) pF,.lt 37 []<|.ite (.s 36) (pe (.m 14 2)<|.m 4 2) pF,.lt 38 []<|.ite (.s 37) (.un .not<|.m 14 3) pF,.call 39 [(38,xk)] (.id 18) xw xw [.mm 6 0 2,.mm 16 0 2],.lt 40 []<|.ite (.s 38) (.s 39) pF,.call 41 [(40,xk)] (.id 25) xw xw [.mm 14 0 10]],[([(27,xk)],pe (.s 7)<|pI 0),([(28,xk)],pe (.s 9)<|pI 0),([(29,xk)],pe (.s 11)<|pI 0),([(30,xk)],pe (.s 13)<|pI 0),([(31,xk)],pe (.s 15)<|pI 0),([(32,xk)],pe (.s 17)<|pI 0),([(33,xk)],pe (.len<|.m 10 5)<|.s 5),([(34,xk)],pe (.len<|.m 10 6)<|pI 0),([(35,xk)],pe (.len<|.m 14 5)<|.s 5),([(36,xk)],pe (.m 14 2)<|.m 4 2),([(37,xk)],.un .not<|.m 14 3)],[pV 2<|.ite (.s 40) (.s 41) pF]⟩] .ret,[(2,.v)]⟩
def RL:ZL (Yl Try.prog) fresh sig [.fz] [] Try.f12=J Ma:=Z2
end Vm
end
section
namespace Vm
open Go Go.Proofs
def Fs(n:SG){h:Hp}{p:Pts}(j:h.ok)(r:Rt h p)(hc:h.Z=xw):∃g q,VC (Yl Try.prog) 36 xw [ZK h] (.an [ZK<|Wr h,vi 0])/\VC (Yl Try.prog) 41 xw [ZK<|Wr h] (.an [ZK g,vi 0])/\Rt g q/\g.ok/\g.Z=xw/\g.ac=[]/\g.to=1-h.to/\Ye (vg g)=Ye (vg h)/\xq g.H=words (Ye<|vg h):=by
 have f:h.to=0\/h.to=1:=(Ww.1 r.bf).2.2.2.2.1;have a:=Z23 j f;obtain⟨_,q,I,l,_⟩:=G8 r hc;obtain⟨s,_⟩:=Al r hc I;rw[<-l]at s
 have d:(Y3 (Wr h) 9223372036854775807).Z=xw:=s.uj (by
  have:=Z99<|Z5K a s.gw;have:=a.H;have:=s.gy;omega)
 obtain⟨o,t,k,c2,c3,c4⟩:=r.rn hc d;exact⟨_,o,PQ j r hc,PP n a s,t,LF a s _,d,k,c2,c3,c4⟩
instance fitScanW:FitF (Yl Try.prog) 12:=RV (P:=Try.prog) Try.func12 rfl Z2
def Z3P(f:SG){x:Rw}(hx:x.ok):VC (Yl Try.prog) 12 xw [WO x]<|.bool xk:=by
 refine ZW (P:=Yl Try.prog) Try.func12 As Z2 RL rfl ?_;simp[Ma];refine Zy (Z0j f) Z1 ?_;simp;have B:=r9 hx;unfold WO at B;refine Zy B Z1 ?_;obtain⟨d,L,M⟩:=Z8I hx;obtain⟨p,r⟩:=LC.1<|Z8J hx;generalize Ry x=h at*;have k:=PY d;have l:=jy d;rw[r.th]at l;rw[r.ov]at k;obtain⟨g,q,k1,u,s,N,d1,d2,d3,d4,G⟩:=Fs f d r L;obtain⟨K,R,w,y,F,D,n,O,Q,H,o⟩:=Fs f N s d1;have j:=jy D;rw[F.th,H,d4]at j;have z:=PH D F;have A:=p5 (a:=Ye<|vg h) (b:=Ye<|vg h)<|Fd (ofOk d r.right).sm.gr r.cm;rw[d4]at o;have t:K.to=h.to:=Z0;simp only[ZK,Yh,d2,n,t,Zgn]at k l k1 u w y j z A;generalize Ye (vg h)=C at*;simp;refine Zy k Z1 ?_;simp;refine Zy l Z1 ?_;simp;refine Zy k1 Z1 ?_;simp;refine Zy u Z1 ?_;simp;refine Zy w Z1 ?_;simp;refine Zy y Z1 ?_;simp;refine Zy j Z1 ?_;simp[d2,G,n,o,t];refine Zy A Z1 ?_;simp;refine Zy z Z1 ?_;simp
end Vm
end
section
namespace Go.Proofs.Ytffknkhabklijaa
open Vm Go.ChangeShapes Go.WideShapes Go.ChangeAt Go.RowKit
def scanWhole_law(xs:List V)(a:I xs=Try.f12.params.toList.length)(d:∀(i:Nat) (t:TypeId) (x:V),Try.f12.params.toList[i]?=J t->xs[i]?=J x->Xi Try.prog 8 t x):
  VC (Yl Try.prog) 12 xw xs (.bool xk):=by
 rw[Try.params12]at a d
 match xs,a with
 | [g],_=>
   obtain⟨x,rfl,f⟩:=Z8W<|d 0 _ g rfl rfl;exact Z3P Z7O f
def scanWhole_lifted(j:Os)(a:j.Started)(H:Type)(enc:TypeId×Value->H):
  ReturnsInLeavingWide {} Try.checked j 12 .any (Rows.scanWholeSpec.pre6 enc Try.prog Try.f12 Rows.scanWholeRow.domain xw) (Rows.scanWholeSpec.post enc Try.prog Try.f12 xw xk xw xw):=by
 refine returnsInLeavingWide_of_change_sized (C:=Try.checked) own a Try.func12
  (ChangeSpec.witness6 (enc:=enc) (C:=Try.checked) xw ⟨#[], #[.agg #[.slice U 0 0,.slice U 0 0,.slice U 0 0,.int .u64 0,.int .i64 0,.int .i64 0,.int .i64 0]],[]⟩ 8 Z2 Z2 Z2 Z2) ?_
 intro W base args g gs d f k _ _ _
 exact Z2l (P:=Try.prog) Z2 (Z3Q (P:=Yl Try.prog) (tb:=4) 8 laidOut Z2 Z2 rfl Z2 Try.underlying4 (λH g h=>by
  rw[Try.params12]at h
  match g,h with
  | [_],_=>rfl) scanWhole_law H enc W base args g gs d f k)
theorem scanWhole_holds:Rows.ScanWholeSaid:=
 OpenClaim.holds_of_wide_leaving 12 Try.f12 rfl rfl rfl rfl rfl rfl rfl ⟨rfl,rfl,rfl,rfl,rfl⟩ rfl rfl rfl rfl rfl Z2 Try.func12 Z2
  (ZhG Z2) (by unfold Func.isWrapper;first|(rw[if_pos Zea];kernel_rfl)|(rw[if_neg Zea];exact⟨rfl,rfl⟩))
  (λf a H d _=>scanWhole_lifted f a H d)
#print axioms scanWhole_holds
end Go.Proofs.Ytffknkhabklijaa
end
