/-
  The law MeasureLeft holds of the given program, for every input.
-/
import Derived.Deep.OwnRows
import Derived.Test.YtaepoabdapgbdaaRows
import Derived.Conc.LeavingOf
import Derived.Test.YtaepoabdapgbdaaSMeasureLeft6
set_option linter.unusedSimpArgs false
set_option linter.unusedVariables false
set_option linter.defProp false
open Option renaming some→J,none→U
open Bool renaming true→xk,false→xw
open Go renaming undef→xy
open List renaming length→I
open Array renaming size→xz
open Go.World renaming heap→xj
open List renaming length→xq
open Array renaming size→xz
open Go.World renaming heap→xj
set_option maxHeartbeats 40000000
set_option maxRecDepth 100000
def ZkP:=@Nat.exists_eq_add_of_le
section
namespace Vm
open Go Go.Proofs
section
section
variable {h g E:Hp}{p q s:Pts}
def Z9V(r:Rt g q)(h:Rt E s){i:Nat}{w v:Int}(hw:g.H[i]?=J w)(Y:E.H=g.H.set i v)(N:E.ab=g.ab)(a0:E.E=g.E)
  (p:∀j:Nat,j<4->∀x∈s.at ((j:Int)+1),x∈q.at ((j:Int)+1)/\fstL (Zv E) ((j:Int)+1)=fstL (Zv g) ((j:Int)+1)/\(2<=j->Zx E ((j:Int)+1)=Zx g ((j:Int)+1)))
  (hv:(v=0↔w=0)/\(w≠0->UO g w=UO g v)/\(v=w\/WP q.H i=xk)):Xb (vg E)=Xb (vg g):=by
 have M:∀(j:Nat) (x:Ob),j<4->x∈s.at ((j:Int)+1)->(Y2 E j x).ad=(Y2 g j x).ad:=λj x T C=>by
  obtain⟨L,h2,_⟩:=p j T x C;rw[UT h T C,UT r T L,h2]
 have G:∀w i j:Int,(1<=i/\i<=4)->(1<=j/\j<=4)->Gos E s w i j->SU E g (λx=>x) w w:=by
  intro w i j O T S;by_cases K:w=0;exact .inl ⟨K,K⟩;obtain⟨z,y,F,_,D,_,A⟩:=h.ln O T S K;have b1:=D;rw[h.dh F]at D;have a4:=(p z F y D).1;have W:=A.trans<|M z y F D;refine .inr ⟨K,K,?_⟩;cases l:y.gone;exact⟨Y2 E z y,Vj.2 ⟨WO h F D,l⟩,(LM h (WO h F D) l A).symm,by rw[M z y F D];exact LM r (WO r F a4) l W⟩;have b5:2<=z:=by
   by_cases hl:z<2;have:=h.ex hl b1;rw[this]at l;cases l;omega
  obtain⟨t,ht,h4,_⟩:=h.gone ((z:Int)+1) Z0 y D l;have Q:t∈s.at (((0:Nat):Int)+1):=ht;have a2:(Y2 E 0 t).ad=y.target:=by rw[UT h Z0 Q,h4];rfl
  exact⟨Y2 E 0 t,Vj.2 ⟨WO h Z0 Q,h.ex (q:=0) Z0 (by rw[h.dh Z0];exact Q)⟩,by rw[JX h (WO h F D) l A,a2];rfl,by rw[a2];exact JX r (WO r F a4) l W⟩
 refine(t8 h r (λx=>x) (λf hf=> ?_) (λf hf f' b4 he=>he) ?_).symm;obtain⟨a5,X⟩:=Vj.1 hf;obtain⟨j,x,_,T,C,rfl⟩:=TG a5;have a9:=C;rw[h.dh Z0]at C;obtain⟨R,_,a6⟩:=p j Z0 x C;obtain⟨b,c,d,eb,ec,ed,hb,_,b3⟩:=h.toTld.ob Z0 C;have a7:=KN h Z0 a9;have a1:=KN r Z0 (o:=x) (by rw[r.dh Z0];exact R);have H:∀(k:Hp) (n:Nat),n<c->(Y2 k j x).sl[n]?=(Zx k<|(j:Int)+1)[x.aa.toNat+1+n]? :=λk n P=>by
  rw[TU k Z0];simp only[Y2];rw[ZhO Z0,Zhx];congr 1;omega
 have a3:∀n:Nat,n<c->(Y2 E j x).sl[n]?=(Y2 g j x).sl[n]? \/(j=0/\x.aa.toNat+1+n=i/\(Y2 E j x).sl[n]?=J v/\(Y2 g j x).sl[n]?=J w):=λn P=>by
  rw[H E n P,H g n P];by_cases h2:2<=j;exact .inl (by rw[a6 h2]);by_cases L:j=1;subst L;exact .inl (by show E.ab[_]?=g.ab[_]?;rw[N]);have K:j=0:=Z0;subst K;show E.H[_]?=g.H[_]? \/(_/\_/\E.H[_]?=J v/\g.H[_]?=J w);rw[Y];by_cases O:x.aa.toNat+1+n=i;have:=(ZgZ.1 hw).1;exact .inr ⟨rfl,O,by rw[O,Ziq this],by rw[O,hw]⟩;exact .inl (by rw[Zi6 (λe=>O e.symm)])
 have Z:(Y2 E j x).ob.M=x.M:=rfl;refine⟨Y2 g j x,Vj.2 ⟨WO r Z0 R,X⟩,(M j x Z0 C).symm,rfl,?_,Fk (by simp only[Zi4,a7,a1]) λn a b' A B=> ?_⟩;refine ZiU λn=> ?_;rw[Zhx,Zhx,Z];by_cases P:x.M.toNat+n<c;obtain e|⟨rfl,O,e1,e2⟩:=a3 _ P;exact e.symm;obtain e|e:=hv.2.2;rw[e1,e2,e];obtain⟨o,ho,g1,g2⟩:=Qk.1 e;have t1:=r.an 1 Z0;have b0:x∈q.H:=R;obtain⟨oa,on,_,ea,en,em,_,_,b2⟩:=r.toTld.ob (k:=1) Z0 ho;obtain L|L|L:=t1.apart x b0 o ho;subst L;omega;omega;omega;rw[ZhZ Z0,ZhZ Z0];rw[Z]at A B;have P:n<x.M.toNat:=by
  have:=(ZgZ.1 A).1;rw[Zi4]at this;omega
 rw[ZhO P]at A B;have S:SU E g (λx=>x) a a:=by
  obtain⟨u,t,hu,ht,S⟩:=CV<|h.ptr ((j:Int)+1) Z0 x C X n Z0 a (by rw[<-H E n Z0];exact A);exact G a u t hu ht S
 obtain e|⟨_,_,e1,e2⟩:=a3 n Z0;rw[A,B]at e;cases e;exact S;rw[A]at e1;rw[B]at e2;cases e1;cases e2;obtain⟨g1,_⟩|⟨g1,_,fo,k1,k2,k3⟩:=S;exact .inl ⟨g1,hv.1.1 g1⟩;exact .inr ⟨g1,λe=>g1<|hv.1.2 e,fo,k1,k2,by rw[hv.2.1 (λe=>g1<|hv.1.2 e)];exact k3⟩;rw[a0];exact zD λw a8=>G w 1 2 Z0 Z0<|h.E w (by rw[a0];exact a8)
def Z9I(r:Rt h p)(hc:h.Y=xk){t:Pts}(S:ScanTo h p g t):Xb (vg g)=Xb (vg h):=by
 obtain⟨i,w,v,f,s,hi,H,eq,O,B,hh⟩:=S.via;obtain⟨a,K,hv,o⟩:Rt f s/\f.H[i]?=J w/\((v=0↔w=0)/\(w≠0->UO f w=UO f v)/\(v=w\/WP s.H i=xk))/\Xb (vg f)=Xb (vg h):=by
  obtain⟨rfl,rfl,rfl⟩|⟨hp,C,F⟩:=hh;exact⟨r,H,⟨ZiQ,λ_=>rfl,.inl rfl⟩,rfl⟩;have a:=GA r hc F.body (F.fp<|r.fp hc) F.ext;have D:=(ZgZ.1 H).1;obtain⟨ws,L⟩:=F.ext.H;obtain⟨v',g',a0,⟨Z,_⟩,_,A⟩:=Z3Z r C;have e:=F.fwd.symm.trans Z;simp only[Zhe]at e;obtain⟨rfl,rfl,_⟩:=e;refine⟨a,by rw[L,Zhz D];exact H,⟨F.zero,λh0=> ?_,.inr hp⟩,A⟩;obtain⟨_,rfl,_⟩|⟨rfl,_⟩|⟨k,x,hk,d,W,N,e2⟩:=F.cz;rfl;exact absurd rfl h0;obtain⟨z,rfl,Q⟩:∃z:Nat,k=(z:Int)+1/\z<4:=⟨(k-1).toNat,Z0,Z0⟩;obtain⟨y,P,X,_⟩:=a.gone _ Z0 x d N;have l:y∈s.at (((0:Nat):Int)+1):=P;have R:(adr w).1=(Y2 f z x).ad:=by
   obtain⟨_,_,_,ea,_⟩:=a.toTld.ob Z0 d;rw[UT a Q d,W,Ur a.bb Z0]
  have T:(adr v).1=(Y2 f 0 y).ad:=by
   have Y:v=Y0 (Zv f) 1 y.aa:=by unfold Y0;omega
   rw[UT a Z0 l,Y,Ur a.bb (a.toTld.kz P).1];rfl
  rw[JX a (WO a Q d) N R,LM a (WO a Z0 l) (a.ex (q:=0) Z0 (by rw[a.dh Z0];exact l)) T,UT a Z0 l];exact X
 rw[<-o];have hE:g.H=f.H.set i v/\g.ab=f.ab/\g.E=f.E/\(g.Y=xk->Zv g=Zv f/\g.ah=f.ah/\g.ak=f.ak)/\∀j:Nat,j<2->fstL (Zv g) ((j:Int)+1)=fstL (Zv f) ((j:Int)+1):=by
  have G:Zv {f with H:=f.H.set i v,Z:=(i:Int)+1}=Zv f:=by unfold Zv;simp
  rw[eq];unfold YY;split;refine⟨rfl,rfl,rfl,λh=>Zgf,λj u=> ?_⟩;rw[<-G];have:j=0\/j=1:=Z0;obtain rfl|rfl:=this<;>rfl;exact⟨rfl,rfl,rfl,λ_=>⟨G,rfl,rfl⟩,λj u=>by rw[G]⟩
 obtain⟨d1,d2,d3,d4,M⟩:=hE;refine Z9V a S.rt K d1 d2 d3 (λj u x d=> ?_) hv;cases n:g.Y with
 |true=>
  obtain⟨l1,l2,l3⟩:=d4 n;rw[B n]at d;refine⟨d,by rw[l1],λh2=> ?_⟩;have:j=2\/j=3:=Z0;obtain rfl|rfl:=this;exact l2;exact l3
 |false=>
  have:=S.rt.empty n;have u:j=0\/j=1\/j=2\/j=3:=Z0;obtain rfl|rfl|rfl|rfl:=u;exact⟨by rw[<-show s.H=s.at (((0:Nat):Int)+1)from rfl,<-O.1];exact d,M 0 Z0,λh=>Z0⟩;exact⟨by rw[<-show s.ab=s.at (((1:Nat):Int)+1)from rfl,<-O.2];exact d,M 1 Z0,λh=>Z0⟩;rw[show t.at (((2:Nat):Int)+1)=t.ah from rfl,this.1]at d;cases d;rw[show t.at (((3:Nat):Int)+1)=t.ak from rfl,this.2]at d;cases d
def Dm(r:Rt h p):∀k,Xb (vg<|ZM h k)=Xb (vg h)
 |0=>rfl
 |k+1=>by
  rw[RB];split;rename_i a;obtain⟨q,s⟩:=r.cp k;obtain⟨d,f,S⟩:=s.rt.Z a;rw[S.eq];exact(Z9I s.rt a S).trans (Dm r k);exact Dm r k
end
end
end Vm
end
section

end
section
namespace Vm
open Go Go.Proofs
def jR(a:SX){h:Hp}{p:Pts}(d:h.ok)(r:Rt h p){k:Nat}(f:k<=9223372036854775807):VC (Ya Try.prog) 9 xw [ZD h,vi k]<|.am [ZD<|ZM h k,vi 0]:=by
 have:=EE a d (k:=(k:Int)) ⟨Z0,Z0⟩;rw[O7 r]at this;exact up this (La (UG h)<|.int _ _)<|Mc _ _
def Dl{h:Hp}{a b:Nat}(d:(ZM h a).Y=xw)(f:(ZM h b).Y=xw):ZM h a=ZM h b:=by
 obtain e|e:=Nat.le_total a b;obtain⟨c,rfl⟩:=ZkP e;rw[TX,TY d];obtain⟨c,rfl⟩:=ZkP e;rw[TX,TY f]
def Rt.ub{h:Hp}{p:Pts}(r:Rt h p){b:Nat}(j:(I h.H:Int) -h.Z+YF p<=b):(ZM h b).Y=xw:=by
 obtain⟨q,s⟩:=r.cp b;cases a:(ZM h b).Y;rfl;obtain⟨d,f,g⟩:=s.ij a;have:=s.rt.ij a;omega
def Z0H(a:SX){h:Hp}{p:Pts}(d:h.ok)(r:Rt h p):VC (Ya Try.prog) 11 xw [ZD h]<|.am [ZD<|ZM h 9223372036854775807,vi 0]:=by
 have:=Z0I a d;unfold ye at this;rw[Zh9 (by rw[r.right];simp)]at this;exact up this (Qw<|UG h)<|Mc _ _
end Vm
end
section
namespace Vm
open Go Go.Proofs Go.RowKit
def ZaP(w:Z3)(d a:Obj):((w.alloc d).alloc a).heap[xz (xj w)+1]?=J a:=by
 have:=Zhk (w.alloc d) a;rwa[Zj3]at this
def Z7t{w:Z3}{B g cap n:Nat}{e:Zf}{z:Nat}{xs:Zm}(h:w.ownsRow B e z (.slice (J ⟨g,0,U⟩) n cap) n xs)(o:0<n){i:Nat}:w.frozen? ⟨g,i,U⟩=xw:=by
 obtain⟨f,_⟩|⟨l,a,d,j,_,k,_⟩:=h.2;cases f;cases j;exact Yc k
end Vm
end
section
namespace Vm
open Go Go.Proofs
def MY:Fn:=⟨5,[0,1,2,3,6],pQ [pR [(1,pS 0 2),pV 2<|pU 0,pV 3<|pI 0],pQ [pC [pK 5 44 [.mm 1 0 2]] [pV 4<|.un .not<|.s 5]]<|pw (.s 4)<|px [pV 2<|pU 0,pV 3<|pI 1]]<|px [pV 2<|pa (.bp .shl (.conv .u64<|.m 1 0)<|pU 1)<|.bp .shl (.conv .u64<|.m 1 1)<|pU 17,pV 3<|pI 0],[(2,.v),(3,.v)]⟩
def c22:ZX [.fz] Try.f22=J MY:=Z2
def MZ:Fn:=⟨4,[0,1,2,4],pQ [pR [(2,pS 0 10),pV 3 pF],pC [pK 4 18 [.mm 2 0 10]] [pV 3<|pL (pa (pa (pa (.len<|.m 2 5)<|.len<|.m 2 6)<|.s 4)<|.s 1)<|.m 2 1]] .ret,[(3,.v)]⟩
def c24:ZX [.fz,.fz] Try.f24=J MZ:=Z2
def Z4c{s p:Int}:VC xP 22 xw [WY s p]<|.am [vu (Xt s p).1,vi (Xt s p).2]:=by
 refine ZQ EO follows Z2 c22 rfl ?_;simp[MY];refine Zz Da Z1 ?_;cases h:YC s p;simp[Xt,h];obtain⟨q,r,t,u⟩:=YD.1 h;have a:=ZS s Z0 Z0;have d:=ZS p Z0 Z0;have n:(2:Int) ^ min 1 IntKind.u64.bits=2:=Zgg;have o:(2:Int) ^ min 17 IntKind.u64.bits=131072:=Zgg;have f:=ZS (p*131072) Z0 Z0;have g:=ZS (s*2) Z0 Z0;have j:=ZS (s*2+p*131072) Z0 Z0;have k:s*2+p*131072=2*(s+65536*p):=Z0;have l:=ZS (2*(s+65536*p)) Z0 Z0;simp[Xt,h,Xa,a,d,n,o,f,g,j,k,l]
def Xo(h:Hp)(p:Pts)(n:Int):Bool:=decide ((I h.H:Int)+I h.ab+YF p+n<=h.cap)
def Rt.ms{h:Hp}{p:Pts}(r:Rt h p):h.cap<=4096:=by
 exact(XN.1 r.bb).2.1
def Z9c{h:Hp}(g:h.ok){p:Pts}(r:Rt h p){n:Int}(l:0<=n/\n<=1000):VC xP 24 xw [ZD h,vi n]<|.bool<|Xo h p n:=by
 refine ZQ ER follows Z2 c24 rfl ?_;have k1:=El g;rw[r.nf]at k1;have j:=r.room;have k:=r.ms;simp only[ZD]at k1⊢;simp[MZ];refine Zz k1 Z1 ?_;have a:=Zy ((I h.H:Int)+I h.ab) Z0 Z0;have d:=Zy ((I h.H:Int)+I h.ab+(YF p:Nat)) Z0 Z0;have f:=Zy ((I h.H:Int)+I h.ab+(YF p:Nat)+n) Z0 Z0;simp[a,d,f,Xo]
end Vm
end
section
namespace Vm
open Go Go.Proofs Go.RowKit
def Z4l{W:Z3}{G:Z4}{g:Hp}{e:Int}{v:Ze}(r:Rd W G (.am [ZD g,vi e]) v):∃x,v=.tuple #[ZA g x,.int .i64 e]/\∀j,j<5->Rd W G (.sl<|(Zu g j).map vu) (x j):=by
 cases r with
 |am _ vs l h=>
  obtain⟨x,d,n⟩:=yC<|h 0 _ rfl;have f:=Sy<|h 1 _ rfl;refine⟨x,?_,n⟩;congr 1;have a:vs.size=2:=ZgV;apply Zjs;simp[a];intro i o p;have k:i<2:=Z0
  match i,k with
  |0,_=>simp[Array.getD,a]at d;simpa using d
  |1,_=>simp[Array.getD,a]at f;simpa using f
def Z0U(G:Z4)(W:Z3)(r:Hp×Int)(e:Ending)(W':Z3):Prop:=
 ∃x,e=.returned (.tuple #[ZA r.1 x,.int .i64 r.2])/\Below (xz<|xj W) W W'/\∀j,j<5->Rd W' (λc=>G c\/(xz (xj W)<=c/\c<xz (xj W'))) (.sl<|(Zu r.1 j).map vu) (x j)
def Z4k{f:Zp}{h g:Hp}{k n:Int}(l:VC xP f xw [ZD h,vi k]<|.am [ZD g,vi n]){W:Z3}{G:Z4}{x:Z5}(o:∀b,G b->b<xz (xj W))(r:∀j,j<5->Rd W G (.sl<|(Zu h j).map vu) (x j)):
  Calls xP f #[ZA h x,.int .i64 k] W (Z0U G W (g,n)):=by
 refine ZjB (l.2 W G _ o rfl ?_) ?_;intro i y a
 match i,a with
 |0,a=>cases a;exact Jr r
 |1,a=>cases a;exact .int _ _
 rintro e w ⟨v,rfl,p,l⟩;obtain⟨u,rfl,t⟩:=Z4l l;exact⟨u,rfl,p,λj q=>(t j q).mono λb d=>Zge⟩
def OJ{h:Hp}(k:h.ok){p:Pts}(r:Rt h p){n:Int}(l:0<=n/\n<=1000){W:Z3}{G:Z4}{x:Z5}(f:∀b,G b->b<xz (xj W))(o:∀j,j<5->Rd W G (.sl<|(Zu h j).map vu) (x j)):
  Calls xP 24 #[ZA h x,.int .i64 n] W λe d=>e=.returned (.bool<|Xo h p n)/\Below (xz<|xj W) W d:=by
 refine ZjB ((Z9c k r l).2 W G _ f rfl ?_) ?_;intro i y a
 match i,a with
 |0,a=>cases a;exact Jr o
 |1,a=>cases a;exact .int _ _
 rintro e d ⟨v,rfl,g,q⟩;exact⟨by rw[D2 q],g⟩
def NG{s p:Int}(w:Z3):Calls xP 22 #[.agg #[.int .i64 s,.int .i64 p]] w λe a=>e=.returned (.tuple #[.int .u64 (Xt s p).1,.int .i64 (Xt s p).2])/\Below (xz<|xj w) w a:=
 Tx (Z4c (s:=s) (p:=p)) rfl rfl w
def VE(g:Hp)(x:Z5):Array Value:=#[.int .u64 g.base,.int .i64 g.cap,.int .i64 g.to,.bool g.Y,.int .i64 g.Z,x 0,x 1,x 2,x 3,x 4]
structure PSt (w W:World) (nb:Nat) (g:Hp) (x:Nat->Value) (Q:Prop):Prop where
 cz:W.heap[xz (xj w)+2]?=J (.cells ZL 30 (0,0))
 br:W.heap[nb]?=J (.cells (VE g x) 30 (0,0))
 rd:∀j,j<5->Rd W (λc=>xz (xj w)+3<=c/\c<xz (xj W)/\c≠nb) (.sl<|(Zu g j).map vu) (x j)
 cy:Below (xz<|xj w) w W
 nB:xz (xj w)+3<=nb
 own:Q->HOwn (xz (xj w)+3) W g x/\∀j,j<5->∀c,(x j).ownBlock=J c->c≠nb
def PSt.below{w W W':Z3}{h:Nat}{g:Hp}{x:Z5}{Q:Prop}(s:PSt w W h g x Q)(a:Below (xz<|xj W) W W'):PSt w W' h g x Q:=by
 have k:=Y9 s.br;have l:=Y9 s.cz;have o:=a.size;refine⟨(a.block _ l).trans s.cz,(a.block _ k).trans s.br,λj d=>((s.rd j d).keep (λb f=>a.block b f.2.1) λ_ q=>q).mono λb q=>⟨q.1,Z0,q.2.2⟩,s.cy.trans<|a.mono s.cy.size,s.nB,λq=>⟨⟨λj d=>Xs ((s.own q).1.own j d) λc n=>a.block _ (((s.own q).1.own j d).lt c n).2,(s.own q).1.apart⟩,(s.own q).2⟩⟩
def PSt.F{w W:Z3}{a:Nat}{g:Hp}{x:Z5}{Q:Prop}(s:PSt w W a g x Q):(∀j,W.cell? ⟨a,j,U⟩=(#[.int .u64 g.base,.int .i64 g.cap,.int .i64 g.to,.bool g.Y,.int .i64 g.Z,x 0,x 1,x 2,x 3,x 4]:Array Value)[j]?)/\∀j,W.frozen? ⟨a,j,U⟩=xw:=
 ⟨λj=>Zh7 _ _ _ _ _ _ s.br,λj=>Yc s.br⟩
def PSt.R{w W:Z3}{a:Nat}{g:Hp}{x:Z5}{Q:Prop}(s:PSt w W a g x Q):(∀j,W.cell? ⟨xz (xj w)+1+1,j,U⟩=(#[.int .u64 0,.int .i64 0,.int .i64 0,.bool xw,.int .i64 0,.slice U 0 0,.slice U 0 0,.slice U 0 0,.slice U 0 0,.slice U 0 0]:Array Value)[j]?)/\∀j,W.frozen? ⟨xz (xj w)+1+1,j,U⟩=xw:=
 ⟨λj=>Zh7 _ _ _ _ _ _ s.cz,λj=>Yc s.cz⟩
def UI(W:Z3)(b:Nat)(v0 v1 a d v4 f v6 g h j:Ze):World:=(((((((((W.setCell ⟨b,0,U⟩ v0).setCell ⟨b,1,U⟩ v1).setCell ⟨b,2,U⟩ a).setCell ⟨b,3,U⟩ d).setCell ⟨b,4,U⟩ v4).setCell ⟨b,5,U⟩ f).setCell ⟨b,6,U⟩ v6).setCell ⟨b,7,U⟩ g).setCell ⟨b,8,U⟩ h).setCell ⟨b,9,U⟩ j
def Z8k{W:Z3}{a:Nat}{g:Hp}{x:Z5}{T:Zf}(d:W.heap[a]?=J (.cells (VE g x) T (0,0)))(v0 v1 f h v4 j v6 k l n:Ze):(UI W a v0 v1 f h v4 j v6 k l n).heap[a]?=J (.cells #[v0,v1,f,h,v4,j,v6,k,l,n] T (0,0)):=by
 unfold VE at d;unfold UI;simp[World.setCell,ZhB,d]
def O3(W:Z3)(a:Nat)(v0 v1 d f v4 g v6 h j k:Ze):xz (xj<|UI W a v0 v1 d f v4 g v6 h j k)=xz (xj W):=by
 unfold UI;simp[World.setCell]
def PSt.store{w W d:Z3}{f:Nat}{g g2:Hp}{x a:Z5}{Q:Prop}(s:PSt w W f g x Q)(l:Below (xz<|xj W) W d)
  (p:∀j,j<5->Rd d (λc=>(xz (xj w)+3<=c/\c<xz (xj W)/\c≠f)\/(xz (xj W)<=c/\c<xz (xj d))) (.sl<|(Zu g2 j).map vu) (a j)):
  PSt w (UI d f (.int .u64 g2.base) (.int .i64 g2.cap) (.int .i64 g2.to) (.bool g2.Y) (.int .i64 g2.Z) (a 0) (a 1) (a 2) (a 3)<|a 4) f g2 a False:=by
 have k:=s.below l;have t:=Y9 s.br;have u:=l.size;have r:=s.cy.size;have o:=s.nB;refine⟨(UJ Z0 _ _ _ _ _ _ _ _ _ _).trans k.cz,Z8k k.br _ _ _ _ _ _ _ _ _ _,λj n=>((p j n).keep (λb h=> ?_) λ_ q=>q).mono λb q=> ?_,XW k.cy Z0 _ _ _ _ _ _ _ _ _ _,o,λq=>q.elim⟩;exact UJ (by obtain q|q:=h<;>omega) _ _ _ _ _ _ _ _ _ _;rw[O3];obtain q|q:=q;exact⟨q.1,Z0,q.2.2⟩;exact⟨Z0,q.2,Z0⟩
def SW(w:Z3)(r:Int×Hp×Int)(Q:Prop)(e:Ending)(w':Z3):Prop:=
 ∃x,e=.returned (.tuple #[.int .u64 r.1,ZA r.2.1 x,.int .i64 r.2.2])/\Below (xz<|xj w) w w'/\(∀j,j<5->Rd w' (λc=>xz (xj w)<=c/\c<xz (xj w')) (.sl<|(Zu r.2.1 j).map vu) (x j))/\(Q->HOwn (xz<|xj w) w' r.2.1 x)
def Vn(g:Hp)(wd:Int)(n:Nat):Hp:= {g with ab:=(wd::List.replicate n 0)++g.ab}
structure Tri (w W:World) (o0 o1:Obj):Prop where
 b0:W.heap[xz<|xj w]?=J o0
 b1:W.heap[xz (xj w)+1]?=J o1
 b2:W.heap[xz (xj w)+2]?=J (.cells ZL 30 (0,0))
 cy:Below (xz<|xj w) w W
def PM(w:Z3)(a d:Obj):∃W,((w.alloc a).alloc d).alloc (.cells #[.int .u64 0,.int .i64 0,.int .i64 0,.bool xw,.int .i64 0,.slice U 0 0,.slice U 0 0,.slice U 0 0,.slice U 0 0,.slice U 0 0] 30)=W/\xz (xj W)=xz (xj w)+3/\Tri w W a d:=by
 refine⟨_,rfl,Z1,?_,?_,?_,(((Zhi _ _).alloc (Zh3 _) _).alloc Z1 _).alloc Zg1 _⟩;rw[Zh4 _ _ _ Zg1,Zh4 _ _ _ Z1];exact Zhk _ _;rw[Zh4 _ _ _ Z1];exact ZaP _ _ _;have:=Zhk ((w.alloc a).alloc d)<|.cells ZL 30;simpa[ZL]using this
def Tri.below{w W W':Z3}{d f:Obj}(s:Tri w W d f)(a:Below (xz<|xj W) W W'):Tri w W' d f:=
 ⟨(a.block _<|Y9 s.b0).trans s.b0,(a.block _<|Y9 s.b1).trans s.b1,(a.block _<|Y9 s.b2).trans s.b2,s.cy.trans<|a.mono s.cy.size⟩
def Tri.F{w W:Z3}{c0 a:Zb}{t0 d:Zf}(s:Tri w W (.cells c0 t0)<|.cells a d):(∀j,W.cell? ⟨xz<|xj w,j,U⟩=c0[j]?)/\(∀j,W.cell? ⟨xz (xj w)+1,j,U⟩=a[j]?)/\(∀j,W.cell? ⟨xz (xj w)+1+1,j,U⟩=ZL[j]?)/\∀j,W.frozen? ⟨xz (xj w)+1+1,j,U⟩=xw:=
 ⟨λj=>Zh7 _ _ _ _ _ _ s.b0,λj=>Zh7 _ _ _ _ _ _ s.b1,λj=>Zh7 _ _ _ _ _ _ s.b2,λj=>Yc s.b2⟩
def Z8e{w w2 d l:Z3}{C D:Obj}{h:Hp}{y:Z5}(s:Tri w w2 C D)(A:xz (xj w)+3<=xz (xj w2))(z:Below (xz<|xj w2) w2 d)
  (o:HOwn (xz<|xj w2) d h y) (f:d.alloc (.cells (VE h y) 30)=l):PSt w l (xz<|xj d) h y True:=by
 have p:=s.below z;have F:=z.size;have x:∀j,j<5->∀c,(y j).ownBlock=J c->xz (xj w2)<=c/\c<xz (xj d):=λj a c g=>((o.own j a).lt c g);have B:xz (xj l)=xz (xj d)+1:=by rw[<-f];simp
 have n:=Y9 s.b2;have t:HOwn (xz (xj w)+3) l h y:=⟨λj a=>Rq (Xs (o.own j a) λc g=>by rw[<-f];exact Zh4 _ _ _ (x j a c g).2) λc u n=>⟨Z0,n⟩,o.apart⟩;refine⟨by rw[<-f];exact(Zh4 _ _ _<|Y9 p.b2).trans p.b2,by rw[<-f];exact Zhk _ _,λj a=> ?_,by rw[<-f];exact p.cy.alloc p.cy.size _,Z0,λ_=>⟨t,λj a c g=>by have:=(x j a c g).2;omega⟩⟩;refine((Rp (k:=.u64) (o.own j a) (G:=λc=>xz (xj w2)<=c/\c<xz (xj d)) λc u n=>⟨u,n⟩).keep (λb r=>by rw[<-f];exact Zh4 _ _ _ r.2) λ_ q=>q).mono λb q=>⟨Z0,Z0,Z0⟩
def VF{W:Z3}{G:Z4}{l:Z8}{y:Ze}(h:Rd W G (.sl<|l.map vu) y):∃a c,y=.slice a (I l) c:=by
 generalize g:l.map vu=L at h;have d:I L=I l:=by rw[<-g,Zhv]
 cases h with
 |nil a c f=>exact⟨_,_,by rw[<-d];rfl⟩
 |sl _ b o cap k vs f j=>exact⟨_,_,by rw[d]⟩
def PSt.imp{w W:Z3}{a:Nat}{g:Hp}{x:Z5}{Q Q':Prop}(s:PSt w W a g x Q)(h:Q'->Q):PSt w W a g x Q':=⟨s.cz,s.br,s.rd,s.cy,s.nB,λq=>s.own<|h q⟩
def PSt.place{w W W':Z3}{t:Nat}{g:Hp}{x:Z5}{Q:Prop}(s:PSt w W t g x Q){l:Z8}{v:Ze}(F:xz (xj W)<=xz (xj W'))(y:∀b,b<xz (xj W)->b≠t->W'.heap[b]?=W.heap[b]?)
  (B:W'.heap[t]?=J (.cells (VE {g with ab:=l}<|λj=>if j=1 then v else x j) 30 (0,0))) (r:W'.ownsRow (xz<|xj W) 24 1 v (I l)<|Yg .u64 l) (o:Below (xz<|xj w) w W'):PSt w W' t {g with ab:=l} (λj=>if j=1 then v else x j) Q:=by
 have C:=s.cy.size;have z:=s.nB;have p:∀j,j<5->j≠1->Zu {g with ab:=l} j=Zu g j:=λj h a=>by
  have:j=0\/j=2\/j=3\/j=4:=Z0;obtain rfl|rfl|rfl|rfl:=this<;>rfl
 have D:xz (xj w)+3<=xz (xj W):=by have:=Y9 s.br;omega
 refine⟨(y _ (Y9 s.cz) Z0).trans s.cz,B,λj h=> ?_,o,z,λq=>⟨⟨λj h=> ?_,λi j u h c d f=> ?_⟩,λj h c d=> ?_⟩⟩;by_cases a:j=1;subst a;rw[Zhc rfl];exact Rp (k:=.u64) r λc a n=>⟨Z0,n,by have:=Y9 s.br;omega⟩;rw[Zh9 a,p j h a];exact((s.rd j h).keep (λb A=>y b A.2.1 A.2.2) λ_ q=>q).mono λb q=>⟨q.1,Z0,q.2.2⟩;by_cases a:j=1;subst a;rw[Zhc rfl];exact Rq r λc a n=>⟨Z0,n⟩;rw[Zh9 a,p j h a];exact Xs ((s.own q).1.own j h) λc d=>y c (((s.own q).1.own j h).lt c d).2<|(s.own q).2 j h c d;by_cases a:i=1;subst a;rw[Zhc rfl]at d;rw[Zh9 Z0]at f;have:=(r.lt c d).1;have:=(((s.own q).1.own j h).lt c f).2;omega;rw[Zh9 a]at d;by_cases n:j=1;subst n;rw[Zhc rfl]at f;have:=(r.lt c f).1;have:=(((s.own q).1.own i Z0).lt c d).2;omega;rw[Zh9 n]at f;exact(s.own q).1.apart i j u h c d f;by_cases a:j=1;subst a;rw[Zhc rfl]at d;have:=(r.lt c d).1;have:=Y9 s.br;omega;rw[Zh9 a]at d;exact(s.own q).2 j h c d
def Z85{W:Z3}{G:Z4}{B p n K:Nat}{l h:Z8}{y:Ze}(w:B<=xz (xj W))(o:W.ownsRow B 24 1 (.slice (J ⟨p,0,U⟩) n K) n<|Yg .u64 l)(z:Rd W G (.sl<|h.map vu) y)(A:n+I h<=2000000)(ty:Zf):
  ∃a c g,(Builtin.append_ #[28,28] ty #[.slice (J ⟨p,0,U⟩) n K,y]).run xP W=.ok (.slice a (n+I h) c) g/\g.ownsRow B 24 1 (.slice a (n+I h) c) (I<|l++h) (Yg .u64<|l++h)/\W.grownBy g (J p):=by
 have x:=SY;rw[<-UW]at o;obtain⟨C,g,f,q,d,r,_,_,t⟩:=LN (P:=xP) (ty:=ty) x Jb o w z (by rw[UW];exact LW _) (by simp only[Y3,Zhv];omega);rw[UW]at d;have k:I l=n:=by have:=o.1;rw[UW]at this;simpa[Yg]using this
 have j:I f=I h:=by have:=d.1;simp[Yg]at this;omega
 have u:=qf t j;obtain⟨a,c,e⟩:=Yi d;subst e;rw[u]at d;simp only[Zhv]at d q;refine⟨a,c,g,q,?_,r⟩;rw[ZhJ,k];simpa[Yg]using d
def Z68{m K:Nat}(l:m<=K)(k:K<=4096)(W:Z3):(Instr.makeSlice 28 (.int .i64 (m:Int))<|.int .i64 (K:Int)).run xP W=.ok (.slice (J ⟨xz<|xj W,0,U⟩) m K) (W.alloc<|.cells (madeCells #[.int .u64 0] K) 24):=by
 have a:(xP.info? 24).map (λi=>(i.zero,i.size,i.bytes))=J (J<|.int .u64 0,1,8):=Z2;obtain⟨i,g,d⟩:=Zh0.1 a;simp only[Zhe]at d;obtain⟨j,h,f⟩:=d;have:=run_make (P:=xP) (w:=W) 28 24 i (.int .u64 0) SY g j .i64 .i64 m K Z0 Z0 (by rw[f];omega) Z0;simpa[h,Value.cells]using this
def Z67{W:Z3}{B m K:Nat}(d:B<=xz (xj W))(a:m<=K)(f:K<=4096):(W.alloc<|.cells (madeCells #[.int .u64 0] K) 24).ownsRow B 24 1 (.slice (J ⟨xz<|xj W,0,U⟩) m K) m<|Yg .u64<|List.replicate m 0:=by
 refine⟨by simp[Yg],.inr ⟨_,K,_,rfl,d,Zhk _ _,a,Zgh,by rw[size_madeCells];simp,?_⟩⟩;rw[toList_madeCells_one];simp[Yg,List.take_replicate,Zkt a]
def Z87{g:Hp}{wd:Int}{n m:Nat}(p:ZI (Zv g)=xk)(u:n+1=m)(t:(I g.H:Int)+I g.ab+m<=g.cap):ZI (Zv<|Vn g wd n)=xk:=by
 obtain⟨d,f,h,j,k,⟨l,q,o,r⟩,a⟩:=XN.1 p;refine XN.2 ⟨d,f,h,j,k,⟨l,?_,o,?_⟩,a⟩;show(0:Int)<=(I ((wd::List.replicate n 0)++g.ab):Nat);omega;show((I ((wd::List.replicate n 0)++g.ab):Nat):Int)<=g.cap-I g.H;simp;omega
def Z83{g:Hp}{wd:Int}{n:Nat}(a:g.ok)(f:ZC wd)(h:n+1+I g.ab<=1000000):(Vn g wd n).ok:=by
 refine⟨a.base,a.cap,a.to,a.Z,a.H,?_,a.ah,a.ak,a.E,a.gg,λx d=> ?_,a.kr,a.kg,a.dm⟩;simp[Vn];omega;simp only[Vn,Zid,Zho,Zht,List.mem_replicate]at d;obtain rfl|⟨_,rfl⟩|d:=d;exact f;unfold ZC;omega;exact a.gj x d
def Z88{g:Hp}{wd:Int}{n:Nat}(d:ZI (Zv<|Vn g wd n)=xk):Y1 (Zv<|Vn g wd n) 2 0=(fstL (Zv<|Vn g wd n) 2,0)/\ZC (fstL (Zv<|Vn g wd n) 2)/\Xn (fstL (Zv<|Vn g wd n) 2)=(Y0 (Zv<|Vn g wd n) 2 0,0):=by
 have f:YR (Zv<|Vn g wd n) 2=(n+1+I g.ab:Nat):=by
  show((I ((wd::List.replicate n 0)++g.ab):Nat):Int)=_;simp;omega
 obtain⟨h,j,l,o⟩:=V5 d 2;refine⟨?_,⟨Z0,Z0⟩,?_⟩;have:=SZ d (k:=2) (a:=0) Z0 Z0;simpa using this;unfold Xn Y0;rw[Zh9 Z0,Int.add_zero]
def Z86{w W:Z3}{u:Nat}{g:Hp}{x:Z5}{Q:Prop}(s:PSt w W u g x Q)(v:Int)(v0 v1 f h v4 k v6 l n o:Ze):SW w (v,g,0) Q (.returned<|.tuple #[.int .u64 v,ZA g x,.int .i64 0]) ((((((((((W.setCell ⟨xz (xj w)+1+1,0,U⟩ v0).setCell ⟨xz (xj w)+1+1,1,U⟩ v1).setCell ⟨xz (xj w)+1+1,2,U⟩ f).setCell ⟨xz (xj w)+1+1,3,U⟩ h).setCell ⟨xz (xj w)+1+1,4,U⟩ v4).setCell ⟨xz (xj w)+1+1,5,U⟩ k).setCell ⟨xz (xj w)+1+1,6,U⟩ v6).setCell ⟨xz (xj w)+1+1,7,U⟩ l).setCell ⟨xz (xj w)+1+1,8,U⟩ n).setCell ⟨xz (xj w)+1+1,9,U⟩ o).drew:=by
 have r:=O3 W (xz (xj w)+1+1) v0 v1 f h v4 k v6 l n o;have p:∀c,c≠xz (xj w)+1+1->_:=λc d=>qQ (w2:=W) (b:=xz (xj w)+1+1) d v0 v1 f h v4 k v6 l n o;unfold UI at r;refine⟨x,rfl,(XW s.cy Z0 _ _ _ _ _ _ _ _ _ _).drew,λj a=>((s.rd j a).keep (λb z=>p b Z0) λ_ q=>q).mono λb q=>⟨Z0,?_⟩,λq=>⟨λj a=>Rq (Xs ((s.own q).1.own j a) λc d=>p c ?_) λc y t=>⟨Z0,t⟩,(s.own q).1.apart⟩⟩;rw[Gg,r];exact q.2.1;have:=(((s.own q).1.own j a).lt c d).1;omega
def Z18(w:Z3)(G:Z4)(hG:∀b,G b->b<xz (xj w))(h:Hp)(hh:h.ok)(d7:Z5)(hs:∀j,j<5->Rd w G (.sl<|(Zu h j).map vu) (d7 j))(n m:Nat)(pt wd:Int)(hn:n<=255)(hm:n+1=m)(n2:Xt n pt=(wd,0)){p q p8:Pts}(r:Rt h p){g h8:Hp}(hg:g.ok)(rg:Rt g q)(q5:h8.ok)(r8:Rt h8 p8)
  (hd:(h.Y=xk/\h8=h)\/(h.Y=xw/\Xo h p m=xk/\h8=h)\/(h.Y=xw/\Xo h p m=xw/\h8=X1 h)) (n1:g=ZM h8 m)
  {i3:Int×Hp×Int} (j4:i3=if Xo g q m then(Y0 (Zv<|Vn g wd n) 2 0,Vn g wd n,0)else(0,Hp.zero,7)) {Q:Prop} (hQ:Q->h.Y=xw/\Xo h p m=xk):
  Calls xP 12 #[ZA h d7,.agg #[.int .i64 (n:Nat),.int .i64 pt]] w (SW w i3 Q):=by
 have HS:=Zh2 hs;have HH:=Zh2 hh;have s5:1<=m/\m<=256:=Z0;have HD:=Zh2 hd;have i5:=Zh2 j4;have HQ:=Zh2 hQ;have HR:∀W,Below (xz<|xj w) w W->Calls xP 17 #[ZA h d7] W λe w'=>e=.returned (.bool<|Yw h)/\Below (xz<|xj W) W w':=λW C=>
  LK (w:=W) (G:=G) (x:=d7) hh (λb A=>Zh8 (hG b A) C.size) (λj hj=>(hs j hj).keep (λb A=>C.block b<|hG b A) λ_ q=>q)
 rw[r.right]at HR;have l6:=Zh2<|NG (s:=(n:Int)) (p:=pt);have n9:=Zh2 HR;have wn:IntKind.i64.wrap ((n:Int)+1)=(m:Int):=Zgc;have HN:=Zh2<|And.intro hm n1;obtain⟨W0,j7,s6,k9⟩:=PM w (.cells (VE h d7) 30)<|.cells #[.int .i64 (n:Nat),.int .i64 pt] 43;have o0:=Zh2 k9;have s3:=Zh2 j7;obtain⟨p0,s0,_,_⟩:=k9.F;unfold VE at j7 p0;clear hs HR hd j4 hQ k9 n1;unfold ZA;go_enter EM,Try.ntmps12
 go_upto_region 6 with (first
  |(go_at_call 22;go_loud (refine(l6.out W0).mono ?_;rintro e w1 ⟨rfl,j9⟩;rw[n2];dsimp only;have l0:=o0.out.below j9;have s7:=j9.size;obtain⟨p1,s1,_,_⟩:=l0.F;unfold VE at p1;have l7:=Zh2 l0;clear j9 l0 j7 l6 p0 s0))
  |(go_at_call 17;go_loud (refine(n9.out _ l7.out.cy).mono ?_;rintro e w2 ⟨rfl,k5⟩;have l1:=l7.out.below k5;have s8:=k5.size;obtain⟨p2,s2,_,_⟩:=l1.F;unfold VE at p2;have l9:=Zh2 l1;clear k5 l1 p1 s1))
  |(go_at_call 23;go_loud (refine(Ki _ G (λb C=>by have:=hG b C;omega) h HH.out d7<|λj hj=>(HS.out j hj).keep (λb C=>l9.out.cy.block b<|hG b C) (λ_ h=>h)).mono ?_;rintro e Z ⟨y,rfl,m7,a6⟩;obtain⟨a0,q0,e0⟩:=Yi<|a6.own 0 Z0;obtain⟨a1,q1,e1⟩:=Yi<|a6.own 1 Z0;obtain⟨a2,q2,e2⟩:=Yi<|a6.own 2 Z0;obtain⟨a3,q3,e3⟩:=Yi<|a6.own 3 Z0;obtain⟨a4,q4,e4⟩:=Yi<|a6.own 4 Z0;have l5:=Zh2<|And.intro m7 a6;clear m7 a6;unfold ZA;rw[e0,e1,e2,e3,e4])))
 obtain⟨W6,j8⟩:∃W6,Z.alloc (.cells #[.int .u64 h.base,.int .i64 h.cap,.int .i64 h.to,.bool h.Y,.int .i64 h.Z,.slice a0 (I<|Zu h 0) q0,.slice a1 (I<|Zu h 1) q1,.slice a2 (I<|Zu h 2) q2,.slice a3 (I<|Zu h 3) q3,.slice a4 (I<|Zu h 4) q4] 30)=W6:=⟨_,rfl⟩;have i4:PSt w W6 (xz<|xj Z) h y True:=Z8e l9.out Z0 l5.out.1 l5.out.2 (by unfold VE;rw[e0,e1,e2,e3,e4];exact j8);rw[j8];obtain⟨y6,f6⟩:=i4.F;rw[e0,e1,e2,e3,e4]at y6;have a5:=Zh2 i4;have m5:∀W,Below (xz<|xj W6) W6 W->Calls xP 24 #[.agg #[.int .u64 h.base,.int .i64 h.cap,.int .i64 h.to,.bool h.Y,.int .i64 h.Z,.slice a0 (I<|Zu h 0) q0,.slice a1 (I<|Zu h 1) q1,.slice a2 (I<|Zu h 2) q2,.slice a3 (I<|Zu h 3) q3,.slice a4 (I<|Zu h 4) q4],.int .i64 (m:Nat)] W λe w'=>e=.returned (.bool<|Xo h p m)/\Below (xz<|xj W) W w':=λW C=>by
  have:=OJ hh r (n:=(m:Int)) Z0 (W:=W) (λb A=>A.2.1) (i4.below C).rd;unfold ZA at this;rw[e0,e1,e2,e3,e4]at this;exact this
 have t:=Zh2 m5;have E:=Zh2<|And.intro e0<|And.intro e1<|And.intro e2<|And.intro e3 e4;clear i4 m5 p2 s2 j8 e0 e1 e2 e3 e4 wn;have m4:∀(W2:Z3) (x2:Z5) (W7:Z3),PSt w W7 (xz<|xj Z) h y True->Below (xz<|xj W7) W7 W2->(∀j,j<5->Rd W2 (λc=>(xz (xj w)+3<=c/\c<xz (xj W7)/\c≠xz (xj Z))\/(xz (xj W7)<=c/\c<xz (xj W2))) (.sl<|(Zu (X1 h) j).map vu) (x2 j))->PSt w (UI W2 (xz<|xj Z) (.int .u64 (X1 h).base) (.int .i64 (X1 h).cap) (.int .i64 (X1 h).to) (.bool (X1 h).Y) (.int .i64 (X1 h).Z) (x2 0) (x2 1) (x2 2) (x2 3)<|x2 4) (xz<|xj Z) (X1 h) x2 False:=λW2 x2 W7 s C hr=>s.store C hr;have n8:=Zh2 m4;clear m4;obtain⟨hc,rfl⟩|⟨hc,f9,rfl⟩|⟨hc,f9,rfl⟩:=HD.out;all_goals have HC:=Zh2 hc
 case' inl=>
  go_upto_region 10 with fail;have o:=Zh2 (a5.out.imp (Q':=Q) λq=>trivial);have u:=Zh2 E.out
 case' inr.inl=>
  have t:=t.out;rw[hc]at t;have t:=Zh2 t
  go_upto_region 10 with (first
   |(go_at_call 24;go_loud (refine(t.out _<|Zhi _ _).mono ?_;rintro e w7 ⟨rfl,e8⟩;rw[f9];have a9:=a5.out.below e8;obtain⟨y7,f7⟩:=a9.F;rw[E.out.1,E.out.2.1,E.out.2.2.1,E.out.2.2.2.1,E.out.2.2.2.2]at y7;have o:=Zh2 (a9.imp (Q':=Q) λq=>trivial);clear e8 a9)))
  have u:=Zh2 E.out
 case' inr.inr=>
  have t:=t.out;rw[hc]at t;have t:=Zh2 t
  go_upto_region 10 with (first
   |(go_at_call 24;go_loud (refine(t.out _<|Zhi _ _).mono ?_;rintro e w7 ⟨rfl,e8⟩;rw[f9];have a9:=a5.out.below e8;obtain⟨y7,f7⟩:=a9.F;rw[E.out.1,E.out.2.1,E.out.2.2.1,E.out.2.2.2.1,E.out.2.2.2.2]at y7;have j6:=Zh2 a9;clear e8 a9))
   |(go_at_call 25;go_loud (have h4:=Z0M w7 _ (λb A=>A.2.1) h HH.out y j6.out.rd;unfold ZA at h4;rw[hc,E.out.1,E.out.2.1,E.out.2.2.1,E.out.2.2.2.1,E.out.2.2.2.2,show Sg h=(X1 h,0)by unfold Sg;rw[Zh9 (by rw[r.right];simp),Zh9 (by rw[HC.out];simp)]]at h4;refine h4.mono ?_;clear h4;rintro e w8 ⟨x8,rfl,k6,a7⟩;obtain⟨v8,g8⟩:=(j6.out.below k6).F;rw[E.out.1,E.out.2.1,E.out.2.2.1,E.out.2.2.2.1,E.out.2.2.2.2]at v8;have b5:=n8.out w8 x8 w7 j6.out k6 (λj hj=>(a7 j hj).mono λb q=>.inr q);obtain⟨b0,k0,f0⟩:=VF<|a7 0 (by omega);obtain⟨b1,k1,f1⟩:=VF<|a7 1 (by omega);obtain⟨b2,k2,f2⟩:=VF<|a7 2 (by omega);obtain⟨b3,k3,f3⟩:=VF<|a7 3 (by omega);obtain⟨b4,k4,f4⟩:=VF<|a7 4 (by omega);unfold ZA;rw[f0,f1,f2,f3,f4];have z8:=b5.F.1;unfold UI at z8;rw[f0,f1,f2,f3,f4]at z8;have o1:=Zh2 b5;have u:=Zh2<|And.intro f0<|And.intro f1<|And.intro f2<|And.intro f3 f4;clear k6 a7 b5 f0 f1 f2 f3 f4)))
 case' inl=>
  obtain⟨W8,rfl⟩:∃W8,W8=W6:=⟨_,rfl⟩;have d9:=HC;have h3:=hc;clear y6
 case' inr.inl=>
  obtain⟨W8,rfl⟩:∃W8,W8=w7:=⟨_,rfl⟩;have d9:=HC;have h3:=hc;clear y6 y7
 case' inr.inr=>
  obtain⟨W8,g6⟩:∃W8,UI w8 (xz<|xj Z) (.int .u64 (X1 h).base) (.int .i64 (X1 h).cap) (.int .i64 (X1 h).to) (.bool (X1 h).Y) (.int .i64 (X1 h).Z) (.slice b0 (I<|Zu (X1 h) 0) k0) (.slice b1 (I<|Zu (X1 h) 1) k1) (.slice b2 (I<|Zu (X1 h) 2) k2) (.slice b3 (I<|Zu (X1 h) 3) k3) (.slice b4 (I<|Zu (X1 h) 4) k4)=W8:=⟨_,rfl⟩;have b5:=o1.out;rw[u.out.1,u.out.2.1,u.out.2.2.1,u.out.2.2.2.1,u.out.2.2.2.2,g6]at b5;have o:=Zh2 (b5.imp (Q':=Q) λq=>by have:=(HQ.out q).2;rw[f9]at this;cases this);unfold UI at g6;rw[g6];clear y6 y7 z8 g6 b5 v8 g8;cases h3:(X1 h).Y;all_goals have d9:=Zh2 h3
 all_goals
  obtain⟨y8,f8⟩:=o.out.F;rw[u.out.1,u.out.2.1,u.out.2.2.1,u.out.2.2.2.1,u.out.2.2.2.2]at y8;first
  | (have f5:=Z4k (EE P4 q5 (k:=(m:Int)) ⟨by omega,by omega⟩) (λb A=>A.2.1) o.out.rd
     rw[O7 r8,<-HN.out.2]at f5;unfold ZA at f5;rw[u.out.1,u.out.2.1,u.out.2.2.1,u.out.2.2.2.1,u.out.2.2.2.2,show _=xk from d9.out]at f5
     go_upto_region 14 with (first
      |(go_at_call 9;go_loud (refine f5.mono ?_;clear f5;rintro e w9 ⟨x9,rfl,k7,a8⟩;obtain⟨v9,g9⟩:=(o.out.below k7).F;rw[u.out.1,u.out.2.1,u.out.2.2.1,u.out.2.2.2.1,u.out.2.2.2.2]at v9;have b6:=o.out.store k7 a8;obtain⟨b0,k0,f0⟩:=VF<|a8 0 (by omega);obtain⟨b1,k1,f1⟩:=VF<|a8 1 (by omega);obtain⟨b2,k2,f2⟩:=VF<|a8 2 (by omega);obtain⟨b3,k3,f3⟩:=VF<|a8 3 (by omega);obtain⟨b4,k4,f4⟩:=VF<|a8 4 (by omega);unfold ZA;rw[f0,f1,f2,f3,f4];rw[f0,f1,f2,f3,f4]at b6;have m0:=Zh2 b6;clear k7 a8 b6 f0 f1 f2 f3 f4))))
  |go_upto_region 14 with fail
 all_goals
  first
  | (obtain⟨W9,g7⟩:∃W9,UI w9 (xz<|xj Z) (.int .u64 g.base) (.int .i64 g.cap) (.int .i64 g.to) (.bool g.Y) (.int .i64 g.Z) (.slice b0 (I<|Zu g 0) k0) (.slice b1 (I<|Zu g 1) k1) (.slice b2 (I<|Zu g 2) k2) (.slice b3 (I<|Zu g 3) k3) (.slice b4 (I<|Zu g 4) k4)=W9:=⟨_,rfl⟩
     have b6:=m0.out;rw[g7]at b6;have d8:=Zh2 (b6.imp (Q':=Q) λq=>by have h1:=(HQ.out q).1;have h2:=(HQ.out q).2;first|(rw[HC.out]at h1;cases h1;done)|(rw[f9]at h2;cases h2;done));unfold UI at g7;rw[g7];clear y8 v9 g9 g7 b6 m0)
  | (obtain⟨W9,rfl⟩:∃W9,W9=W8:=⟨_,rfl⟩
     have n0:=HN.out.2.trans<|TY d9.out m;have d:=o.out;rw[<-n0]at d;have d8:=Zh2 d;clear y8 d n0)
 all_goals
  clear o u a5 E d9 HC h3 hc;obtain⟨x9,d⟩:∃x9,PSt w W9 (xz<|xj Z) g x9 Q:=⟨_,d8.out⟩;obtain⟨c0,d0,e0⟩:=VF<|d.rd 0 Z0;obtain⟨c1,d1,e1⟩:=VF<|d.rd 1 Z0;obtain⟨c2,d2,e2⟩:=VF<|d.rd 2 Z0;obtain⟨c3,d3,e3⟩:=VF<|d.rd 3 Z0;obtain⟨c4,d4,e4⟩:=VF<|d.rd 4 Z0;obtain⟨y9,o3⟩:=d.F;rw[e0,e1,e2,e3,e4]at y9;have Y:=OJ hg rg (n:=(m:Int)) Z0 (W:=W9) (λb A=>A.2.1) d.rd;unfold ZA at Y;rw[e0,e1,e2,e3,e4]at Y;have E:=Zh2<|And.intro e0<|And.intro e1<|And.intro e2<|And.intro e3 e4;have a5:=Zh2 d;clear d8 d e0 e1 e2 e3 e4;cases g3:Xo g q m;case false=>
   have k8:i3=(0,Hp.zero,7):=by rw[i5.out,g3];rfl
   rw[g3]at Y;subst k8
   go_wp2_with (first
    |(go_at_call 24;go_loud (refine Y.mono ?_;clear Y;rintro e f ⟨rfl,S⟩;have B:=a5.out.below S;obtain⟨s9,r4⟩:=B.R;have a:=Zh2 B;clear S B)))
   have r2:=WW a.out.cz (.int .u64 0) (.int .i64 0) (.int .i64 0) (.bool xw) (.int .i64 0) (.slice U 0 0) (.slice U 0 0) (.slice U 0 0) (.slice U 0 0)<|.slice U 0 0;refine ZhE (v:=.tuple #[.int .u64 0,.agg ZL,.int .i64 7]) ?_ rfl ?_
   .simp[results,Try.results12,go_sem,r2,ZL]
   exact⟨λ_=>.slice U 0 0,rfl,XW a.out.cy Z0 _ _ _ _ _ _ _ _ _ _,jM _ _,λ_=>RT _ _⟩
  case true=>
   have o7:I (Zu g 1)=I g.ab:=rfl;have h0:(I g.H:Int)+I g.ab+YF q+m<=g.cap:=by simpa[Xo]using g3
   have j1:=rg.ms;obtain⟨K,hK⟩:∃K,m+I (Zu g 1)=K:=⟨_,rfl⟩;have m3:K<=4096:=Z0;have wk:IntKind.i64.wrap ((m:Int)+(I (Zu g 1):Int))=(K:Int):=Zgc;have o8:=Z68 (m:=m) (K:=K) Z0 Z0;have s4:((0:Int)< (m:Int))=True:=ZjA Z0;have HB:=Zh2<|And.intro h0<|And.intro j1<|And.intro hK m3;rw[g3]at Y;clear h0 j1 hK m3 o7
   go_upto_region 17 with (first
    |(go_at_call 24;go_loud (refine Y.mono ?_;clear Y;rintro e f ⟨rfl,S⟩;have B:=a5.out.below S;obtain⟨n6,m1⟩:=B.F;rw[E.out.1,E.out.2.1,E.out.2.2.1,E.out.2.2.2.1,E.out.2.2.2.2]at n6;have a:=Zh2 B;clear S B y9 o3)))
   obtain⟨O,D⟩:∃O,f.alloc (.cells (madeCells #[.int .u64 0] K) 24)=O:=⟨_,rfl⟩;rw[D];have b8:O.ownsRow (xz<|xj f) 24 1 (.slice (J ⟨xz<|xj f,0,U⟩) m K) m<|Yg .u64<|List.replicate m 0:=by rw[<-D];exact Z67 (Zh3 _) (by have:=HB.out.2.2.1;omega) HB.out.2.2.2
   have j5:xz (xj O)=xz (xj f)+1:=by rw[<-D];simp
   have j2:∀b,b<xz (xj f)->O.heap[b]?=f.heap[b]? :=λb C=>by rw[<-D];exact Zh4 _ _ _ C
   have m8:O.cell? ⟨xz<|xj f,0,U⟩=J (.int .u64 0):=by rw[b8.cellAt 0 Z0];simp[Yg,show 0<m by omega]
   have m9:=Z7t b8 (i:=0) Z0;have X:=(b8.stored 0<|.int .u64 wd).1;have i7:Below (xz<|xj w) w O:=by rw[<-D];exact a.out.cy.alloc a.out.cy.size _
   have HO:=Zh2<|And.intro X<|And.intro j5<|And.intro j2 i7;clear b8 X j2 i7 D n6 m1 o8 wk j5;go_upto_region 18 with fail;obtain⟨P,H⟩:∃P,O.setCell ⟨xz<|xj f,0,U⟩ (.int .u64 wd)=P:=⟨_,rfl⟩;rw[H];have n4:xz (xj P)=xz (xj f)+1:=by rw[<-H];simpa[World.setCell]using HO.out.2.1
   have b7:∀b,b<xz (xj f)->P.heap[b]?=f.heap[b]? :=λb C=>by rw[<-H];exact(Zhj _ _ _ _ (by show b≠xz (xj f);omega)).trans (HO.out.2.2.1 b C)
   have e7:Below (xz<|xj w) w P:=by rw[<-H];exact HO.out.2.2.2.setCell (by have:=a.out.cy.size;exact this) _
   have o9:=Y9 a.out.br;have g4:=(b7 _ o9).trans a.out.br;unfold VE at g4;rw[E.out.1,E.out.2.1,E.out.2.2.1,E.out.2.2.2.1,E.out.2.2.2.2]at g4;have q8:∀j,P.cell? ⟨xz<|xj Z,j,U⟩=(#[.int .u64 g.base,.int .i64 g.cap,.int .i64 g.to,.bool g.Y,.int .i64 g.Z,.slice c0 (I<|Zu g 0) d0,.slice c1 (I<|Zu g 1) d1,.slice c2 (I<|Zu g 2) d2,.slice c3 (I<|Zu g 3) d3,.slice c4 (I<|Zu g 4) d4]:Array Value)[j]? :=λj=>Zh7 _ _ _ _ _ _ g4;have j3:Rd P (λc=>xz (xj w)+3<=c/\c<xz (xj f)/\c≠xz (xj Z)) (.sl<|g.ab.map vu)<|.slice c1 (I<|Zu g 1) d1:=by
    have:=a.out.rd 1 Z0;rw[E.out.2.1]at this;exact this.keep (λb C=>b7 b C.2.1) λ_ q=>q
   have X:P.ownsRow (xz<|xj f) 24 1 (.slice (J ⟨xz<|xj f,0,U⟩) m K) m<|Yg .u64<|wd::List.replicate n 0:=by
    have:=HO.out.1;rw[H,<-Lf]at this;rw[show wd::List.replicate n 0=(List.replicate m 0).set 0 wd by rw[<-hm,List.replicate_succ];rfl];exact this
   obtain⟨e6,g5,l2,m6,e9,T⟩:=Z85 Z0 X j3 (by have:=HB.out;have:I (Zu g 1)=I g.ab:=rfl;omega) 28;obtain⟨M,d6⟩:∃M,Vn g wd n=M:=⟨_,rfl⟩;obtain⟨N,hx⟩:∃N:Z5,(λj=>if j=1 then .slice e6 (m+I g.ab) g5 else x9 j)=N:=⟨_,rfl⟩;have i2:=(T.block _ Z0 Zg1).trans g4;have q9:∀j,l2.cell? ⟨xz<|xj Z,j,U⟩=(#[.int .u64 g.base,.int .i64 g.cap,.int .i64 g.to,.bool g.Y,.int .i64 g.Z,.slice c0 (I<|Zu g 0) d0,.slice c1 (I<|Zu g 1) d1,.slice c2 (I<|Zu g 2) d2,.slice c3 (I<|Zu g 3) d3,.slice c4 (I<|Zu g 4) d4]:Array Value)[j]? :=λj=>Zh7 _ _ _ _ _ _ i2;have o2:∀j,l2.frozen? ⟨xz<|xj Z,j,U⟩=xw:=λj=>Yc i2;obtain⟨e5,L⟩:∃e5,l2.setCell ⟨xz<|xj Z,6,U⟩ (.slice e6 (m+I g.ab) g5)=e5:=⟨_,rfl⟩;have h6:N 0=.slice c0 (I<|Zu g 0) d0:=by rw[<-hx];exact E.out.1
   have h7:N 1=.slice e6 (m+I g.ab) g5:=by rw[<-hx];rfl
   have h9:N 2=.slice c2 (I<|Zu g 2) d2:=by rw[<-hx];exact E.out.2.2.1
   have i0:N 3=.slice c3 (I<|Zu g 3) d3:=by rw[<-hx];exact E.out.2.2.2.1
   have i1:N 4=.slice c4 (I<|Zu g 4) d4:=by rw[<-hx];exact E.out.2.2.2.2
   have n5:=T.size;have b9:PSt w e5 (xz<|xj Z) M N Q:=by
    have:=a.out.place (W':=e5) (l:=(wd::List.replicate n 0)++g.ab) (v:=.slice e6 (m+I g.ab) g5) ?_ ?_ ?_ ?_ ?_;rw[<-d6,<-hx];exact this;rw[<-L];simp[World.setCell];omega;intro b C o5;rw[<-L];exact(Zhj _ _ _ _ o5).trans ((T.block _ Z0 Zg1).trans<|b7 b C);rw[<-L];unfold VE;have e0:=E.out.1;have e2:=E.out.2.2.1;have e3:=E.out.2.2.2.1;have e4:=E.out.2.2.2.2;simp[World.setCell,ZhB,i2,e0,e2,e3,e4];rw[<-L];refine Xs e9 λb C=>Zhj _ _ _ _ ?_;have:=(e9.lt b C).1;show b≠xz (xj Z);omega;rw[<-L];exact(Below.grown e7 T e7.size (λr hr=>by cases hr;have:=a.out.cy.size;omega)).setCell (by show xz (xj w)<=xz (xj Z);have:=a.out.nB;omega) _
   go_upto_region 19 with (at_builtin;refine Lib.wpList_append_run _ rfl _ _ 28 28 rfl _ _ rfl rfl _ _ m6 ?_);have h0:(I g.H:Int)+I g.ab+m<=g.cap:=by have:=HB.out.1;omega
   have o6:ZI (Zv M)=xk:=by rw[<-d6];exact Z87 rg.bb hm h0
   have hu:ZC wd:=by
    have:=NF n pt;rw[n2]at this;unfold ZC;dsimp only at this;omega
   have o4:M.ok:=by rw[<-d6];exact Z83 hg hu (by have:=HB.out;have:I (Zu g 1)=I g.ab:=rfl;omega)
   have n3:Y1 (Zv M) 2 0=(fstL (Zv M) 2,0)/\ZC (fstL (Zv M) 2)/\Xn (fstL (Zv M) 2)=(Y0 (Zv M) 2 0,0):=by
    have:=Z88 (g:=g) (wd:=wd) (n:=n) (by rw[d6];exact o6);rw[d6]at this;exact this
   obtain⟨n7,m2⟩:=b9.F;rw[h6,h7,h9,i0,i1]at n7;have h5:=Ts (w:=e5) (λb C=>C.2.1) b9.rd;unfold ZA at h5;rw[h6,h7,h9,i0,i1]at h5;have l8:=Zh2 b9;have HX:=Zh2<|And.intro h6<|And.intro h7<|And.intro h9<|And.intro i0 i1;have HP:=Zh2<|And.intro n3 o4;clear g4 q8 j3 X m6 e9 T i2 q9 o2 L b9 h6 h7 h9 i0 i1 n3 n5 H b7 e7 n4 m8 m9 hx
   go_upto_region 25 with (first
    |(go_at_call 27;go_loud (refine h5.mono ?_;clear h5;rintro e q6 ⟨rfl,i8⟩;unfold Vi;have l3:=Zh2 i8;clear i8))
    |(go_at_call 26;go_loud (refine(A0 HP.out.2.bb 2 0 q6).mono ?_;rintro e q7 ⟨rfl,i9⟩;rw[HP.out.1.1];dsimp only;have l4:=Zh2 i9;clear i9))
    |(go_at_call 28;go_loud (refine(O0 HP.out.1.2.1 q7).mono ?_;rintro e t1 ⟨rfl,j0⟩;rw[HP.out.1.2.2];dsimp only;have d5:=((l8.out.below l3.out).below l4.out).below j0;obtain⟨r1,r3⟩:=d5.F;rw[HX.out.1,HX.out.2.1,HX.out.2.2.1,HX.out.2.2.2.1,HX.out.2.2.2.2]at r1;obtain⟨t0,r9⟩:=d5.R;have i6:=Zh2 d5;clear j0 d5 n7 m2)))
   have k8:i3=(Y0 (Zv M) 2 0,M,0):=by rw[i5.out,g3,d6];rfl
   subst k8;go_region;all_goals
    go_wp2;try simp only[Exit.inBlock,Exit.then]
    have z:=WW i6.out.cz (.int .u64 M.base) (.int .i64 M.cap) (.int .i64 M.to) (.bool M.Y) (.int .i64 M.Z) (.slice c0 (I<|Zu g 0) d0) (.slice e6 (m+I g.ab) g5) (.slice c2 (I<|Zu g 2) d2) (.slice c3 (I<|Zu g 3) d3)<|.slice c4 (I<|Zu g 4) d4;refine ZhE (v:=.tuple #[.int .u64<|Y0 (Zv M) 2 0,ZA M N,.int .i64 0]) ?_ rfl ?_
    .unfold ZA;rw[HX.out.1,HX.out.2.1,HX.out.2.2.1,HX.out.2.2.2.1,HX.out.2.2.2.2];simp[results,Try.results12,go_sem,z]
    exact Z86 i6.out _ _ _ _ _ _ _ _ _ _ _
end Vm
end
section
namespace Vm
open Go Go.Proofs
def GU{h:Hp}(y:h.ok)(z:h.to=0\/h.to=1):(X1 h).ok:=by
 have:=AI y z<|I h.E;unfold X1 TF;obtain⟨d,f,g,j,k,l,r,t,n,o,p,u,x,q⟩:=this;split;exact⟨d,f,g,j,k,l,r,t,n,o,p,u,x,q⟩;exact⟨d,f,g,j,k,l,Zik _,Zik _,n,o,p,λw a=>(by cases a),λw a=>(by cases a),q⟩
end Vm
end
section
namespace Vm
open Go Go.Proofs Go.RowKit
def Z17(w:Z3)(G:Z4)(H:∀b,G b->b<xz (xj w))(h:Hp)(S:h.ok)(d:Z5)(M:∀j,j<5->Rd w G (.sl<|(Zu h j).map vu) (d j))(n pt:Int)(L:(Xt n pt).2=1\/((Xt n pt).2=0/\Yw h=xw))(Q:Prop):
  Calls xP 12 #[ZA h d,.agg #[.int .i64 n,.int .i64 pt]] w (SW w (0,Hp.zero,1) Q):=by
 have C:∀W,Below (xz<|xj w) w W->Calls xP 17 #[ZA h d] W λe w'=>e=.returned (.bool<|Yw h)/\Below (xz<|xj W) W w':=λW K=>
  LK (w:=W) (G:=G) (x:=d) S (λb f=>Zh8 (H b f) K.size) (λj T=>(M j T).keep (λb f=>K.block b<|H b f) λ_ q=>q)
 have o:=Zh2<|NG (s:=n) (p:=pt);have r:=Zh2 C;obtain⟨R,A,Y,g⟩:=PM w (.cells (VE h d) 30)<|.cells #[.int .i64 n,.int .i64 pt] 43;have z:=Zh2 g;obtain⟨N,Z,_,_⟩:=g.F;obtain⟨P,D,y⟩:∃P D,Xt n pt=(P,D):=⟨_,_,rfl⟩;rw[y]at L;unfold VE at A N;clear M C g;unfold ZA;have key:∀W,SW w (0,Hp.zero,1) Q (.returned<|.tuple #[.int .u64 0,.agg ZL,.int .i64 1]) W=SW w (0,Hp.zero,1) Q (.returned<|.tuple #[.int .u64 0,ZA Hp.zero (λ_=>.slice U 0 0),.int .i64 1]) W:=λ_=>rfl;obtain rfl|⟨rfl,X⟩:=L;case' inr=>rw[X]at r
 all_goals
  go_enter EM,Try.ntmps12
  go_wp2_with (first
   |(go_at_call 22;go_loud (refine(o.out R).mono ?_;rintro e w1 ⟨rfl,t⟩;rw[y];dsimp only;have k:=z.out.below t;obtain⟨O,s1,z1,f1⟩:=k.F;unfold VE at O;unfold ZL at z1;have a:=Zh2 k;clear t k o N Z))
   |(go_at_call 17;go_loud (refine(r.out _ a.out.cy).mono ?_;rintro e w2 ⟨rfl,u⟩;have l:=a.out.below u;obtain⟨p2,s2,z2,f2⟩:=l.F;unfold ZL at z2;have a:=Zh2 l;clear u l O s1)))
  have B:=WW a.out.b2 (.int .u64 0) (.int .i64 0) (.int .i64 0) (.bool xw) (.int .i64 0) (.slice U 0 0) (.slice U 0 0) (.slice U 0 0) (.slice U 0 0)<|.slice U 0 0;refine ZhE (v:=.tuple #[.int .u64 0,.agg ZL,.int .i64 1]) ?_ rfl ?_
  .simp[results,Try.results12,go_sem,B,ZL]
  exact⟨λ_=>.slice U 0 0,rfl,XW a.out.cy Z0 _ _ _ _ _ _ _ _ _ _,jM _ _,λ_=>RT _ _⟩
def XE(h:Hp)(p:Pts)(n:Nat):Hp:=ZM (if h.Y=xw/\Xo h p (n+1:Nat)=xw then X1 h else h)<|n+1
def QD(h:Hp)(p q:Pts)(n:Nat)(wd:Int):Int×Hp×Int:=if Xo (XE h p n) q (n+1:Nat)then(Y0 (Zv<|Vn (XE h p n) wd n) 2 0,Vn (XE h p n) wd n,0)else(0,Hp.zero,7)
def GX{h:Hp}{p:Pts}(r:Rt h p)(hc:h.Y=xw):∃q,Rt (X1 h) q:=by
 obtain⟨g,q,_,e,a,_⟩:=Z3R r hc;exact⟨_,by rw[e];exact a⟩
def Z16(w:Z3)(G:Z4)(z:∀b,G b->b<xz (xj w))(h:Hp)(t:h.ok)(a:Z5)(C:∀j,j<5->Rd w G (.sl<|(Zu h j).map vu) (a j))(n:Nat)(pt wd:Int)(B:n<=255)(x:Xt n pt=(wd,0)){p:Pts}(r:Rt h p):
  ∃q,Rt (XE h p n) q/\(XE h p n).ok/\Calls xP 12 #[ZA h a,.agg #[.int .i64 (n:Nat),.int .i64 pt]] w (SW w (QD h p q n wd)<|h.Y=xw/\Xo h p (n+1:Nat)=xk):=by
 have key:∀d p8,d.ok->Rt d p8->(if h.Y=xw/\Xo h p (n+1:Nat)=xw then X1 h else h)=d->((h.Y=xk/\d=h)\/(h.Y=xw/\Xo h p (n+1:Nat)=xk/\d=h)\/(h.Y=xw/\Xo h p (n+1:Nat)=xw/\d=X1 h))->∃q,Rt (XE h p n) q/\(XE h p n).ok/\Calls xP 12 #[ZA h a,.agg #[.int .i64 (n:Nat),.int .i64 pt]] w (SW w (QD h p q n wd)<|h.Y=xw/\Xo h p (n+1:Nat)=xk):=by
  intro d p8 o y e A;obtain⟨q,sc⟩:=y.cp<|n+1;have u:XE h p n=ZM d (n+1):=by unfold XE;rw[e]
  have k:(XE h p n).ok:=by rw[u];exact SK o y _
  have l:Rt (XE h p n) q:=by rw[u];exact sc.rt
  exact⟨q,l,k,Z18 w G z h t a C n (n+1) pt wd B rfl x r k l o y A u rfl<|λq=>q⟩
 by_cases f:h.Y=xk;exact key h p t r (by rw[f];simp)<|.inl ⟨f,rfl⟩;have f:h.Y=xw:=Zgi;by_cases g:Xo h p (n+1:Nat)=xk;exact key h p t r (by rw[g];simp)<|.inr<|.inl ⟨f,g,rfl⟩;have g:Xo h p (n+1:Nat)=xw:=ZgT;obtain⟨q,F⟩:=GX r f;have D:h.to=0\/h.to=1:=(XN.1 r.bb).2.2.2.2.1;exact key (X1 h) q (GU t D) F (by rw[g,f];simp)<|.inr<|.inr ⟨f,g,rfl⟩
end Vm
end
section
namespace Vm
open Go Go.Proofs
section
section
variable {h:Hp}{p:Pts}
def Rt.left(r:Rt h p){M:Nat}(g:(ZM h M).Y=xw):∃L:Nat,(ZM h M).Z=h.Z+L/\(∀n:Nat,(ZM h n).Y=xw↔L<=n)/\∀n:Nat,n<=L->(ZM h n).Z=h.Z+n:=by
 obtain⟨q,s⟩:=r.cp M;obtain⟨L,y⟩:=Zhf (a:=(ZM h M).Z-h.Z) (by have:=s.Z.1;omega);have k:∀n:Nat,(ZM h n).Y=xw↔L<=n:=λn=>by
  obtain⟨o,f⟩:=r.cp n;constructor;intro d;have e:=Dl d g;have:=f.Z.2;rw[e]at this;omega;intro l;cases d:(ZM h n).Y;rfl;obtain⟨z,j⟩:=f.rt.cp M;have e:ZM (ZM h n) M=ZM h M:=by rw[<-TX,Zjz,TX,TY g]
  rw[e]at j;have t:=j.whole g d;have u:=j.len;have w:=(f.ij d).2.1;have x:=f.rt.ij d;omega
 refine⟨L,Z0,k,λn l=> ?_⟩;obtain⟨o,f⟩:=r.cp n;cases d:(ZM h n).Y;have:=(k n).1 d;rw[Dl d g];omega;exact(f.ij d).2.1
def DV(h:Hp)(p:Pts):Int:=I h.H+I h.ab+YF p
end
end
end Vm
end
section
namespace Vm
open Go Go.Proofs Go.RowKit
def Z0E(G:Z4)(w:Z3)(r:Int×Hp×Int)(e:Ending)(w':Z3):Prop:=
 ∃x,e=.returned (.tuple #[.int .u64 r.1,ZA r.2.1 x,.int .i64 r.2.2])/\Below (xz<|xj w) w w'/\∀j,j<5->Rd w' (λc=>G c\/(xz (xj w)<=c/\c<xz (xj w'))) (.sl<|(Zu r.2.1 j).map vu) (x j)
def Zb1{f:Zp}(n:Vx xP f=xk){h:Hp}{y:V}(a:Uz y=xk){r:Int×Hp×Int}
  (hc:∀(w:Z3) (G:Z4) (d:Z5),(∀b,G b->b<xz (xj w))->(∀j,j<5->Rd w G (.sl<|(Zu h j).map vu) (d j))->Calls xP f #[ZA h d,Tz y] w (Z0E G w r)):
  VC xP f xw [ZD h,y] (.am [vu r.1,ZD r.2.1,vi r.2.2]):=by
 refine⟨n,λw G vs q o k=> ?_⟩;have r0:=k 0 _ rfl;have C:=Ao a<|k 1 _ rfl;have t:vs=#[vs.getD 0 xy,vs.getD 1 xy]:=by
  have g:vs.size=2:=o;apply Zjs;simp[g];intro i D F;have u:i<2:=Z0
  match i,u with
  |0,_=>simp[Array.getD,g]
  |1,_=>simp[Array.getD,g]
 obtain⟨d,p,B⟩:=yC r0;rw[t,p,C];refine(hc w G d q B).mono ?_;rintro e H ⟨x,rfl,l,A⟩;refine⟨_,rfl,l,.am _ _ rfl ?_⟩;intro i y a
 match i,a with
 |0,a=>cases a;exact .int _ _
 |1,a=>cases a;exact Jr λj z=>(A j z).mono λb l=>ZgV
 |2,a=>cases a;exact .int _ _
def t5{f:Zp}(g:Vx xP f=xk){h:Hp}{y:V}(q:Uz y=xk){r:Int×Hp×Int}{Q:Prop}
  (hc:∀(w:Z3) (G:Z4) (a:Z5),(∀b,G b->b<xz (xj w))->(∀j,j<5->Rd w G (.sl<|(Zu h j).map vu) (a j))->Calls xP f #[ZA h a,Tz y] w (SW w r Q)):
  VC xP f xw [ZD h,y] (.am [vu r.1,ZD r.2.1,vi r.2.2]):=by
 refine Zb1 g q λw G a l p=>(hc w G a l p).mono ?_;rintro e t ⟨x,k,d,o,_⟩;exact⟨x,k,d,λj n=>(o j n).mono λb d=>.inr d⟩
def Z19{h:Hp}(g:h.ok){p:Pts}(r:Rt h p){n:Nat}{pt wd:Int}(z:n<=255)(j:Xt n pt=(wd,0)):∃q,Rt (XE h p n) q/\(XE h p n).ok/\VC xP 12 xw [ZD h,WY n pt] (.am [vu (QD h p q n wd).1,ZD (QD h p q n wd).2.1,vi (QD h p q n wd).2.2]):=by
 obtain⟨t,x⟩:∃t,XE h p n=t:=⟨_,rfl⟩;have key:∃q,Rt (XE h p n) q/\(XE h p n).ok:=by
  by_cases a:h.Y=xw/\Xo h p (n+1:Nat)=xw;obtain⟨q,d⟩:=GX r a.1;have B:h.to=0\/h.to=1:=(XN.1 r.bb).2.2.2.2.1;obtain⟨f,sc⟩:=d.cp<|n+1;unfold XE;rw[Zhc a];exact⟨f,sc.rt,SK (GU g B) d _⟩;obtain⟨f,sc⟩:=r.cp<|n+1;unfold XE;rw[Zh9 a];exact⟨f,sc.rt,SK g r _⟩
 obtain⟨q,d,k⟩:=key;refine⟨q,d,k,t5 Z2 (y:=WY n pt) rfl (Q:=h.Y=xw/\Xo h p (n+1:Nat)=xk) λw G o u A=> ?_⟩;obtain⟨f,l,_,a⟩:=Z16 w G u h g o A n pt wd z j r;rw[d.iu l]at a;exact a
def AV:Hp:=⟨10,5,0,xw,0,[],[],[],[],[0]⟩
def OI{h:Hp}{p:Pts}(r:Rt h p)(n:Int):Xo h p n=decide ((I h.H:Int)+I h.ab+RM h+n<=h.cap):=by unfold Xo;rw[r.nf]
end Vm
end
section
namespace Vm
open Go Go.Proofs
def Cg:Fn:=⟨4,[0,1,4,6],pQ [pR [pV 2<|pI 0],pi 3 (pl (.s 0)<|pI 0)<|pR [pV 0<|.un .neg<|pa (.s 0)<|pI 1]]<|px [pV 2<|.bp .rem (.s 0)<|.s 1],[(2,.v)]⟩
def FT:ZX [.fz,.fz] Try.f10=J Cg:=Z2
def MP:Fn:=⟨8,[0,1,2,3,4,6,5,7],pQ [pR [(2,pS 0 10),(3,pS 1 2),pV 4 pF],pC [pK 8 12 [.mm 2 0 10,.mm 3 0 2]] [(5,pM (.sz (.ext (.s 8) 1) 10) 10),pV 6<|.ext (.s 8) 0,pV 7<|.ext (.s 8) 2]]<|px [pV 4<|pe (.s 7)<|pI 0],[(4,.v)]⟩
def c13:ZX [.fz,.fz] Try.f13=J MP:=Z2
def MW:Fn:=⟨8,[0,2,3,8,7,9,5,6],pQ [pR [pV 1<|pI 0],pR [pV 2<|pI 0],pQ [pR [pV 3<|pI 0,pV 4<|.len<|.s 0,pV 7<|.s 0]]<|po [0,1,2,3,4,7] 5 (pl (.s 3)<|.s 4) (pQ [pR [pV 6<|.ae (.ba (.s 7) (.s 3) 1) 0]]<|pR [pV 2<|pa (.s 2)<|.s 6])<|pc 3]<|px [pV 1<|.s 2],[(1,.v)]⟩
def c19:ZX [.fz] Try.f19=J MW:=Z2
def p3:Fn:=⟨20,[0,1,2,4,5,6,7,8,53,9,10,11,12,13,14,15,104,107,16,17],pQ [pR [(2,pS 0 7),pV 3 pF],pC [pK 20 6 []] [pV 4<|.s 20],pC [pK 21 7 [.mm 2 0 7]] [(5,pS 21 10)],pC [.call 22 [] (.id 8) xk xw [.mm 5 0 10]] [(6,pM (.sz (.ext (.s 22) 0) 5) 5),pV 7<|.ext (.s 22) 1],pQ [.ao ⟨[.lt 23 []<|pn (.s 7)<|pI 0,.lt 24 []<|.ite (.s 23) pT<|pl (.m 6 4)<|.m 6 0,.lt 25 []<|.ite (.s 24) pT<|pj (.m 6 4)<|pa (.m 6 0)<|.m 6 1],[([(23,xw)],pl (.m 6 4)<|.m 6 0),([(24,xw)],pj (.m 6 4)<|pa (.m 6 0)<|.m 6 1),([(25,xw)],.eu xk (pe (.m 6 4)<|pI 0)<|.un .not<|.m 5 3)],[pV 8<|.ite (.s 25) pT<|.eu xk (pe (.m 6 4)<|pI 0)<|.un .not<|.m 5 3]⟩]<|pw (.s 8)<|px [pV 3 pF],pC [pK 26 9 [.mm 5 0 10,.m 6 4]] [(9,pM (.sz (.ext (.s 26) 0) 10) 10),pV 10<|.ext (.s 26) 1],pC [pK 27 10 [.s 1,pI 40]] [pV 11<|.s 27],pC [pK 28 9 [.mm 5 0 10,.s 11]] [(12,pM (.sz (.ext (.s 28) 0) 10) 10),pV 13<|.ext (.s 28) 1],pC [.call 29 [] (.id 8) xk xw [.mm 12 0 10]] [(14,pM (.sz (.ext (.s 29) 0) 5) 5),pV 15<|.ext (.s 29) 1],pQ [.ao ⟨[.lt 30 []<|pn (.s 10)<|pI 0,.lt 31 []<|.ite (.s 30) pT<|.m 9 3,.lt 32 []<|.ite (.s 31) pT<|pn (.s 13)<|pI 0,.lt 33 []<|.ite (.s 32) pT<|pn (.s 15)<|pI 0,.lt 34 []<|.ite (.s 33) pT<|pn (.m 14 4)<|.mx (pb (.m 6 4)<|.s 11)<|pI 0],[([(30,xw)],.m 9 3),([(31,xw)],pn (.s 13)<|pI 0),([(32,xw)],pn (.s 15)<|pI 0),([(33,xw)],pn (.m 14 4)<|.mx (pb (.m 6 4)<|.s 11)<|pI 0),([(34,xw)],pn (.m 14 3)<|.m 6 3)],[pV 16<|.ite (.s 34) pT<|pn (.m 14 3)<|.m 6 3]⟩]<|pw (.s 16)<|px [pV 3 pF],pi 17 (pe (.m 6 4)<|pI 0)<|px [pV 3<|.s 4],pC [pK 35 9 [.mm 5 0 10,pb (.m 6 4)<|pI 1]] [(18,pM (.sz (.ext (.s 35) 0) 10) 10),pV 19<|.ext (.s 35) 1],.ao ⟨[.lt 36 []<|.s 4,.lt 37 []<|.ite (.s 36) (pe (.s 19)<|pI 0) pF],[([(36,xk)],pe (.s 19)<|pI 0),([(37,xk)],.m 18 3)],[pV 3<|.ite (.s 37) (.m 18 3) pF]⟩] .ret,[(3,.v)]⟩
def c3:Wx (Ya Try.prog) fresh sig [.fz,.fz] [] Try.f3=J p3:=Z2
def p4:Fn:=⟨16,[0,1,2,4,5,6,7,8,9,10,11,12,13,14,15,16],pQ [pR [(2,pS 0 7),pV 3 pF],pC [pK 16 6 []] [pV 4<|.s 16],pC [pK 17 7 [.mm 2 0 7]] [(5,pS 17 10)],pC [.call 18 [] (.id 8) xk xw [.mm 5 0 10]] [(6,pM (.sz (.ext (.s 18) 0) 5) 5),pV 7<|.ext (.s 18) 1],pC [pK 19 10 [.s 1,pI 40],pK 20 9 [.mm 5 0 10,.s 19]] [(8,pM (.sz (.ext (.s 20) 0) 10) 10),pV 9<|.ext (.s 20) 1],pC [.call 21 [] (.id 8) xk xw [.mm 8 0 10]] [(10,pM (.sz (.ext (.s 21) 0) 5) 5),pV 11<|.ext (.s 21) 1],pC [pK 22 11 [.mm 5 0 10]] [(12,pM (.sz (.ext (.s 22) 0) 10) 10),pV 13<|.ext (.s 22) 1],pC [.call 23 [] (.id 8) xk xw [.mm 12 0 10]] [(14,pM (.sz (.ext (.s 23) 0) 5) 5),pV 15<|.ext (.s 23) 1],.ao ⟨[.lt 24 []<|.s 4,.lt 25 []<|.ite (.s 24) (pe (.s 7)<|pI 0) pF,.lt 26 []<|.ite (.s 25) (pe (.s 9)<|pI 0) pF,.lt 27 []<|.ite (.s 26) (pe (.s 11)<|pI 0) pF,.lt 28 []<|.ite (.s 27) (pe (.s 13)<|pI 0) pF,.lt 29 []<|.ite (.s 28) (pe (.s 15)<|pI 0) pF,.lt 30 []<|.ite (.s 29) (pg (.m 6 2)<|pI 0) pF,.lt 31 []<|.ite (.s 30) (pL (pa (.m 6 3)<|.m 6 2)<|.m 5 1) pF,.lt 32 []<|.ite (.s 31) (pg (.m 10 2)<|.m 6 2) pF,.lt 33 []<|.ite (.s 32) (pg (.m 14 2)<|.m 10 2) pF,.lt 34 []<|.ite (.s 33) (pe (.m 14 2)<|pb (pb (.m 5 1)<|.len<|.m 12 5)<|.len<|.m 12 6) pF,.lt 35 []<|.ite (.s 34) (pe (.m 14 1)<|pI 0) pF,.lt 36 []<|.ite (.s 35) (pe (.m 14 0)<|pI 0) pF,.lt 37 [(36,xk)]<|pe (.m 10 2)<|.m 6 2],[([(24,xk)],pe (.s 7)<|pI 0),([(25,xk)],pe (.s 9)<|pI 0),([(26,xk)],pe (.s 11)<|pI 0),([(27,xk)],pe (.s 13)<|pI 0),([(28,xk)],pe (.s 15)<|pI 0),([(29,xk)],pg (.m 6 2)<|pI 0),([(30,xk)],pL (pa (.m 6 3)<|.m 6 2)<|.m 5 1),([(31,xk)],pg (.m 10 2)<|.m 6 2),([(32,xk)],pg (.m 14 2)<|.m 10 2),([(33,xk)],pe (.m 14 2)<|pb (pb (.m 5 1)<|.len<|.m 12 5)<|.len<|.m 12 6),([(34,xk)],pe (.m 14 1)<|pI 0),([(35,xk)],pe (.m 14 0)<|pI 0),([(36,xk),(37,xw)],.un .not<|.m 8 3),([(36,xk)],.ite (.s 37) pT<|.un .not<|.m 8 3)],[pV 3<|.ite (.s 36) (.ite (.s 37) pT<|.un .not<|.m 8 3) pF]⟩] .ret,[(3,.v)]⟩
def c4:Wx (Ya Try.prog) fresh sig [.fz,.fz] [] Try.f4=J p4:=Z2
def p5:Fn:=⟨14,[0,1,2,3,6,7,8,9,10,11,13,12,14,15],pQ [pR [(3,pS 0 7),pV 4 pF],pC [pK 14 6 []] [pV 5<|.s 14],pC [pK 15 7 [.mm 3 0 7]] [(6,pS 15 10)],pC [.call 16 [] (.id 8) xk xw [.mm 6 0 10]] [(7,pM (.sz (.ext (.s 16) 0) 5) 5),pV 8<|.ext (.s 16) 1],pC [pK 17 10 [.s 1,pI 60]] [(9,pM (.ag [.one<|.s 17,pI 0]) 2)],pC [pK 18 10 [.s 2,pa (.m 9 0)<|pI 1]] [(9,.m [.m 9 0,.one<|.s 18])],pC [pK 19 12 [.mm 6 0 10,.mm 9 0 2]] [(10,pM (.sz (.ext (.s 19) 1) 10) 10),pV 11<|.ext (.s 19) 0,pV 12<|.ext (.s 19) 2],pC [pK 20 13 [.mm 6 0 10,.mm 9 0 2]] [pV 13<|.s 20],.ao ⟨[.lt 21 []<|.s 5,.lt 22 []<|.ite (.s 21) (pe (.s 8)<|pI 0) pF,.lt 23 []<|.ite (.s 22) (.eu xw (.s 13)<|pe (.s 12)<|pI 0) pF,.lt 24 [(23,xk)]<|pl (.m 7 2)<|pa (pI 1)<|.m 9 0,.lt 25 []<|.ite (.s 23) (.ite (.s 24) pT<|.s 13) pF,.lt 26 [(25,xk)]<|pL (pa (pI 1)<|.m 9 0)<|.m 6 1,.lt 27 []<|.ite (.s 25) (.ite (.s 26) pT<|.un .not<|.s 13) pF,.call 28 [(27,xk)] (.id 13) xw xw [.mm 6 0 10,.ag [.m 9 0,pI 0]],.lt 29 []<|.ite (.s 27) (.eu xw (.s 13)<|.s 28) pF,.lt 30 [(29,xk)]<|pL (pa (pa (.m 7 3)<|pI 1)<|.m 9 0)<|.m 6 1],[([(21,xk)],pe (.s 8)<|pI 0),([(22,xk)],.eu xw (.s 13)<|pe (.s 12)<|pI 0),([(23,xk)],.ite (.s 24) pT<|.s 13),([(25,xk),(26,xw)],.un .not<|.s 13),([(25,xk)],.ite (.s 26) pT<|.un .not<|.s 13),([(27,xk)],.eu xw (.s 13)<|.s 28),([(29,xk),(30,xw)],.un .not<|.s 13),([(29,xk)],.ite (.s 30) pT<|.un .not<|.s 13)],[pV 4<|.ite (.s 29) (.ite (.s 30) pT<|.un .not<|.s 13) pF]⟩] .ret,[(4,.v)]⟩
def c5:Wx (Ya Try.prog) fresh sig [.fz,.fz,.fz] [] Try.f5=J p5:=Z2
def p6:Fn:=⟨6,[0,1,2,3,4,5],pQ [pR [pV 0 pF],.ao ⟨[],[([],.ag [pU 10,pI 5,pI 1,pT,pI 0,.lit [pU 2,pU 6],pN,.lit [pU 31,pU 0],pN,.lit [pU 31]])],[(1,.m [pU 10,pI 5,pI 1,pT,pI 0,.lit [pU 2,pU 6],pN,.lit [pU 31,pU 0],pN,.lit [pU 31]])]⟩,pC [.call 6 [] (.id 8) xk xw [.mm 1 0 10]] [(2,pM (.sz (.ext (.s 6) 0) 5) 5),pV 3<|.ext (.s 6) 1],pC [.call 7 [] (.id 8) xk xw [pY]] [(4,pM (.sz (.ext (.s 7) 0) 5) 5),pV 5<|.ext (.s 7) 1],.ao ⟨[.lt 8 []<|pe (.s 3)<|pI 0,.lt 9 []<|.ite (.s 8) (.ite (pe (.ae (.sz (.bn<|.mm 2 0 5) 5) 0)<|.ae (.sz (.bn<|.ag [pI 2,pI 0,pI 3,pI 2,pI 2]) 5) 0) (.ite (pe (.ae (.sz (.bn<|.mm 2 0 5) 5) 1)<|.ae (.sz (.bn<|.ag [pI 2,pI 0,pI 3,pI 2,pI 2]) 5) 1) (.ite (pe (.ae (.sz (.bn<|.mm 2 0 5) 5) 2)<|.ae (.sz (.bn<|.ag [pI 2,pI 0,pI 3,pI 2,pI 2]) 5) 2) (.ite (pe (.ae (.sz (.bn<|.mm 2 0 5) 5) 3)<|.ae (.sz (.bn<|.ag [pI 2,pI 0,pI 3,pI 2,pI 2]) 5) 3) (.ite (pe (.ae (.sz (.bn<|.mm 2 0 5) 5) 4)<|.ae (.sz (.bn<|.ag [pI 2,pI 0,pI 3,pI 2,pI 2]) 5) 4) pT pF) pF) pF) pF) pF) pF,.lt 10 []<|.ite (.s 9) (pe (.s 5)<|pI 1) pF,.call 11 [(10,xk)] (.id 13) xw xk [.mm 1 0 10,.ag [pI 2,pI 0]],.lt 12 []<|.ite (.s 10) (.s 11) pF,.call 13 [(12,xk)] (.id 13) xw xk [.mm 1 0 10,.ag [pI 3,pI 0]],.lt 14 []<|.ite (.s 12) (.un .not<|.s 13) pF,.call 15 [(14,xk)] (.id 13) xw xw [pY,.ag [pI 0,pI 0]]],[([(8,xk)],.ite (pe (.ae (.sz (.bn<|.mm 2 0 5) 5) 0)<|.ae (.sz (.bn<|.ag [pI 2,pI 0,pI 3,pI 2,pI 2]) 5) 0) (.ite (pe (.ae (.sz (.bn<|.mm 2 0 5) 5) 1)<|.ae (.sz (.bn<|.ag [pI 2,pI 0,pI 3,pI 2,pI 2]) 5) 1) (.ite (pe (.ae (.sz (.bn<|.mm 2 0 5) 5) 2)<|.ae (.sz (.bn<|.ag [pI 2,pI 0,pI 3,pI 2,pI 2]) 5) 2) (.ite (pe (.ae (.sz (.bn<|.mm 2 0 5) 5) 3)<|.ae (.sz (.bn<|.ag [pI 2,pI 0,pI 3,pI 2,pI 2]) 5) 3) (.ite (pe (.ae (.sz (.bn<|.mm 2 0 5) 5) 4)<|.ae (.sz (.bn<|.ag [pI 2,pI 0,pI 3,pI 2,pI 2]) 5) 4) pT pF) pF) pF) pF) pF),([(9,xk)],pe (.s 5)<|pI 1),([(12,xk)],.un .not<|.s 13),([(14,xk)],.un .not<|.s 15)],[pV 0<|.ite (.s 14) (.un .not<|.s 15) pF]⟩] .ret,[(0,.v)]⟩
def c6:Wx (Ya Try.prog) fresh sig [] [] Try.f6=J p6:=Z2
def p8:Fn:=⟨9,[0,1,2,3,9,4,5,17,6],pQ [pR [(1,pS 0 10),(2,.m [pI 0,pI 0,pI 0,pI 0,pI 0]),pV 3<|pI 0],pQ [pC [pK 9 17 [.mm 1 0 10]] [pV 4<|.un .not<|.s 9]]<|pw (.s 4)<|px [(2,pM (.ag [pI 0,pI 0,pI 0,pI 0,pI 0]) 5),pV 3<|pI 1],pC [pK 10 11 [.mm 1 0 10]] [(5,pM (.sz (.ext (.s 10) 0) 10) 10),pV 6<|.ext (.s 10) 1],pi 7 (pn (.s 6)<|pI 0)<|px [(2,pM (.ag [pI 0,pI 0,pI 0,pI 0,pI 0]) 5),pV 3<|.s 6],pC [pK 11 18 [.mm 1 0 10]] [pV 8<|.s 11],pC [pK 12 19 [.lit [.len<|.m 1 5,.len<|.m 1 6,.one<|.s 8]],pK 13 20 [.mm 1 0 10]] [(2,pM (.ag [pb (.len<|.m 1 5)<|.m 1 4,.one<|.s 8,pb (.m 1 1)<|.s 12,.one<|.s 13,pb (.m 5 4)<|.m 1 4]) 5),pV 3<|pI 0]] .ret,[(2,(.ag 5)),(3,.v)]⟩
def c8:Wx (Ya Try.prog) fresh sig [.fz] [] Try.f8=J p8:=Z2
def Z7G{c n:Int}(hc:Yq c)(f:0<n):VC xP 10 xw [vi c,vi n]<|vi<|pick c n:=by
 refine ZQ Z1b follows Z2 FT rfl ?_;obtain⟨a,d⟩:=hc;by_cases h:c<0;simp[Cg,h];simp(disch:=omega) only[Zy];refine⟨Z0,?_⟩;unfold pick;rw[Zhc h,Zi5 Z0];simp[Cg,h];refine⟨Z0,?_⟩;unfold pick;rw[Zh9 h,Zi5 Z0]
def Z15{h:Hp}(g:h.ok)(j:Yw h=xw){n pt wd:Int}(a:Xt n pt=(wd,0)):VC xP 12 xw [ZD h,WY n pt]<|.am [vu 0,ZD Hp.zero,vi 1]:=
 t5 Z2 (y:=WY n pt) rfl (r:=(0,Hp.zero,1)) (Q:=False) λw G d f k=>Z17 w G f h g d k n pt (.inr ⟨by rw[a],j⟩) _
def En{h g:Hp}{n m x e:Int}(k:VC xP 12 xw [ZD h,WY n m]<|.am [vu x,ZD g,vi e]):VC xP 13 xw [ZD h,WY n m]<|.bool<|decide (e=0):=by
 refine ZQ Z1d follows Z2 c13 rfl ?_;simp only[ZD,WY]at k⊢;simp[MP];refine Zz k Z1 ?_;simp
def ZaF{a b c:Int}(y:0<=a/\a<=100000)(r:0<=b/\b<=100000)(hc:0<=c/\c<=100000):VC xP 19 xw [.sl [vi a,vi b,vi c]]<|vi<|a+b+c:=by
 refine ZQ Z1i follows Z2 c19 rfl ?_;obtain⟨l,d⟩:∃l,l=[a,b,c]:=⟨_,rfl⟩;rw[show [vi a,vi b,vi c]=l.map vi by rw[d];rfl];have o:l[0]?=J a:=by rw[d];rfl
 have p:l[1]?=J b:=by rw[d];rfl
 have q:l[2]?=J c:=by rw[d];rfl
 have h:I l=3:=by rw[d];rfl
 obtain⟨F,k,w,x,n⟩:∃F:Nat->Int,F 0=0/\F 1=a/\F 2=a+b/\F 3=a+b+c:=⟨λi=>if i=0 then 0 else if i=1 then a else if i=2 then a+b else a+b+c,rfl,rfl,rfl,rfl⟩;simp[MW,h];refine VL 3 3 (λi=>[(2,.v<|vi<|F i),(3,.v<|vi i)]) (λ_=>True) (by simp[k]) Z1 trivial ?_;intro i z _;by_cases g:i<3;obtain⟨u,j,t,r⟩:∃u,l[i]?=J u/\F i+u=F (i+1)/\0<=F i+u/\F i+u<=300000:=by
  rcases(Z0:i=0\/i=1\/i=2)with rfl|rfl|rfl;exact⟨a,o,by show F 0+a=F 1;omega,Z0⟩;exact⟨b,p,by show F 1+b=F 2;omega,Z0⟩;exact⟨c,q,by show F 2+c=F 3;omega,Z0⟩
 have w1:=Zy (F<|i+1) Z0 Z0;have w2:=Zy ((i:Int)+1) Z0 Z0;have f:(i:Int)<3:=Z0;simp[h,g,f,j,Yl j,w1,w2,t];have:i=3:=Z0;subst this;simp[h,n]
def C0(n m:Int):NoM<|WY n m:=.agg _ λc a=>by
 simp only[Zho,Ziy,Zk0]at a;obtain rfl|rfl:=a<;>exact .int _ _
def Z6J(u:Int)(g:Hp)(e:Int):NoM<|.am [vu u,ZD g,vi e]:=.am _ λc a=>by
 simp only[Zho,Ziy,Zk0]at a;obtain rfl|rfl|rfl:=a;exact .int _ _;exact UG _;exact .int _ _
def EB{h:Hp}{p:Pts}(j:h.ok)(r:Rt h p){n:Nat}{m:Int}(d:YC n m=xk):∃q,Rt (XE h p n) q/\(∃(w:Int) (g:Hp),VC (Ya Try.prog) 12 xw [ZD h,WY n m]<|.am [vu w,ZD g,vi (if Xo (XE h p n) q (n+1:Nat)then 0 else 7)])/\VC (Ya Try.prog) 13 xw [ZD h,WY n m] (.bool<|Xo (XE h p n) q (n+1:Nat)):=by
 have a:Xt n m=(2*((n:Int)+65536*m),0):=by unfold Xt;rw[Zhc d]
 obtain⟨q,l,_,k⟩:=Z19 j r (n:=n) (by have:=YD.1 d;omega) a;have e:(QD h p q n<|2*((n:Int)+65536*m)).2.2=if Xo (XE h p n) q (n+1:Nat)then 0 else 7:=by unfold QD;split<;>rfl
 have f:=En k;rw[e]at k f;refine⟨q,l,⟨_,_,up k (La (UG h)<|C0 _ _)<|Z6J _ _ _⟩,?_⟩;have:=up f (La (UG h)<|C0 _ _)<|.bool _;rwa[show decide ((if Xo (XE h p n) q (n+1:Nat)=xk then(0:Int)else 7)=0)=Xo (XE h p n) q (n+1:Nat)by split<;>simp_all]at this
def Ss(a b c d e:Int):V:=.agg [vi a,vi b,vi c,vi d,vi e]
def PZ{P:Z6} [Lg P]{f:Zp}{xs:Zr}{r:V}(h:VC P f xw xs r)(l:∀ {w:Z3} {G a:Z4} {v:Ze},Rd w G r v->Rd w a r v):VC P f xk xs r:=
 ⟨h.1,λw G vs d n o=>Lg.dx (h.2 w G vs d n o) λ_ _ ⟨v,j,g,k⟩=>⟨v,j,g,l k⟩⟩
def Om{w:Z3}{G G':Z4}{v:Ze}{a b c d e k:Int}(h:Rd w G (.am [Ss a b c d e,vi k]) v):Rd w G' (.am [Ss a b c d e,vi k]) v:=by
 cases h with
 |am _ vs g j=>
  refine .am _ _ g λi y f=> ?_
  match i,f with
  |0,f=>cases f;exact(j 0 _ rfl).gn (λy f=>by simp[Ss,V.cells]at f;obtain rfl|rfl|rfl|rfl|rfl:=f<;>rfl) λl g=>by cases g
  |1,f=>cases f;exact(j 1 _ rfl).gn (λy f=>by simp[V.cells]at f;subst f;rfl) λl g=>by cases g
instance fitOfM:FitF (Ya Try.prog) 8:=Jk (P:=Try.prog) Try.func8 rfl Z2
def jP(n:SX){h:Hp}{p:Pts}(d:h.ok)(r:Rt h p):VC (Ya Try.prog) 8 xk [ZD h]<|.am [Ss ((I h.H:Int) -h.Z) (YF p) (h.cap-DV h p) (words<|Xb<|vg h)<|(ZM h 9223372036854775807).Z-h.Z,vi 0]:=by
 refine PZ ?_ Om;refine ZQ (P:=Ya Try.prog) Try.func8 Jm Z2 c8 rfl ?_;have k1:=Z0x d r;have k:=Z0H n d r;have f:=Z0z d;rw[r.nf]at f;have u:=r.room;have t:=r.ms;have l:=up (ZaF (a:=I h.H) (b:=I h.ab) (c:=YF p) Z0 Z0 Z0) (Qw<|Md [_,_,_])<|.int _ _;have j:=Z0V d;rw[r.oo]at j;obtain⟨q,s⟩:=r.cp 9223372036854775807;have o:=SK d r 9223372036854775807;have:=o.H;have:=s.rt.du;have:=s.rt.fe;have:=r.du;have:=r.fe;unfold DV;generalize ZM h 9223372036854775807=g at*;have w1:=Zy ((I h.H:Int) -h.Z) Z0 Z0;have w2:=Zy (h.cap- ((I h.H:Int)+I h.ab+YF p)) Z0 Z0;have w3:=Zy (g.Z-h.Z) Z0 Z0;simp only[ZD]at k1 k f l j⊢;simp[p8];refine Zz k1 Z1 ?_;simp;refine Zz k Z1 ?_;simp;refine Zz f Z1 ?_;simp;refine Zz l Z1 ?_;simp;refine Zz j Z1 ?_;simp[w1,w2,w3,Ss]
def Z0X{h:Hp}(a:h.ok)(d:Yw h=xw):VC (Ya Try.prog) 8 xk [ZD h]<|.am [Ss 0 0 0 0 0,vi 1]:=by
 refine PZ ?_ Om;refine ZQ (P:=Ya Try.prog) Try.func8 Jm Z2 c8 rfl ?_;have k1:=up (QV a) (Qw<|UG h)<|.bool _;rw[d]at k1;simp only[ZD]at k1⊢;simp[p8];refine Zz k1 Z1 ?_;simp[Ss]
def Z7F{c n:Int}(hc:Yq c)(a:0<n):VC (Ya Try.prog) 10 xw [vi c,vi n]<|vi<|pick c n:=up (Z7G hc a) (La (.int _ _)<|.int _ _)<|.int _ _
instance fitAwake17:FitF (Ya Try.prog) 6:=Jk (P:=Try.prog) Try.func6 rfl Z2
def Z2v(w:SX):VC (Ya Try.prog) 6 xw []<|.bool xk:=by
 refine ZQ (P:=Ya Try.prog) Try.func6 Jm Z2 c6 rfl ?_;obtain⟨p,r⟩:=JV.1 (Zg2:Yw TB=xk);have o:Yw Hp.zero=xw:=Zg2;have k1:=jP w Az r;have q:ZM TB 9223372036854775807=Je:=by
  rw[show(9223372036854775807:Nat)=2+9223372036854775805 from rfl,TX,show ZM TB 2=Je by decide+kernel,TY rfl]
 have t:(YF p:Int)=0:=by rw[<-r.nf];decide+kernel
 have u:words (Xb<|vg TB)=2:=Zg2;have h:∀n:Nat,2<=n->XE TB p n=Je:=λn x=>by
  unfold XE;rw[Zh9 (by simp[TB]),show n+1=2+(n-1)by omega,TX,show ZM TB 2=Je by decide+kernel,TY rfl]
 have j:RM Je=0:=Zg2;obtain⟨y,k,_,a⟩:=EB Az r (n:=2) (m:=0) Zgg;obtain⟨z,l,_,d⟩:=EB Az r (n:=3) (m:=0) Zgg;rw[h 2 Z0]at k a;rw[h 3 Z0]at l d;rw[OI k,j]at a;rw[OI l,j]at d;have f:=Z0X Z0p o;have g:=up (En<|Z15 Z0p o (n:=0) (pt:=0) (wd:=0) Zgg) (La (UG _)<|C0 _ _)<|.bool _;rw[q,u]at k1;unfold DV at k1;rw[t]at k1;simp only[ZD,WY,Ss,TB,Je,Hp.zero,ZhA,Zis]at k1 a d f g;simp at k1 a d f g;simp[p6];refine Zz k1 Z1 ?_;simp;refine Zz f Z1 ?_;simp;refine Zz a (λ_=>rfl) ?_;simp;refine Zz d (λ_=>rfl) ?_;simp;refine Zz g Z1 ?_;simp
instance fitM17:FitF (Ya Try.prog) 5:=Jk (P:=Try.prog) Try.func5 rfl Z2
instance fitM17e:FitF (Ya Try.prog) 4:=Jk (P:=Try.prog) Try.func4 rfl Z2
instance fitM17l:FitF (Ya Try.prog) 3:=Jk (P:=Try.prog) Try.func3 rfl Z2
def Z5G(g:SX){x:Rw}(hx:x.ok){n:Int}(y:Yq n):VC (Ya Try.prog) 3 xw [Wq x,vi n]<|.bool xk:=by
 refine ZQ (P:=Ya Try.prog) Try.func3 Jm Z2 c3 rfl ?_;simp[p3];refine Zz (Z2v g) Z1 ?_;simp;have F:=Z0S hx;unfold Wq at F;refine Zz F Z1 ?_;obtain⟨f,z,S⟩:=Z4e hx;obtain⟨p,r⟩:=JV.1<|Z4f hx;generalize T9 x=h at*;have k1:=jP g f r
 have d:(ZM h 9223372036854775807).Y=xw:=r.ub (by
  have:=Zb5<|Z7C f r.fb;have:=f.H;have:=r.fe;omega)
 obtain⟨L,hL,j,T⟩:=r.left d;obtain⟨t,u⟩:=r.cp 9223372036854775807;have u1:=(u.rt.rest d).1;have u2:=u.pd;have u3:=u.len;have u4:=r.room;have u5:=r.ms;have u6:=r.fe;have u7:=r.du;have o:=Th (c:=n) (n:=40) Z0;have A:=Z7F y (n:=40) Z0;obtain⟨a,Q⟩:=Zhf o.1;rw[Q]at o A;have B:=jR g f r (k:=L) Z0;have C:=jR g f r (k:=a) Z0;obtain⟨q,s⟩:=r.cp a;have Z:=SK f r a;have w:=jP g Z s.rt;have G:ZM (ZM h a) 9223372036854775807=ZM h 9223372036854775807:=by
  rw[<-TX,Zjz,TX,TY d]
 rw[G,Dm r a]at w;have H:(ZM h 9223372036854775807).Z- (ZM h a).Z=max ((L:Int) -a) 0:=by
  by_cases X:a<=L;have:=T a X;omega;rw[Dl ((j a).2 Z0) d];omega
 have K:(ZM h 9223372036854775807).Z-h.Z=L:=Z0;rw[H]at w;rw[K]at k1;have M:=(j L).2<|Zh3 _;have N:(L=0)=(h.Y=xw):=propext ⟨λe=>(j 0).2 Z0,λe=>by have:=(j 0).1 e;omega⟩
 have D:∀l:Nat,L=l+1->VC (Ya Try.prog) 9 xw [ZD h,vi l] (.am [ZD<|ZM h l,vi 0])/\(ZM h l).Y=xk:=λl e=>⟨jR g f r Z0,by
  cases R:(ZM h l).Y;have:=(j l).1 R;omega;rfl⟩
 have w1:=Zy (((I h.H:Int) -h.Z)+YF p) Z0 Z0;have w2:=Zy ((L:Int) -a) Z0 Z0;have d1:¬(L:Int)< (I h.H:Int) -h.Z:=Z0;have d2:¬(I h.H:Int) -h.Z+YF p<L:=Z0;generalize words (Xb<|vg h)=W at*;simp only[ZD,Ss]at k1 B C w D;simp;refine Zz k1 Z1 ?_;simp[w1,d1,d2,N];refine Zz B Z1 ?_;simp;refine Zz A Z1 ?_;simp;refine Zz C Z1 ?_;simp;refine Zz w Z1 ?_;simp[M,w2];refine⟨by split<;>omega,λy=> ?_⟩;obtain⟨l,z⟩:=Nat.exists_eq_succ_of_ne_zero y;obtain⟨Y,O⟩:=D l z;have w3:=Zy ((L:Int) -1) Z0 Z0;rw[w3,show(L:Int) -1=l by omega];refine Zz Y Z1 ?_;simp[O]
end Vm
end
section
namespace Go.Proofs.Ytaepoabdapgbdaa
open Vm Go.ChangeShapes Go.WideShapes Go.ChangeAt Go.RowKit
def measureLeft_law(xs:List V)(d:I xs=Try.f3.params.toList.length)(a:∀(i:Nat) (t:TypeId) (x:V),Try.f3.params.toList[i]?=J t->xs[i]?=J x->Xj Try.prog 8 t x):
  VC (Ya Try.prog) 3 xw xs (.bool xk):=by
 rw[Try.params3]at d a
 match xs,d with
 | [h,j],_=>
   obtain⟨x,rfl,g⟩:=ZaS<|a 0 _ h rfl rfl;obtain⟨k,rfl,f⟩:=ze<|a 1 _ j rfl rfl;exact Z5G P4 g f
def measureLeft_lifted(j:Os)(a:j.Started)(H:Type)(enc:TypeId×Value->H):
  ReturnsInLeavingWide {} Try.checked j 3 .any (Rows.measureLeftSpec.pre6 enc Try.prog Try.f3 Rows.measureLeftRow.domain xw) (Rows.measureLeftSpec.post enc Try.prog Try.f3 xw xk xw xw):=by
 refine returnsInLeavingWide_of_change_sized (C:=Try.checked) own a Try.func3
  (ChangeSpec.witness6 (enc:=enc) (C:=Try.checked) xw ⟨#[], #[.agg #[.slice U 0 0,.slice U 0 0,.slice U 0 0,.int .u64 0,.int .i64 0,.int .i64 0,.int .i64 0],.int .i64 0],[]⟩ 8 Z2 Z2 Z2 Z2) ?_
 intro W base args g gs d f k _ _ _
 exact Z48 (P:=Try.prog) Z2 (Z5H (P:=Ya Try.prog) (tb:=4) 8 laidOut Z2 Z2 rfl Z2 Try.underlying4 (λH g h=>by
  rw[Try.params3]at h
  match g,h with
  | [_,_],_=>rfl) measureLeft_law H enc W base args g gs d f k)
theorem measureLeft_holds:Rows.MeasureLeftSaid:=
 OpenClaim.holds_of_wide_leaving 3 Try.f3 rfl rfl rfl rfl rfl rfl rfl ⟨rfl,rfl,rfl,rfl,rfl⟩ rfl rfl rfl rfl rfl Z2 Try.func3 Z2
  (ZjF Z2) (by unfold Func.isWrapper;first|(rw[Zhc Zg2];kernel_rfl)|(rw[Zh9 Zg2];exact⟨rfl,rfl⟩))
  (λf a H d _=>measureLeft_lifted f a H d)
#print axioms measureLeft_holds
end Go.Proofs.Ytaepoabdapgbdaa
end
