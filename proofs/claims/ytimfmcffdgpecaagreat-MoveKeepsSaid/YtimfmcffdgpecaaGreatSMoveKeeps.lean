/-
  The law MoveKeeps holds of the given program, for every input.
-/
import Derived.Test.YtimfmcffdgpecaaGreatRows
import Derived.Conc.LeavingOf
import Derived.Test.YtimfmcffdgpecaaGreatSMoveKeeps6
set_option linter.unusedSimpArgs false
set_option linter.unusedVariables false
set_option linter.defProp false
open Option renaming some→J,none→U
open Bool renaming true→xk,false→xw
open Go renaming undef→xy
open List renaming length→I
open Array renaming size→xz
open Go.World renaming heap→xj
open List renaming length→xq
open Array renaming size→xz
open Go.World renaming heap→xj
set_option maxHeartbeats 40000000
set_option maxRecDepth 100000
def ZkV:=@Go.RowKit.Below.trans
def ZkE:=@List.setIfInBounds_toArray
section
namespace Vm
open Go Go.Proofs
section
section
variable {h g:Hp}{p q:Pts}
theorem MvOk.of{h':Hp}{b w:Int}(ok:MvOk h b w)(e:h'.cap=h.cap):MvOk h' b w:=⟨ok.b0,ok.w0,ok.w1,by rw[e];exact ok.cap,ok.bo⟩
def Mvd.rt(m:Mvd h p g)(r:Rt h p)(ok:MvOk h g.base g.cap)(a:0<=g.base):Rt g<|VA (Zv h) (Zv {h with base:=g.base,cap:=g.cap}) p:=by
 have:=r.mv ok a;rw[<-m.eq]at this;exact this
def Ik{f t:Ly}{l:Zi}{i:Int}:XY (l.map<|YZ f t) i=XY l i:=by
 unfold XY;rw[List.any_map];congr 1;funext o;obtain⟨a,_,d,_⟩:=WP (f:=f) (t:=t) o;simp only[Function.comp,a,d]
def Mvd.ku(m:Mvd h p g)(c:Bool):Mvd {h with aa:=c} p {g with aa:=c}:=⟨m.ht,m.ij,⟨m.num.1,rfl,m.num.2.2⟩,m.ptr,m.ie,m.E⟩
def Mvd.vk(m:Mvd h p g)(s:Int):Mvd {h with Z:=s} p {g with Z:=s}:=⟨m.ht,m.ij,⟨m.num.1,m.num.2.1,rfl⟩,m.ptr,m.ie,m.E⟩
def Z4e{w:Int}(d:Gos h p w 1 2)(f:∀k,1<=k/\k<=2->∀o∈p.at k,0<=o.Y/\o.Y< I (Zx h k)):VH (Zv {h with aa:=xw,ah:=[],aj:=[]}) w:=by
 obtain rfl|⟨k,o,a,g,rfl⟩:=d;exact .inl rfl;have:=f k Z0 o g;obtain rfl|rfl:=a;exact .inr ⟨1,o.Y,Z0,this,rfl⟩;exact .inr ⟨2,o.Y,Z0,this,rfl⟩
def Mvd.tg(m:Mvd h p g)(b:Body h p)(t:∀w∈h.E,Gos h p w 1 2)(R:Rt (Yy h) q):Mvd (Yy h) q (Yy g)/\(Yy g).base=g.base/\(Yy g).cap=g.cap:=by
 have d:=m.len (k:=1) Z0;simp only[WD]at d;have j:=m.num.2.2;unfold Yy at R⊢;by_cases e:h.Z=I h.H;rw[Zhi e]at R⊢;rw[Zhi (by rw[j,e,d])];have f:=b.stop e;have:=f.et R.toBody;subst this;refine⟨(m.ku xw).uc b.be f rfl rfl λw u=>Z4e (h:=h) (t w u) λk z o r=> ?_,rfl,rfl⟩;obtain⟨a,n,mm,x,y,em,l,_⟩:=b.toTld.ob Z0 r;exact⟨Z0,Z0⟩;rw[Zhg e]at R⊢;rw[Zhg (by rw[j,d];exact e)];have:=b.et R.toBody;subst this;exact⟨m,rfl,rfl⟩
def Mvd.fe(m:Mvd h p g)(r:Rt h p)(hc:h.aa=xk)(ok:MvOk h g.base g.cap)(hb:0<=g.base):∃q,Rt (scan1 h) q/\Mvd (scan1 h) q (scan1 g)/\(scan1 g).base=g.base/\(scan1 g).cap=g.cap:=by
 obtain⟨h1,q,S⟩:=r.Z hc;have:=S.eq;subst this;refine⟨q,S.rt,?_⟩;have R:=S.rt;have Q:=m.rt r ok hb;have w1:=r.km;have w2:=Q.km;obtain⟨i,l⟩:=Zhp r.ft;have L:i<I h.H:=by have:=r.ku hc;omega
 have t:g.Z=i:=m.num.2.2.trans l;obtain⟨u,T⟩:∃u,h.H[i]?=J u:=⟨_,Zh8 L⟩;have H:∀w∈h.E,VH (Zv h) w:=λw A=>KP r.toTld Z0 Z0<|r.E w A;by_cases j:XY p.H i=xk;have d:=Pk r l j T;obtain⟨v,f,s,F⟩:=r.toBody.iw r.fu d;obtain⟨G,e,M,Z,e2⟩:=m.fwd r.toBody r.fu ok.cap H d F;obtain⟨o,B,o1,o2⟩:=SY.1 j;have N:o.gone=xw:=(r.am 1 Z0).dk o B;obtain⟨a,n,mm,ea,en,em,a0,_⟩:=r.toTld.ob (k:=1) Z0 B;have X:Wh o i:=.inr ⟨N,Z0,Z0⟩;have K:=m.ptr 1 Z0 o B i X u T;have hs:f.Z=i:=F.ext.Z.trans l;obtain⟨ws,W⟩:=F.ext.H;obtain⟨rs,P⟩:=F.ext.ld;have y:i<I f.H:=by rw[W,ZhY];omega
 have z:o∈s.H:=by rw[P];exact Zij _ B
 have O:XY s.H i=xk:=SY.2 ⟨o,z,o1,o2⟩;have b:=F.body.ms hs y F.ww O;have C:Vm.scan1 h=Yy {f with H:=f.H.set i v,Z:=(i:Int)+1}:=by
  unfold Vm.scan1;rw[w1,l,Zhi j];simp only[Zhm,T,ZhE,F.fwd]
 have D:Vm.scan1 g=Yy {G with H:=G.H.set i<|mu f G v,Z:=(i:Int)+1}:=by
  unfold Vm.scan1;rw[w2,t,Zhi (by show XY (p.H.map _) i=xk;rw[Ik];exact j)];have x:g.H[i]?=J (mu h g u):=K;simp only[Zhm,x,ZhE,e]
 have Y:=(M.vl (k:=1) (i:=i) (v:=v) Z0<|.inl ⟨⟨o,z,X⟩,rfl⟩).vk<|(i:Int)+1;rw[C]at R⊢;rw[D]
 obtain⟨x1,x2,x3⟩:=Y.tg b (λw A=>by
  have hl:Zv {f with H:=f.H.set i v,Z:=(i:Int)+1}=Zv f:=by unfold Zv;simp
  exact(jV hl).2 (F.ext.ss Z0 Z0<|r.E w (by rw[<-F.ext.E];exact A))) R
 exact⟨x1,x2.trans Z,x3.trans e2⟩;have b:=r.toBody.tx l j;have C:Vm.scan1 h=Yy {h with Z:=(i:Int)+1}:=by
  unfold Vm.scan1;rw[w1,l,Zhg j]
 have D:Vm.scan1 g=Yy {g with Z:=(i:Int)+1}:=by
  unfold Vm.scan1;rw[w2,t,Zhg (by show ¬XY (p.H.map _) i=xk;rw[Ik];exact j)]
 rw[C]at R⊢;rw[D];exact(m.vk<|(i:Int)+1).tg b (λw A=>r.E w A) R
def Mvd.ni(ok:MvOk h g.base g.cap)(j:0<=g.base)(r:Rt h p)(m:Mvd h p g):∀k,∃q,Rt (scanK h k) q/\Mvd (scanK h k) q (scanK g k)/\(scanK g k).base=g.base/\(scanK g k).cap=g.cap
 |0=>⟨p,r,m,rfl,rfl⟩
 |k+1=>by
  obtain⟨q,R,M,d,f⟩:=m.ni ok j r k;obtain⟨x,S⟩:=r.ii k;have o:=S.num.2.1;rw[So,So,M.num.2.1];by_cases a:(Vm.scanK h k).aa=xk;rw[Zhi a,Zhi a];obtain⟨t,n,l,u,w⟩:=M.fe R a (by rw[d,f];exact ok.of o) (by rw[d];exact j);exact⟨t,n,l,u.trans d,w.trans f⟩;rw[Zhg a,Zhg a];exact⟨q,R,M,d,f⟩
end
end
section
section
variable {h g:Hp}{p q:Pts}
def zg(h g:Hp)(a:Int):Int:=(mu h g (2*a+1) -1) / 2
def Z6L(r:Rt h p)(m:Mvd h p g)(ok:MvOk h g.base g.cap)(hb:0<=g.base):Wf (vg g)=Wf (vg h):=by
 have s:=m.rt r ok hb;obtain⟨t,ht⟩:∃t,Zv {h with base:=g.base,cap:=g.cap}=t:=⟨_,rfl⟩;have hq:∀k,(VA (Zv h) (Zv {h with base:=g.base,cap:=g.cap}) p).at k=(p.at k).map (YZ (Zv h) t):=λk=>by rw[Lf,ht]
 have a6:t=Zv g:=ht.symm.trans m.be;clear ht;generalize VA (Zv h) (Zv {h with base:=g.base,cap:=g.cap}) p=q at*;have nat:∀(j:Nat) (x:Ob),j<4->x∈p.at ((j:Int)+1)->0<=x.Y/\x.Y< I (Zx h<|(j:Int)+1):=λj x l d=>by
  obtain⟨a,n,mm,ea,en,em,D,_⟩:=r.toTld.ob Z0 d;exact⟨Z0,Z0⟩
 have C:∀(j:Nat) (x:Ob),j<4->x∈p.at ((j:Int)+1)->zg h g (ZC (Zv h) ((j:Int)+1)+x.Y)=ZC (Zv g) ((j:Int)+1)+x.Y:=λj x l d=>by
  have:=m.rh r.be (k:=(j:Int)+1) Z0<|nat j x l d;unfold ZO at this;unfold zg;rw[this];omega
 have u:∀(k:Int) (x:Ob),x∈p.at k->YZ (Zv h) t x∈q.at k:=λk x d=>by rw[hq];exact Zil d
 have K:∀(j:Nat) (x:Ob),j<4->x∈p.at ((j:Int)+1)->x.gone=xw->Xq h j x∈(Yn h).ns:=λj x l d F=>R4.2 ⟨Ja r l d,F⟩;have Z:∀(k:Int) (x:Ob),1<=k/\k<=4->x∈p.at k->QK h g (zg h g) (ZO (Zv h) k x.Y) (ZO (Zv g) k x.Y):=by
  intro k x P d;obtain⟨j,rfl,l⟩:∃j:Nat,k=(j:Int)+1/\j<4:=⟨(k-1).toNat,Z0,Z0⟩;have na:=(nat j x l d).1;have G:=(WP (f:=Zv h) (t:=t) x).1;have e4:=(WP (f:=Zv h) (t:=t) x).2.2.2;refine .inr ⟨LP r.be na,LP m.ht na,?_⟩;have a1:(adr<|ZO (Zv h) ((j:Int)+1) x.Y).1=(Xq h j x).ad:=by rw[V9 r.be na,TQ r l d]
  have a2:(adr<|ZO (Zv g) ((j:Int)+1) x.Y).1=(Xq g j<|YZ (Zv h) t x).ad:=by rw[V9 m.ht na,TQ s l<|u _ x d,G]
  cases z:x.gone with
  |false=>
   refine⟨Xq h j x,K j x l d z,(P3 r (Ja r l d) z a1).symm,?_⟩;rw[P3 s (Ja s l<|u _ x d) (by show(YZ _ _ x).gone=xw;rw[e4];exact z) a2,TQ s l<|u _ x d,TQ r l d,C j x l d,G]
  |true=>
   obtain⟨y,hy,_,a7,_⟩:=yu r.toBody (k:=(j:Int)+1) Z0 d z;have N:y∈p.at (((0:Nat):Int)+1):=hy;have yg:y.gone=xw:=(r.am 1 Z0).dk y hy;have ty:=C 0 y Z0 N;have ay:=TQ r (j:=0) Z0 N;refine⟨Xq h 0 y,K 0 y Z0 N yg,?_,?_⟩;rw[P2 r (Ja r l d) z a1,ay];exact a7.symm;rw[P2 s (Ja s l<|u _ x d) (by show(YZ _ _ x).gone=xk;rw[e4];exact z) a2,ay,ty];show(YZ (Zv h) t x).target=_;unfold YZ;rw[Zhi z,a6];show ZC (Zv g) 1+(x.target-ZC (Zv h) 1)=ZC (Zv g) 1+y.Y;omega
 have B:∀w,(Gos h p w 1 2\/Gos h p w 3 4)->QK h g (zg h g) w (mu h g w):=by
  intro w R;have key:w=0\/∃k o,(1<=k/\k<=4)/\o∈p.at k/\w=ZO (Zv h) k o.Y:=by
   obtain(h1|⟨k,o,P,Q,e⟩)|(h1|⟨k,o,P,Q,e⟩):=R;exact .inl h1;exact .inr ⟨k,o,Z0,Q,e⟩;exact .inl h1;exact .inr ⟨k,o,Z0,Q,e⟩
  obtain rfl|⟨k,o,P,Q,rfl⟩:=key;exact .inl ⟨rfl,m.va r.be⟩;obtain⟨a,n,mm,ea,en,em,D,_⟩:=r.toTld.ob P Q;rw[m.rh r.be P ⟨Z0,Z0⟩];exact Z k o P Q
 have O:∀f∈(Yn h).ns,∃(j:Nat) (x:Ob),j<4/\x∈p.at ((j:Int)+1)/\x.gone=xw/\f=Xq h j x:=λf W=>by
  obtain⟨a4,F⟩:=R4.1 W;obtain⟨j,x,_,l,d,rfl⟩:=RX a4;exact⟨j,x,Z0,by rw[<-r.gu Z0];exact d,F,rfl⟩
 refine Zbg r s (zg h g) (λf W=> ?_) (λf W f' a3 e=> ?_) (Ab (by rw[m.E,ZhM]) λi a b ha T=> ?_);obtain⟨j,x,l,d,F,rfl⟩:=O f W;obtain⟨G,e2,e3,e4⟩:=WP (f:=Zv h) (t:=t) x;have A:1<=(j:Int)+1/\(j:Int)+1<=4:=Z0;obtain⟨a,n,mm,ea,en,em,D,_,a9⟩:=r.toTld.ob A d;have l1:∀y:Hp,Zw y j=Zx y ((j:Int)+1):=λy=>by rw[IQ y l];rfl
 have sl:∀(y:Hp) (i:Nat),i<n->(((Zw y j).drop (x.Y+1).toNat).take x.size.toNat)[i]?=(Zx y<|(j:Int)+1)[a+1+i]? :=λy i hi=>by
  rw[l1,ZhO Z0,ZhF];congr 1;omega
 have H:∀y:Hp,a+(n+1)<=I (Zx y<|(j:Int)+1)->I (((Zw y j).drop (x.Y+1).toNat).take x.size.toNat)=n:=λy hy=>by
  rw[l1];simp;omega
 have a5:a+(n+1)<=I (Zx g<|(j:Int)+1):=by rw[m.len A];exact D
 have l2:=H h D;have l3:=H g a5;have es:(Xq g j<|YZ (Zv h) t x).sl=((Zw g j).drop (x.Y+1).toNat).take x.size.toNat:=by unfold Xq;rw[G,e2]
 have eh:(Xq h j x).sl=((Zw h j).drop (x.Y+1).toNat).take x.size.toNat:=rfl;have ep:x.M.toNat=mm:=Z0;refine⟨Xq g j<|YZ (Zv h) t x,R4.2 ⟨Ja s l<|u _ x d,by show(YZ _ _ x).gone=xw;rw[e4];exact F⟩,?_,e3,?_,?_⟩;rw[TQ s l<|u _ x d,TQ r l d,C j x l d,G];rw[es,eh];show List.drop x.M.toNat _=List.drop x.M.toNat _;rw[ep];apply ZiV;intro i;rw[ZhF,ZhF];by_cases hi:mm+i<n;rw[sl g _ hi,sl h _ hi];exact m.ie _ A _<|Z6Z r.toBody A d F Z0 Z0;rw[ZhP Z0,ZhP Z0];rw[es,eh];show QF _ (List.take x.M.toNat _)<|List.take x.M.toNat _;rw[ep];refine Ab (by rw[Zid,l3,Zid,l2]) λi w w' R L=> ?_;have X:i<mm:=by
  have:=(Zh9.1 R).1;rw[Zid]at this;omega
 rw[ZhO X,sl h i Z0]at R;rw[ZhO X,sl g i Z0]at L;have a0:x.Y.toNat=a:=Z0;rw[m.ptr _ A x d _ (.inr ⟨F,Z0,Z0⟩) w R]at L;cases L;refine B w ?_;have:=r.ptr _ A x d F i Z0 w (by rw[a0];exact R);unfold Xw at this;split at this;exact .inr this;split at this;exact this;exact .inl this;obtain⟨j,x,l,d,F,rfl⟩:=O f W;obtain⟨j',x',Y,M,a8,rfl⟩:=O f' a3;rw[TQ r l d,TQ r Y M]at e⊢;rw[C j x l d,C j' x' Y M]at e;have G:=(WP (f:=Zv h) (t:=t) x).1;have S:=(WP (f:=Zv h) (t:=t) x').1;obtain⟨k1,k2⟩:=s.toTld.inj Z0 Z0 (u _ x d) (u _ x' M) (by rw[G,S];unfold ZO;omega);have:j=j':=Z0;subst this;have:=Zii Ob.Y k2;rw[G,S]at this;rw[this];rw[m.E,Zhz,ha]at T;cases T;exact B a<|.inl<|r.E a<|Zhh ha
end
end
def UE(h:Hp)(more:Int):Int:=h.cap+pick more 20
def TJ(h:Hp)(base more:Int):Int:=1+base.tmod (9223372036854775808-2*UE h more)
def Z18{h:Hp}(hc:0<=h.cap/\h.cap<=4096){base more:Int}(d:ZB base)(g:Y7 more):VC xP 6 xw [ZM h,vu base,vi more]<|.aq [vu<|TJ h base more,vi<|UE h more]:=by
 refine ZT Z1P follows Z2 c6 rfl ?_;have k:=Z7V (c:=more) (n:=20) g Z0;have p:=Uh (c:=more) (n:=20) Z0;obtain⟨a,f⟩:=d;unfold TJ UE;simp[p6];refine Zz k Z1 ?_;generalize pick more 20=q at*;have l:=ZA (h.cap+q) Z0 Z0;have w1:=ZP (h.cap+q) Z0 Z0;have w2:=ZP (2*(h.cap+q)) Z0 Z0;have w3:=ZP (9223372036854775808-2*(h.cap+q)) Z0 Z0;have j:0<=base.tmod (9223372036854775808-2*(h.cap+q))/\base.tmod (9223372036854775808-2*(h.cap+q))<9223372036854775808-2*(h.cap+q):=by
  rw[Zia a];exact⟨Zk1 _ Z0,ZjH _ Z0⟩
 have w4:=ZP (base.tmod<|9223372036854775808-2*(h.cap+q)) Z0 Z0;have o:=ZP (1+base.tmod (9223372036854775808-2*(h.cap+q))) Z0 Z0;simp[l,w1,w2,w3,w4,o,show ¬9223372036854775808-2*(h.cap+q)=0 by omega]
def p4:Fn:=⟨14,[0,1,2,3,4,5,6,7,8,9,10,11,12,13],pQ [pR [pV 0 pF],.au ⟨[],[([],.ag [pU 10,pI 5,pI 0,pF,pI 2,.lit [pU 2,pU 6],pN,pN,pN,.lit [pU 21]])],[(1,.m [pU 10,pI 5,pI 0,pF,pI 2,.lit [pU 2,pU 6],pN,pN,pN,.lit [pU 21]])]⟩,pC [pK 14 7 [.mm 1 0 10,pU 100,pI 9]] [(2,pM (.sz (.ext (.s 14) 0) 10) 10),pV 3<|.fl<|.ext (.s 14) 1],pC [pK 15 7 [.mm 1 0 10,pU 100,pI 4]] [(4,pM (.sz (.ext (.s 15) 0) 10) 10),pV 5<|.ext (.s 15) 1],pC [pK 16 7 [.mm 1 0 10,pU 0,pI 9]] [(6,pM (.sz (.ext (.s 16) 0) 10) 10),pV 7<|.ext (.s 16) 1],pC [pK 17 7 [.mm 1 0 10,pU 9223372036854775808,pI 9]] [(8,pM (.sz (.ext (.s 17) 0) 10) 10),pV 9<|.ext (.s 17) 1],pC [pK 18 12 [.ag [pU 10,pI 5,pI 0,pI 0,pI 1,pI 0,pI 0],.ag [pU 20,pI 9,pI 0,pI 0,pI 2,pI 0,pI 0],pU 29]] [pV 10<|.ext (.s 18) 0,pV 11<|.ext (.s 18) 1],pC [pK 19 12 [.ag [pU 10,pI 5,pI 0,pI 0,pI 1,pI 0,pI 0],.ag [pU 20,pI 9,pI 0,pI 0,pI 0,pI 0,pI 0],pU 29]] [pV 12<|.ext (.s 19) 0,pV 13<|.ext (.s 19) 1],.au ⟨[.lt 20 []<|pe (.s 3)<|pI 0,.call 21 [(20,xk)] (.id 13) xw xw [.mm 2 0 10,.ag [pU 100,pI 9,pI 0,pF,pI 2,.lit [pU 2,pU 6],pN,pN,pN,.lit [pU 201]]],.lt 22 []<|.ite (.s 20) (.s 21) pF,.lt 23 []<|.ite (.s 22) (pe (.s 5)<|pI 8) pF,.lt 24 []<|.ite (.s 23) (pe (.s 7)<|pI 1) pF,.lt 25 []<|.ite (.s 24) (pe (.s 9)<|pI 9) pF,.lt 26 []<|.ite (.s 25) (pe (.s 11)<|pI 0) pF,.lt 27 []<|.ite (.s 26) (pe (.s 10)<|pU 55) pF],[([(22,xk)],pe (.s 5)<|pI 8),([(23,xk)],pe (.s 7)<|pI 1),([(24,xk)],pe (.s 9)<|pI 9),([(25,xk)],pe (.s 11)<|pI 0),([(26,xk)],pe (.s 10)<|pU 55),([(27,xk)],pe (.s 13)<|pI 6)],[pV 0<|.ite (.s 27) (pe (.s 13)<|pI 6) pF]⟩] .ret,[(0,.v)]⟩
def c4:xQ [] Tryz.f4=J p4:=Z2
def ED:Prop:=∀(h:Hp) (base words:Int),h.ok->ZB base->Y7 words->VC xP 7 xw [ZM h,vu base,vi words] (.aq [ZM (Xn h base words).1,vi (Xn h base words).2])
def UW:Hp:=⟨10,5,0,xw,2,[2,6],[],[],[],[21]⟩
def KE:Hp:=⟨100,9,0,xw,2,[2,6],[],[],[],[201]⟩
def yf:UW.ok:=by refine⟨?_,?_,?_,?_,?_,?_,?_,?_,?_,?_,?_,?_,?_,?_⟩<;>simp[UW,ZB,Y7]
def Z3F:KE.ok:=by refine⟨?_,?_,?_,?_,?_,?_,?_,?_,?_,?_,?_,?_,?_,?_⟩<;>simp[KE,ZB,Y7]
def Z2C(a:ED):VC xP 4 xw []<|.bool xk:=by
 refine ZT Z1u follows Z2 c4 rfl ?_;have p:Xn UW 100 9=(KE,0):=Zgf;have q:Xn UW 100 4=(Hp.zero,8):=Zgf;have r:Xn UW 0 9=(Hp.zero,1):=Zgf;have u:Xn UW 9223372036854775808 9=(Hp.zero,9):=Zgf;have d:=a UW 100 9 yf Zh0 (by simp[Y7]);have g:=a UW 100 4 yf Zh0 (by simp[Y7]);have h:=a UW 0 9 yf Zh0 (by simp[Y7]);have j:=a UW 9223372036854775808 9 yf Zh0 (by simp[Y7]);rw[p]at d;rw[q]at g;rw[r]at h;rw[u]at j;have n:Yl ⟨10,5,0,0,1,0,0⟩ ⟨20,9,0,0,2,0,0⟩ 29=(55,0):=Zgf;have o:Yl ⟨10,5,0,0,1,0,0⟩ ⟨20,9,0,0,0,0,0⟩ 29=(0,6):=Zgf;have k:=D1 (f:=⟨10,5,0,0,1,0,0⟩) (t:=⟨20,9,0,0,2,0,0⟩) (w:=29) (by simp[Ly.an,ZB,Y7]) (by simp[Ly.an,ZB,Y7]) Zh0;have p2:=D1 (f:=⟨10,5,0,0,1,0,0⟩) (t:=⟨20,9,0,0,0,0,0⟩) (w:=29) (by simp[Ly.an,ZB,Y7]) (by simp[Ly.an,ZB,Y7]) Zh0;rw[n]at k;rw[o]at p2;have l:=Z9S (b:=KE) Z3F;simp only[ZM,UW,KE,Hp.zero,YP,ZhN,Zj5]at d g h j k p2 l;simp[p4];refine Zz d Z1 ?_;simp;refine Zz g Z1 ?_;simp;refine Zz h Z1 ?_;simp;refine Zz j Z1 ?_;simp;refine Zz k Z1 ?_;simp;refine Zz p2 Z1 ?_;simp;refine Zz l Z1 ?_;simp
def ZaG{x:Rw}(hx:x.ok)(cycle:Bool):(Ym x cycle).h.cap<=200:=by
 obtain⟨f,j,a⟩:=qb x.nodes x.E;have k:=L8 x.nodes x.E;unfold Ym;generalize ZY x.nodes x.E=g at*;have d:∀n∈g.nodes,ZL n<=9:=λn l=>by have:=a n l;unfold ZL;omega
 obtain⟨p,q,r,t⟩:=JQ (x:=x) (cycle:=cycle) d (I g.nodes)<|Zhc _;dsimp only;generalize Y3 x cycle g (I g.nodes)=s at*;have o:=Uh (c:=x.bj) (n:=12) Z0;omega
def Z4i{x:Rw}(hx:x.ok):(Ub x).cap<=200:=by
 have key:∀c,(Yu x<|Ym x c).cap<=200:=λc=>by
  obtain⟨a,d,g⟩:=JR hx c;obtain⟨_,f,_,_⟩:=AL (x:=x) a d;have e:(Yu x<|Ym x c).cap=(Ym x c).h.cap:=Zii Ly.cap f;rw[e];exact ZaG hx c
 unfold Ub jM;split;exact key xw;exact key xk
def Z8j{h:Hp}(hc:0<=h.cap/\h.cap<=4000){base more:Int}(d:ZB base):MvOk h (TJ h base more) (UE h more)/\ZB (TJ h base more)/\Y7 (UE h more)/\UE h more<=h.cap+19:=by
 have j:=Uh (c:=more) (n:=20) Z0;unfold TJ UE;generalize pick more 20=q at*;obtain⟨a,f⟩:=d;have g:0<=base.tmod (9223372036854775808-2*(h.cap+q))/\base.tmod (9223372036854775808-2*(h.cap+q))<9223372036854775808-2*(h.cap+q):=by
  rw[Zia a];exact⟨Zk1 _ Z0,ZjH _ Z0⟩
 refine⟨⟨?_,?_,?_,?_,?_⟩,⟨?_,?_⟩,⟨?_,?_⟩,?_⟩<;>omega
def Z6x{h:Hp}(x:h.ok){p:Pts}{base words:Int}(u:ZB base)(a:Y7 words):(Xx h p base words).ok:=by
 obtain⟨y,z,d,f,g,j,k,l,n,o,q,r,t,A⟩:=x;refine⟨u,a,d,f,?_,?_,?_,?_,?_,?_,?_,?_,?_,?_⟩;show I (Vz _ _ _ _)<=_;rw[T9];exact g;show I (Vz _ _ _ _)<=_;rw[T9];exact j;show I (Vz _ _ _ _)<=_;rw[T9];exact k;show I (Vz _ _ _ _)<=_;rw[T9];exact l;show I (h.E.map _)<=_;rw[ZhM];exact n;exact Le o;exact Le q;exact Le r;exact Le t;intro w a;obtain⟨v,_,rfl⟩:=Zhq.1 a;exact D0 _ _ _
def p3:Fn:=⟨25,[0,1,2,3,6,7,8,9,10,11,12,13,14,15,16,17,18,19,20,21,22,23,24,25,85],pQ [pR [(3,pS 0 7),pV 4 pF],pC [pK 25 4 []] [pV 5<|.s 25],pC [pK 26 5 [.mm 3 0 7]] [(6,pS 26 10)],pC [pK 27 6 [.mm 6 0 10,.s 1,.s 2]] [pV 7<|.ext (.s 27) 0,pV 8<|.ext (.s 27) 1],pC [pK 28 7 [.mm 6 0 10,.s 7,.s 8]] [(9,pM (.sz (.ext (.s 28) 0) 10) 10),pV 10<|.ext (.s 28) 1],pC [pK 29 8 [.mm 6 0 10]] [(11,pM (.sz (.ext (.s 29) 0) 2) 2),pV 12<|.ext (.s 29) 1],pC [pK 30 8 [.mm 9 0 10]] [(13,pM (.sz (.ext (.s 30) 0) 2) 2),pV 14<|.ext (.s 30) 1],pC [.call 31 [] (.id 9) xk xw [.mm 6 0 10]] [(15,pM (.sz (.ext (.s 31) 0) 5) 5),pV 16<|.ext (.s 31) 1],pC [.call 32 [] (.id 9) xk xw [.mm 9 0 10]] [(17,pM (.sz (.ext (.s 32) 0) 5) 5),pV 18<|.ext (.s 32) 1],pC [pK 33 7 [.mm 6 0 10,.s 7,pb (.m 6 1)<|pI 1]] [(19,pM (.sz (.ext (.s 33) 0) 10) 10),pV 20<|.ext (.s 33) 1],pC [pK 34 7 [.mm 6 0 10,pa (pb (pU 9223372036854775808)<|pm (pU 2)<|.conv .u64<|.s 8)<|pU 1,.s 8]] [(21,pM (.sz (.ext (.s 34) 0) 10) 10),pV 22<|.ext (.s 34) 1],pR [pV 23<|pI 8],pi 24 (pe (.m 6 1)<|pI 0)<|pR [pV 23<|pI 1],pR [(17,.m [.m 17 0,.m 17 1,pa (pb (.m 17 2)<|.s 8)<|.m 6 1,.m 17 3,.m 17 4])],.au ⟨[.lt 35 []<|.s 5,.lt 36 []<|.ite (.s 35) (pe (.s 10)<|pI 0) pF,.lt 37 []<|.ite (.s 36) (pe (.s 12)<|pI 0) pF,.lt 38 []<|.ite (.s 37) (pe (.s 14)<|pI 0) pF,.lt 39 []<|.ite (.s 38) (pe (.s 16)<|pI 0) pF,.lt 40 []<|.ite (.s 39) (pe (.s 18)<|pI 0) pF,.call 41 [(40,xk)] (.id 10) xw xw [.mm 9 0 10],.lt 42 []<|.ite (.s 40) (.s 41) pF,.call 43 [(42,xk)] (.id 11) xw xw [.mm 11 0 2,.mm 13 0 2],.lt 44 []<|.ite (.s 42) (.s 43) pF,.lt 45 []<|.ite (.s 44) (.ite (pe (.ac (.sz (.bv<|.mm 15 0 5) 5) 0)<|.ac (.sz (.bv<|.mm 17 0 5) 5) 0) (.ite (pe (.ac (.sz (.bv<|.mm 15 0 5) 5) 1)<|.ac (.sz (.bv<|.mm 17 0 5) 5) 1) (.ite (pe (.ac (.sz (.bv<|.mm 15 0 5) 5) 2)<|.ac (.sz (.bv<|.mm 17 0 5) 5) 2) (.ite (pe (.ac (.sz (.bv<|.mm 15 0 5) 5) 3)<|.ac (.sz (.bv<|.mm 17 0 5) 5) 3) (.ite (pe (.ac (.sz (.bv<|.mm 15 0 5) 5) 4)<|.ac (.sz (.bv<|.mm 17 0 5) 5) 4) pT pF) pF) pF) pF) pF) pF,.lt 46 []<|.ite (.s 45) (pe (.m 9 4)<|.m 6 4) pF,.lt 47 []<|.ite (.s 46) (.fm xw (.m 9 3)<|.m 6 3) pF,.lt 48 []<|.ite (.s 47) (pe (.m 9 2)<|.m 6 2) pF,.lt 49 []<|.ite (.s 48) (pe (.s 20)<|.s 23) pF],[([(35,xk)],pe (.s 10)<|pI 0),([(36,xk)],pe (.s 12)<|pI 0),([(37,xk)],pe (.s 14)<|pI 0),([(38,xk)],pe (.s 16)<|pI 0),([(39,xk)],pe (.s 18)<|pI 0),([(44,xk)],.ite (pe (.ac (.sz (.bv<|.mm 15 0 5) 5) 0)<|.ac (.sz (.bv<|.mm 17 0 5) 5) 0) (.ite (pe (.ac (.sz (.bv<|.mm 15 0 5) 5) 1)<|.ac (.sz (.bv<|.mm 17 0 5) 5) 1) (.ite (pe (.ac (.sz (.bv<|.mm 15 0 5) 5) 2)<|.ac (.sz (.bv<|.mm 17 0 5) 5) 2) (.ite (pe (.ac (.sz (.bv<|.mm 15 0 5) 5) 3)<|.ac (.sz (.bv<|.mm 17 0 5) 5) 3) (.ite (pe (.ac (.sz (.bv<|.mm 15 0 5) 5) 4)<|.ac (.sz (.bv<|.mm 17 0 5) 5) 4) pT pF) pF) pF) pF) pF),([(45,xk)],pe (.m 9 4)<|.m 6 4),([(46,xk)],.fm xw (.m 9 3)<|.m 6 3),([(47,xk)],pe (.m 9 2)<|.m 6 2),([(48,xk)],pe (.s 20)<|.s 23),([(49,xk)],pe (.s 22)<|pI 9)],[pV 4<|.ite (.s 49) (pe (.s 22)<|pI 9) pF]⟩] .ret,[(4,.v)]⟩
def c3:V2 (YC Tryz.prog) fresh sig [.fz,.fz,.fz] [] Tryz.f3=J p3:=Z2
def qk(h:Hp)(b w:Int):∀y∈[ZM h,vu b,vi w],NoM y:=λy a=>by
 simp only[Zhs,ZiL,Zk9]at a;obtain rfl|rfl|rfl:=a;exact Qg h;exact .int _ _;exact .int _ _
def Zbk{f t:Ly}{p:Pts}:X4 (VA f t p)=X4 p:=by
 unfold X4 VA;rw[jS,jS]
instance fitK20:FitF (YC Tryz.prog) 3:=AR (P:=Tryz.prog) Tryz.func3 rfl Z2
def Z5L(w:ED)(S:Kh){x:Rw}(hx:x.ok){base more:Int}(X:ZB base)(hm:Y7 more):VC (YC Tryz.prog) 3 xw [Wr x,vu base,vi more]<|.bool xk:=by
 refine ZT (P:=YC Tryz.prog) Tryz.func3 yo Z2 c3 rfl ?_;simp[p3];refine Zz (up (Z2C w) nofun (.bool _)) Z1 ?_;simp;have kh:=Z0M hx;unfold Wr at kh;refine Zz kh Z1 ?_;obtain⟨f,hl,a5⟩:=Z4k hx;have Z:=Z4i hx;obtain⟨p,r⟩:=jj.1<|Z4l hx;generalize Ub x=h at*;have a3:0<=h.cap:=(WG.1 hl).1
 have q2:=up (Z18 (h:=h) Z0 X hm) (qk _ _ _) (.aq _ λc Y=>by
  simp only[Zhs,ZiL,Zk9]at Y;obtain rfl|rfl:=Y<;>exact .int _ _)
 obtain⟨j,t,A,a0⟩:=Z8j (h:=h) Z0 (base:=base) (more:=more) X;have D:=up (w h (TJ h base more) (UE h more) f t A) (qk _ _ _)<|qj _ _;rw[Z6y r j]at D;have l:=Z6x f (p:=p) t A;have M:=Mvd.of r.toBody<|j.tp t.1 hl;have u:(Xx h p (TJ h base more)<|UE h more).base=TJ h base more/\(Xx h p (TJ h base more)<|UE h more).cap=UE h more:=⟨rfl,rfl⟩;generalize TJ h base more=R at*;generalize UE h more=room at*;generalize Xx h p R room=T at*;have YT:MvOk h T.base T.cap:=by rw[u.1,u.2];exact j
 have d:0<=T.base:=by rw[u.1];exact t.1
 have B:=Z6L r M YT d;obtain⟨q,_,MS,_,_⟩:=M.ni YT d r 9223372036854775807;have z:=M.rt r YT d;have C:X4 (VA (Zv h) (Zv {h with base:=T.base,cap:=T.cap}) p)=X4 p:=Zbk;generalize VA (Zv h) (Zv {h with base:=T.base,cap:=T.cap}) p=P at*;have y:=M.len (k:=1) Z0;have Q:=M.len (k:=2) Z0;simp only[WD,Rf]at y Q;obtain⟨n1,n2,n3⟩:=M.num;have hu:Un T P=Un h p:=by unfold Un;rw[y,Q,C]
 have F:=jY f;have H:=jY l;rw[r.uf]at F;rw[z.uf,B]at H;have k5:=EE S f r;have K:=EE S l z;rw[y,n3,C,hu,B,u.2,MS.num.2.2]at K;have k7:=Ew l z;have N:=Z1a (a:=Wf<|vg h) (b:=Wf<|vg h)<|G2 (ofOk f r.right).sm.gr r.eu;rw[ZjD rfl]at N;have hr:=r.right;have a4:=j.cap;have a6:=j.w1;have a1:=j.bo;have a2:=j.b0;have q1:Xn h R (h.cap-1)=(Hp.zero,if h.cap=0 then 1 else 8):=by
  unfold Xn;by_cases n:h.cap=0;rw[Zhi Z0,Zhi n];rw[Zhg (by rw[hr];simp;omega),Zhi Z0,Zhg n]
 have q9:Xn h (9223372036854775808-2*room+1) room=(Hp.zero,9):=by
  unfold Xn;rw[Zhg (by rw[hr];simp;omega),Zhg Z0,Zhi Z0]
 have O:=up (w h R (h.cap-1) f t (by unfold Y7;omega)) (qk _ _ _)<|qj _ _;have g:=up (w h (9223372036854775808-2*room+1) room f (by unfold ZB;omega) A) (qk _ _ _)<|qj _ _;rw[q1]at O;rw[q9]at g;have o:=r.room;have a7:0<=Un h p/\Un h p<=h.cap:=⟨by unfold Un;omega,o⟩;have w1:=ZA (h.cap-1) Z0 Z0;have w2:=ZP room Z0 Z0;have w3:=ZP (2*room) Z0 Z0;have w4:=ZP (9223372036854775808-2*room) Z0 Z0;have w5:=ZP (9223372036854775808-2*room+1) Z0 Z0;have w6:=ZA (room-Un h p-room) Z0 Z0;have w7:=ZA (room-Un h p-room+h.cap) Z0 Z0;have d1:room-Un h p-room+h.cap=h.cap-Un h p:=Z0;clear B MS z M hu C y Q o q1 q9;generalize Un h p=q0 at*;generalize (scanK h 9223372036854775807).Z-h.Z=L at*;generalize words (Wf<|vg h)=W at*;generalize Wf (vg h)=G at*;simp only[ZM,Jm,Hp.zero,Yj]at q2 D F H k5 K k7 N O g;simp;refine Zz q2 Z1 ?_;simp;refine Zz D Z1 ?_;simp;refine Zz F Z1 ?_;simp;refine Zz H Z1 ?_;simp;refine Zz k5 Z1 ?_;simp;refine Zz K Z1 ?_;simp[w1];refine Zz O Z1 ?_;simp[w2,w3,w4,w5];refine Zz g Z1 ?_;simp[w6,w7,d1];by_cases n:h.cap=0;all_goals
  simp[n];refine Zz k7 Z1 ?_;simp;refine Zz N Z1 ?_;simp[n,n1,n2,n3];exact(ZA _ Z0 Z0).symm
end Vm
end
section
namespace Vm
open Go Go.Proofs Go.RowKit
def Z8u{f t:Ly}(a:f.an)(d:t.an){x:Int}(hx:ZB x)(w:Z3):Calls xP 12 #[Wk f,Wk t,.int .u64 x] w λe g=>e=.returned (.tuple #[.int .u64 (Yl f t x).1,.int .i64 (Yl f t x).2])/\Below (xz<|xj w) w g:=
 Tr (D1 a d hx) rfl rfl w
def Z6I{f t:Ly}{ws out:Z6}{a n i:Nat}(h:i<a\/a+n<=i):(X0 f t ws out a n)[i]?=out[i]? :=by
 induction n with
 |zero=>rfl
 |succ n d=>
  rw[X0,ZiA,Zhg Z0];exact d Z0
def UB(l:Ly):Array Value:=#[.int .u64 l.base,.int .i64 l.cap,.int .i64 l.to,.int .i64 l.H,.int .i64 l.ae,.int .i64 l.ah,.int .i64 l.aj]
def Ma(w:Z3){f t:Ly}(hf:f.an)(ht:t.an){ws:Z6}(W:∀x∈ws,ZB x)(S:I ws<=1000000){lo m cap b B d bt A:Nat}(hl:lo+m<=I ws)
  (z:w.ownsRow B 24 1 (.slice (J ⟨b,0,U⟩) (I ws) cap) (I ws)<|Yo .u64 ws) {T1 T2 T3:Zh} (P:w.heap[d]?=J (.cells (UB f) T1 (0,0))) (h2:w.heap[bt]?=J (.cells (UB t) T2 (0,0)))
  (Q:w.heap[A]?=J (.cells #[.int .i64 0] T3 (0,0))) (n1:d≠b) (n2:bt≠b) (n3:A≠b) (hz:∀j,j<m->∀x,ws[lo+j]?=J x->(Yl f t x).2=0):
  Calls xP 20 #[.slice (J ⟨b,lo,U⟩) m<|cap-lo,.pointer<|J ⟨d,0,U⟩,.pointer<|J ⟨bt,0,U⟩,.pointer<|J ⟨A,0,U⟩] w λe X=>
   e=.returned (.tuple #[])/\w.grownBy X (J b)/\X.ownsRow B 24 1 (.slice (J ⟨b,0,U⟩) (I ws) cap) (I ws) (Yo .u64<|X0 f t ws ws lo m):=by
 have R:I ws<=cap:=by
  obtain⟨D,_⟩|⟨g',O,a0,D,_,_,u,_⟩:=z.2;simp at D;simp only[Zkd,Zh7]at D;omega
 have L:=Zhf P;have M:=Zhf h2;have N:=Zhf Q;have Z:=Zhf z;have HU:=Zhf W;clear P h2 Q z W;go_enter A2,Tryz.ntmps20;go_wp2
 go_loopw [11] (λi wr=>∃j:Nat,i=.int .i64 j/\j<=m/\Hid (w.grownBy wr (J b)/\wr.ownsRow B 24 1 (.slice (J ⟨b,0,U⟩) (I ws) cap) (I ws) (Yo .u64<|X0 f t ws ws lo j)))
  (λi _=>m- (intOf i).toNat)
 case atStart=>exact⟨0,rfl,Z0,Zhf ⟨V3 (Zhw _ _) _,Z.out⟩⟩
 case round=>
  obtain⟨j,rfl,hj,g⟩:=hrel;by_cases F:j<m
  .have T:((j:Int)<m)=True:=Zje Z0;obtain⟨x,C⟩:∃x,ws[lo+j]?=J x:=⟨_,Zh8 Z0⟩;have H:=HU.out x<|Zhh C;have c0:wr.cell? ⟨b,lo+j,U⟩=J (.int .u64 x):=by
    have:=g.out.2.cellAt (lo+j) Z0;rw[this];simp[Yo,Z6I (f:=f) (t:=t) (ws:=ws) (out:=ws) (a:=lo) (n:=j) (i:=lo+j) Z0,C]
   have f0:wr.frozen? ⟨b,lo+j,U⟩=xw:=g.out.2.frozenAt<|lo+j;have k:=(g.out.1.block d (Y2 L.out)<|by simp[n1]).trans L.out;have l:=(g.out.1.block bt (Y2 M.out)<|by simp[n2]).trans M.out;have b3:=(g.out.1.block A (Y2 N.out)<|by simp[n3]).trans N.out;have p0:wr.cell? ⟨d,0,U⟩=J (.int .u64 f.base):=Zgo;have p1:wr.cell? ⟨d,1,U⟩=J (.int .i64 f.cap):=Zgo;have p2:wr.cell? ⟨d,2,U⟩=J (.int .i64 f.to):=Zgo;have p3:wr.cell? ⟨d,3,U⟩=J (.int .i64 f.H):=Zgo;have p4:wr.cell? ⟨d,4,U⟩=J (.int .i64 f.ae):=Zgo;have p5:wr.cell? ⟨d,5,U⟩=J (.int .i64 f.ah):=Zgo;have p6:wr.cell? ⟨d,6,U⟩=J (.int .i64 f.aj):=Zgo;have q0:wr.cell? ⟨bt,0,U⟩=J (.int .u64 t.base):=Zgr;have q1:wr.cell? ⟨bt,1,U⟩=J (.int .i64 t.cap):=Zgr;have q2:wr.cell? ⟨bt,2,U⟩=J (.int .i64 t.to):=Zgr;have q3:wr.cell? ⟨bt,3,U⟩=J (.int .i64 t.H):=Zgr;have q4:wr.cell? ⟨bt,4,U⟩=J (.int .i64 t.ae):=Zgr;have q5:wr.cell? ⟨bt,5,U⟩=J (.int .i64 t.ah):=Zgr;have q6:wr.cell? ⟨bt,6,U⟩=J (.int .i64 t.aj):=Zgr;have K:=hz j F x C;have u:=Z8u hf ht H;unfold Wk at u;rw[K]at u;have Y:=Zhf u;have o:Yo .u64 (X0 f t ws ws lo<|j+1)=(Yo .u64<|X0 f t ws ws lo j).set (lo+j) (.int .u64 (Yl f t x).1):=by
    rw[X0,qr,C];rfl
   have r:b<xz (xj wr):=(g.out.2.lt b rfl).2;generalize (Yl f t x).1=y at*;clear u k l
   go_wp2_with (first
    | (go_at_call 12;refine(Y.out _).mono ?_;rintro e w1 ⟨rfl,h⟩
       have f1:w1.frozen? ⟨b,lo+j,U⟩=xw:=(h.frozen (p:=⟨b,lo+j,U⟩) r).trans f0;have c1:w1.cell? ⟨b,lo+j,U⟩=J (.int .u64 x):=(h.cell (p:=⟨b,lo+j,U⟩) r).trans c0;have q:=Zhf h;clear h))
   go_roundw
   case rel=>
    refine⟨j+1,by go_num,Z0,Zhf ?_⟩;have hg:=Ve g.out.1<|V3 q.out<|J b;have z:=g.out.2.kept (V3 q.out U)<|.inr (by simp[Value.ownBlock]);have G:=z.stored (lo+j)<|.int .u64 y;rw[<-o]at G;exact⟨Ve hg G.2,G.1⟩
   case measure=>simp[intOf];omega
  .have:j=m:=Z0;subst this;go_wp2;exact bodyPost_end (ZkH rfl _ _ _) rfl ⟨rfl,g.out.1,g.out.2⟩
section
section
variable {w:Z3}{G:Z4}{h:Hp}{x:Z9}
def ji(k:h.ok)(f:∀b,G b->b<xz (xj w))(l:∀j,j<5->Rd w G (.sl<|(Zw h j).map vu) (x j)):
  Calls xP 10 #[ZJ h x] w λe d=>e=.returned (.bool<|YQ h)/\Below (xz<|xj w) w d:=by
 refine ZjU ((zA k).2 w G _ f rfl ?_) ?_;intro i y a
 match i,a with
 |0,a=>cases a;exact yE l
 rintro e d ⟨v,rfl,g,n⟩;exact⟨by rw[D9 n],g⟩
def Rd.uq{l:Zr}{v:Zg}(h:Rd w G (.sl l) v):∃a c,v=.slice a (I l) c:=by
 cases h with
 |nil a cap _=>exact⟨a,cap,rfl⟩
 |sl l b o cap k vs=>exact⟨_,cap,rfl⟩
def jX(w:Z3)(l:Zi)(v:Zg)(d:Z4):Prop:=
 ∃a c,v=.slice a (I l) c/\(0<I l->∃g o,a=J ⟨g,o,U⟩/\d g/\g<xz (xj w)/\∀k b,l[k]?=J b->w.cell? ⟨g,o+k*5,U⟩=J (.int .i64 b.Y)/\w.cell? ⟨g,o+k*5+1,U⟩=J (.int .i64 b.size)/\
  w.cell? ⟨g,o+k*5+2,U⟩=J (.int .i64 b.M)/\w.cell? ⟨g,o+k*5+3,U⟩=J (.bool b.gone)/\w.cell? ⟨g,o+k*5+4,U⟩=J (.int .u64 b.target))
def Z77{l:Zi}{v:Zg}(r:Rd w G (.sl<|l.map ZN) v)(D:∀b,G b->b<xz (xj w)):jX w l v G:=by
 have f:∀x∈l.map ZN,x.an 5:=λx N=>by
  obtain⟨n,_,rfl⟩:=Zhq.1 N;exact⟨rfl,λc d=>by simp at d;obtain rfl|rfl|rfl|rfl|rfl:=d<;>rfl⟩
 obtain⟨a,c,rfl⟩:=Rd.uq r;refine⟨a,c,Z1,λK=> ?_⟩;generalize p:l.map ZN=L at r f;cases r with
 |nil=>simp at p;subst p;simp at K
 |sl _ g o cap k vs S T u B C h=>
  refine⟨g,o,rfl,u,D _ u,λi b t=> ?_⟩;have F:i<I l:=(Zh9.1 t).1;have H:k=5:=by
   have M:ZN b∈L:=by rw[<-p];exact Zil<|Zhh t
   have A:=(B _ M).1;simpa using A.symm
  subst H;have z:I L=I l:=by rw[<-p];simp
  have q:∀j,j<5->(flat L)[i*5+j]?=(ZN b).cells[j]? :=λj y=>Vt f (by rw[<-p,Zhz,t];rfl) j y;have d:∀j,j<5->w.cell? ⟨g,o+i*5+j,U⟩=J (vs<|i*5+j):=λj y=>by
   rw[Zik];exact C _ Z0
  have r0:=h _ _<|(q 0 Z0).trans rfl;have O:=h _ _<|(q 1 Z0).trans rfl;have P:=h _ _<|(q 2 Z0).trans rfl;have Q:=h _ _<|(q 3 Z0).trans rfl;have R:=h _ _<|(q 4 Z0).trans rfl;refine⟨?_,?_,?_,?_,?_⟩;rw[<-Uj r0];exact d 0 Z0;rw[<-Uj O];exact d 1 Z0;rw[<-Uj P];exact d 2 Z0;rw[<-D9 Q];exact d 3 Z0;rw[<-Uj R];exact d 4 Z0
def Z76{p:Pts}(D:h.ok)(B:Rt h p)(k:Nat)(R:k<4)(z:∀b,G b->b<xz (xj w))(hx:∀j,j<5->Rd w G (.sl<|(Zw h j).map vu) (x j)):
  Calls xP 21 #[ZJ h x,.int .i64 ((k+1:Nat):Int)] w λe t=>∃v,e=.returned (.tuple #[v,.int .i64 0])/\Below (xz<|xj w) w t/\jX t (p.at ((k+1:Nat):Int)) v (λb=>G b\/xz (xj w)<=b):=by
 have K:VS h ((k+1:Nat):Int)=(p.at ((k+1:Nat):Int),0):=by
  unfold VS;rw[Zhi ⟨B.right,Z0,Z0⟩,B.ei];rfl
 have:=Eu D (k:=((k+1:Nat):Int));rw[K]at this;refine ZjU (this.2 w G _ z rfl ?_) ?_;intro i y r
 match i,r with
 |0,r=>cases r;exact yE hx
 |1,r=>cases r;exact .int _ _
 rintro e t ⟨v,rfl,A,L⟩;cases L with
 |aq _ vs H q=>
  have r0:=q 0 _ rfl;have Q:=Uj<|q 1 _ rfl;have l:vs.size=2:=H;refine⟨vs.getD 0 xy,?_,A,?_⟩;congr 2;apply ZjX;simp[l];intro i n u;have F:i<2:=Z0
  match i,F with
  |0,_=>simp[Array.getD,l]
  |1,_=>simpa[Array.getD,l]using Q
  have:=Z77 (r0.mono (G':=λb=>(G b\/xz (xj w)<=b)/\b<xz (xj t)) (λb d=>by
   obtain⟨_,n⟩|⟨n,u⟩:=d;exact⟨.inl n,Zhj (z b n) A.size⟩;exact⟨.inr n,u⟩)) (λb d=>d.2)
  obtain⟨a,c,e,f⟩:=this;exact⟨a,c,e,λC=>by obtain⟨g,o,M,N,O,P⟩:=f C;exact⟨g,o,M,N.1,O,P⟩⟩
end
def M6(w:Z3)(a:Option Addr)(c:Nat)(v1 d f:Zg):
  Calls xP 20 #[.slice a 0 c,v1,d,f] w λe g=>e=.returned (.tuple #[])/\Below (xz<|xj w) w g:=by
 go_enter A2,Tryz.ntmps20;go_wp2;go_loopw [11] (λi wr=>i=.int .i64 0/\wr=w) (λ_ _=>0)
 case atStart=>exact⟨rfl,rfl⟩
 case round=>
  obtain⟨rfl,rfl⟩:=hrel;go_wp2;exact bodyPost_end (ZkH rfl _ _ _) rfl ⟨rfl,Zhw _ _⟩
structure MvI (B:Nat) (w wr:World) (bh br b8 bf bt bw:Nat) (f t:Ly) (h:Hp) (src x:Nat->Value) (base words:Int) (L:Nat->List Int):Prop where
 below:Below B w wr
 le:B<=bh/\B<=br/\B<=b8/\B<=bf/\B<=bt/\B<=bw
 hb:wr.heap[bh]?=J (.cells #[.int .u64 h.base,.int .i64 h.cap,.int .i64 h.to,.bool h.aa,.int .i64 h.Z,src 0,src 1,src 2,src 3,src 4] 30 (0,0))
 rb:wr.heap[br]?=J (.cells Y9 30 (0,0))
 nb:wr.heap[b8]?=J (.cells #[.int .u64 base,.int .i64 words,.int .i64 h.to,.bool h.aa,.int .i64 h.Z,x 0,x 1,x 2,x 3,x 4] 30 (0,0))
 fb:wr.heap[bf]?=J (.cells (UB f) 52 (0,0))
 tb:wr.heap[bt]?=J (.cells (UB t) 52 (0,0))
 wb:wr.heap[bw]?=J (.cells #[.int .i64 0] 34 (0,0))
 len:∀j,j<5->I (L j)=I (Zw h j)
 own:∀j,j<5->wr.ownsRow B 24 1 (x j) (I<|L j) (Yo .u64<|L j)
 apart:∀i j,i<j->j<5->∀c,(x i).ownBlock=J c->(x j).ownBlock≠J c
 aj:∀j,j<5->∀c,(x j).ownBlock=J c->c≠bh/\c≠br/\c≠b8/\c≠bf/\c≠bt/\c≠bw
section
variable {B:Nat}{w wr:Z3}{bh br b8 bf bt bw:Nat}{f t:Ly}{h:Hp}{src x:Z9}{base words:Int}{L:Nat->List Int}
def MvI.keep(m:MvI B w wr bh br b8 bf bt bw f t h src x base words L){w':Z3}(d:Below (xz<|xj wr) wr w'):MvI B w w' bh br b8 bf bt bw f t h src x base words L:=by
 have k:∀c O,wr.heap[c]?=J O->w'.heap[c]?=J O:=λc O a=>(d.block c<|Y2 a).trans a;have l:B<=xz (xj wr):=ZhD m.le.1<|Zlt<|Y2 m.hb;exact⟨m.below.trans<|d.mono l,m.le,k _ _ m.hb,k _ _ m.rb,k _ _ m.nb,k _ _ m.fb,k _ _ m.tb,k _ _ m.wb,m.len,λj g=>Xs (m.own j g) λc a=>d.block c ((m.own j g).lt c a).2,m.apart,m.aj⟩
def MvI.ls(m:MvI B w wr bh br b8 bf bt bw f t h src x base words L){w':Z3}{k:Nat}(l:k<5){ws:Z6}(z:I ws=I (L k)){row:Zt}(g:(x k).ownBlock=row)(u:wr.grownBy w' row)(D:w'.ownsRow B 24 1 (x k) (I<|L k)<|Yo .u64 ws):
  MvI B w w' bh br b8 bf bt bw f t h src x base words (λj=>if j=k then ws else L j):=by
 have A:B<=xz (xj wr):=ZhD m.le.1<|Zlt<|Y2 m.hb;have p:∀c O,wr.heap[c]?=J O->(∀d,(x k).ownBlock=J d->d≠c)->w'.heap[c]?=J O:=λc O n C=>(u.block c (Y2 n) (by rw[<-g];intro e;exact C c e.symm rfl)).trans n;refine⟨m.below.grown u A (λr F=>((m.own k l).lt r (by rw[g];exact F)).1),m.le,p _ _ m.hb λd a=>(m.aj k l d a).1,p _ _ m.rb λd a=>(m.aj k l d a).2.1,p _ _ m.nb λd a=>(m.aj k l d a).2.2.1,p _ _ m.fb λd a=>(m.aj k l d a).2.2.2.1,p _ _ m.tb λd a=>(m.aj k l d a).2.2.2.2.1,p _ _ m.wb λd a=>(m.aj k l d a).2.2.2.2.2,?_,?_,m.apart,m.aj⟩;intro j o;by_cases e:j=k;subst e;simp only[Zhi];rw[z];exact m.len j o;rw[Zhg e];exact m.len j o;intro j o;by_cases e:j=k;subst e;simp only[Zhi];rw[z];exact D;rw[Zhg e];refine Xs (m.own j o) λc n=>u.block c ((m.own j o).lt c n).2 ?_;rw[<-g];intro y;obtain q|q:=Zjl e;exact m.apart j k q l c n y.symm;exact m.apart k j q o c y.symm n
def MvI.congr(m:MvI B w wr bh br b8 bf bt bw f t h src x base words L){d:Nat->List Int}(e:∀j,j<5->d j=L j):MvI B w wr bh br b8 bf bt bw f t h src x base words d:=
 ⟨m.below,m.le,m.hb,m.rb,m.nb,m.fb,m.tb,m.wb,λj a=>by rw[e j a];exact m.len j a,λj a=>by rw[e j a];exact m.own j a,m.apart,m.aj⟩
def MvI.rd(m:MvI B w wr bh br b8 bf bt bw f t h src x base words L){G:Z4}(a:∀b,G b->b<B)(k:∀j,j<5->Rd w G (.sl<|(Zw h j).map vu) (src j)):∀j,j<5->Rd wr G (.sl<|(Zw h j).map vu) (src j):=
 λj g=>(k j g).keep (λb d=>m.below.block b<|a b d) λ_ q=>q
end
end
section
def Qp(a:Act)(d f g h j k:Nat)(v1 v2 v3 v4 v5 v6:Zg):Act:=D3 a [(d,v1),(f,v2),(g,v3),(h,v4),(j,v5),(k,v6)]
def Z9e{P:Z5}{ops:Zm}{Q:Zk}{id:Nat}{d:Act}{w0:Z3}(g h k l n p:Nat)(C:(Nat->Bool)->Value->Value->Value->Value->Value->Value->World->Prop)
  (A:P.follows .mixedOrders=xk) (f:C7 ops=xk) (t:∃v1 v2 v3 v4 v5 v6,d=Qp d g h k l n p v1 v2 v3 v4 v5 v6/\C (λ_=>xw) v1 v2 v3 v4 v5 v6 {w0 with drawn:=w0.drawn+1})
  (r:∀(L:Nat->Bool) (i:Nat) (o:Oper) (v1 v2 v3 v4 v5 v6:Zg) (w:Z3),ops[i]?=J o->L i=xw->(∀j∈U7 o,L j=xk)->C L v1 v2 v3 v4 v5 v6 w->
   wpList P ops (QN (λa w=>∃v1 v2 v3 v4 v5 v6,a=Qp d g h k l n p v1 v2 v3 v4 v5 v6/\C (add L i) v1 v2 v3 v4 v5 v6 w) Q) [o] (Qp d g h k l n p v1 v2 v3 v4 v5 v6) w)
  (x:∀(L:Nat->Bool) (v1 v2 v3 v4 v5 v6:Zg) (w:Z3),(∀i,i<ops.size->L i=xk)->C L v1 v2 v3 v4 v5 v6 w->Q .normal (Qp d g h k l n p v1 v2 v3 v4 v5 v6) w):(Code.region id ops xk).wp P Q d w0:=by
 refine Z9c A (Z7z f) (λL a w=>∃v1 v2 v3 v4 v5 v6,a=Qp d g h k l n p v1 v2 v3 v4 v5 v6/\C L v1 v2 v3 v4 v5 v6 w) t ?_ ?_;rintro L i o _ w B y z ⟨v1,v2,v3,v4,v5,v6,rfl,q⟩;exact r L i o v1 v2 v3 v4 v5 v6 w B y z q;rintro L _ w u ⟨v1,v2,v3,v4,v5,v6,rfl,q⟩;exact x L v1 v2 v3 v4 v5 v6 w u q
def Z7:Array Value:=#[.int .u64 0,.int .i64 0,.int .i64 0,.int .i64 0,.int .i64 0,.int .i64 0,.int .i64 0]
structure RegC (WQ:World) (hA nA:Value) (f t:Ly) (T:TypeId) (L:Nat->Bool) (v0 v1 v2 v3 v4 v5:Value) (w:World):Prop where
 b:Below (xz<|xj WQ) WQ w
 s0:L 0=xk->v0=hA
 s1:L 1=xk->v1=Wk f
 s2:L 2=xk->v2=nA
 s3:L 3=xk->v3=Wk t
 s4:L 4=xk->∃c,v4=.pointer (J ⟨c,0,U⟩)/\xz (xj WQ)<=c/\w.heap[c]?=J (.cells (if L 6=xk then UB f else Z7) T (0,0))
 s5:L 5=xk->∃c,v5=.pointer (J ⟨c,0,U⟩)/\xz (xj WQ)<=c/\w.heap[c]?=J (.cells (if L 7=xk then UB t else Z7) T (0,0))
 ne:L 4=xk->L 5=xk->v4≠v5
 c6:L 6=xk->L 4=xk
 c7:L 7=xk->L 5=xk
section
variable {WQ:Z3}{hA nA:Zg}{f t:Ly}{T:Zh}{L:Nat->Bool}{v0 v1 v2 v3 v4 v5:Zg}{w:Z3}
def RegC.wh(C:RegC WQ hA nA f t T L v0 v1 v2 v3 v4 v5 w):RegC WQ hA nA f t T (add L 0) hA v1 v2 v3 v4 v5 w:=by
 obtain⟨b,d,g,h,k,l,n,ne,c6,a⟩:=C;constructor<;>(try simp only[SB,Ya (L:=L) (i:=0) (j:=1) Zgm,Ya (L:=L) (i:=0) (j:=2) Zgm,Ya (L:=L) (i:=0) (j:=3) Zgm,Ya (L:=L) (i:=0) (j:=4) Zgm,Ya (L:=L) (i:=0) (j:=5) Zgm,Ya (L:=L) (i:=0) (j:=6) Zgm,Ya (L:=L) (i:=0) (j:=7) Zgm])<;>first|assumption|exactλ_=>by assumption|exactλ_=>trivial|exactλ_=>trivial|exactλ_=>rfl
def RegC.wk(C:RegC WQ hA nA f t T L v0 v1 v2 v3 v4 v5 w):RegC WQ hA nA f t T (add L 2) v0 v1 nA v3 v4 v5 w:=by
 obtain⟨b,d,g,h,k,l,n,ne,c6,a⟩:=C;constructor<;>(try simp only[SB,Ya (L:=L) (i:=2) (j:=1) Zgm,Ya (L:=L) (i:=2) (j:=0) Zgm,Ya (L:=L) (i:=2) (j:=3) Zgm,Ya (L:=L) (i:=2) (j:=4) Zgm,Ya (L:=L) (i:=2) (j:=5) Zgm,Ya (L:=L) (i:=2) (j:=6) Zgm,Ya (L:=L) (i:=2) (j:=7) Zgm])<;>first|assumption|exactλ_=>by assumption|exactλ_=>trivial|exactλ_=>trivial|exactλ_=>rfl
def RegC.lq(C:RegC WQ hA nA f t T L v0 v1 v2 v3 v4 v5 w){w':Z3}(j:Below (xz<|xj w) w w'):RegC WQ hA nA f t T L v0 v1 v2 v3 v4 v5 w':=
 ⟨C.b.trans<|j.mono C.b.size,C.s0,C.s1,C.s2,C.s3,λh=>by obtain⟨c,d,g,a⟩:=C.s4 h;exact⟨c,d,g,(j.block c<|Y2 a).trans a⟩,λh=>by obtain⟨c,d,g,a⟩:=C.s5 h;exact⟨c,d,g,(j.block c<|Y2 a).trans a⟩,C.ne,C.c6,C.c7⟩
def RegC.wj(C:RegC WQ hA nA f t T L v0 v1 v2 v3 v4 v5 w){w':Z3}(a:Below (xz<|xj w) w w'):RegC WQ hA nA f t T (add L 1) v0 (Wk f) v2 v3 v4 v5 w':=by
 obtain⟨b,g,h,k,l,n,o,ne,c6,d⟩:=C.lq a;constructor<;>(try simp only[SB,Ya (L:=L) (i:=1) (j:=0) Zgm,Ya (L:=L) (i:=1) (j:=2) Zgm,Ya (L:=L) (i:=1) (j:=3) Zgm,Ya (L:=L) (i:=1) (j:=4) Zgm,Ya (L:=L) (i:=1) (j:=5) Zgm,Ya (L:=L) (i:=1) (j:=6) Zgm,Ya (L:=L) (i:=1) (j:=7) Zgm])<;>first|assumption|exactλ_=>by assumption|exactλ_=>trivial|exactλ_=>trivial|exactλ_=>rfl
def RegC.wm(C:RegC WQ hA nA f t T L v0 v1 v2 v3 v4 v5 w){w':Z3}(a:Below (xz<|xj w) w w'):RegC WQ hA nA f t T (add L 3) v0 v1 v2 (Wk t) v4 v5 w':=by
 obtain⟨b,g,h,k,l,n,o,ne,c6,d⟩:=C.lq a;constructor<;>(try simp only[SB,Ya (L:=L) (i:=3) (j:=0) Zgm,Ya (L:=L) (i:=3) (j:=2) Zgm,Ya (L:=L) (i:=3) (j:=1) Zgm,Ya (L:=L) (i:=3) (j:=4) Zgm,Ya (L:=L) (i:=3) (j:=5) Zgm,Ya (L:=L) (i:=3) (j:=6) Zgm,Ya (L:=L) (i:=3) (j:=7) Zgm])<;>first|assumption|exactλ_=>by assumption|exactλ_=>trivial|exactλ_=>trivial|exactλ_=>rfl
def RegC.wn(C:RegC WQ hA nA f t T L v0 v1 v2 v3 v4 v5 w)(g:L 6=xw):RegC WQ hA nA f t T (add L 4) v0 v1 v2 v3 (.pointer<|J ⟨xz<|xj w,0,U⟩) v5<|w.alloc<|.cells Z7 T:=by
 have k:L 5=xk->Value.pointer (J ⟨xz<|xj w,0,U⟩)≠v5:=λh e=>by
  obtain⟨c,a,_,d⟩:=C.s5 h;rw[a]at e;have:=Y2 d;simp only[Value.pointer.injEq,Zh7,Addr.mk.injEq,and_true]at e;omega
 have l:=C.b.size;obtain⟨b,o,p,q,r,u,x,ne,c6,n⟩:=C.lq<|(Zhw _ w).alloc (Zhc _)<|.cells Z7 T;constructor<;>(try simp only[SB,Ya (L:=L) (i:=4) (j:=0) Zgm,Ya (L:=L) (i:=4) (j:=2) Zgm,Ya (L:=L) (i:=4) (j:=1) Zgm,Ya (L:=L) (i:=4) (j:=3) Zgm,Ya (L:=L) (i:=4) (j:=5) Zgm,Ya (L:=L) (i:=4) (j:=6) Zgm,Ya (L:=L) (i:=4) (j:=7) Zgm])<;>first|assumption|exactλ_=>by assumption|exactλ_=>trivial|exactλ_=>k|exactλ_=>⟨_,rfl,l,by rw[g];exact ZhB w _⟩
def RegC.wo(C:RegC WQ hA nA f t T L v0 v1 v2 v3 v4 v5 w)(g:L 7=xw):RegC WQ hA nA f t T (add L 5) v0 v1 v2 v3 v4 (.pointer<|J ⟨xz<|xj w,0,U⟩)<|w.alloc<|.cells Z7 T:=by
 have k:L 4=xk->v4≠Value.pointer (J ⟨xz<|xj w,0,U⟩):=λh e=>by
  obtain⟨c,a,_,d⟩:=C.s4 h;rw[a]at e;have:=Y2 d;simp only[Value.pointer.injEq,Zh7,Addr.mk.injEq,and_true]at e;omega
 have l:=C.b.size;obtain⟨b,o,p,q,r,u,x,ne,c6,n⟩:=C.lq<|(Zhw _ w).alloc (Zhc _)<|.cells Z7 T;constructor<;>(try simp only[SB,Ya (L:=L) (i:=5) (j:=0) Zgm,Ya (L:=L) (i:=5) (j:=2) Zgm,Ya (L:=L) (i:=5) (j:=1) Zgm,Ya (L:=L) (i:=5) (j:=3) Zgm,Ya (L:=L) (i:=5) (j:=4) Zgm,Ya (L:=L) (i:=5) (j:=6) Zgm,Ya (L:=L) (i:=5) (j:=7) Zgm])<;>first|assumption|exactλ_=>by assumption|exactλ_=>trivial|exactλh _=>k h|exactλ_=>⟨_,rfl,l,by rw[g];exact ZhB w _⟩
def Te(w:Z3)(b:Nat)(l:Ly):World:=((((((w.setCell ⟨b,0,U⟩<|.int .u64 l.base).setCell ⟨b,1,U⟩<|.int .i64 l.cap).setCell ⟨b,2,U⟩<|.int .i64 l.to).setCell ⟨b,3,U⟩<|.int .i64 l.H).setCell ⟨b,4,U⟩<|.int .i64 l.ae).setCell ⟨b,5,U⟩<|.int .i64 l.ah).setCell ⟨b,6,U⟩<|.int .i64 l.aj
def On{b:Nat}{l:Ly}(a:w.heap[b]?=J (.cells Z7 T (0,0))):(Te w b l).heap[b]?=J (.cells (UB l) T (0,0)):=by
 unfold Z7 at a;simp[Te,UB,World.setCell,ZhT,a]
def Oo{b c:Nat}{l:Ly}(hc:c≠b):(Te w b l).heap[c]?=w.heap[c]? :=by
 have:¬b=c:=λe=>hc e.symm;simp[Te,World.setCell,ZhT,this]
def Om{B b:Nat}{l:Ly}(h:Below B WQ w)(a:B<=b):Below B WQ<|Te w b l:=
 ((((((h.setCell a _).setCell a _).setCell a _).setCell a _).setCell a _).setCell a _).setCell a _
def RegC.wq(C:RegC WQ hA nA f t T L v0 v1 v2 v3 v4 v5 w)(n:L 4=xk)(q:L 6=xw){c:Nat}(hc:v4=.pointer (J ⟨c,0,U⟩)):RegC WQ hA nA f t T (add L 6) v0 v1 v2 v3 v4 v5<|Te w c f:=by
 obtain⟨b,A,B,D,F,r,u,ne,c6,x⟩:=C;obtain⟨o,a,g,k⟩:=r n;rw[hc]at a;obtain rfl:c=o:=ZgS;rw[q]at k;have z:L 4=xk->∃d,v4=.pointer (J ⟨d,0,U⟩)/\xz (xj WQ)<=d/\(Te w c f).heap[d]?=J (.cells (UB f) T (0,0)):=λ_=>⟨c,hc,g,On k⟩;have r5:L 5=xk->∃d,v5=.pointer (J ⟨d,0,U⟩)/\xz (xj WQ)<=d/\(Te w c f).heap[d]?=J (.cells (if L 7=xk then UB t else Z7) T (0,0)):=λh=>by
  obtain⟨d,g1,g2,p⟩:=u h;refine⟨d,g1,g2,(Oo ?_).trans p⟩;rintro rfl;exact ne n h<|hc.trans g1.symm
 have y:=Om (l:=f) b g;constructor<;>(try simp only[SB,Zi9,Ya (L:=L) (i:=6) (j:=0) Zgm,Ya (L:=L) (i:=6) (j:=2) Zgm,Ya (L:=L) (i:=6) (j:=1) Zgm,Ya (L:=L) (i:=6) (j:=3) Zgm,Ya (L:=L) (i:=6) (j:=4) Zgm,Ya (L:=L) (i:=6) (j:=5) Zgm,Ya (L:=L) (i:=6) (j:=7) Zgm])<;>first|assumption|exactλ_=>by assumption|exactλ_=>trivial
def RegC.wu(C:RegC WQ hA nA f t T L v0 v1 v2 v3 v4 v5 w)(n:L 5=xk)(q:L 7=xw){c:Nat}(hc:v5=.pointer (J ⟨c,0,U⟩)):RegC WQ hA nA f t T (add L 7) v0 v1 v2 v3 v4 v5<|Te w c t:=by
 obtain⟨b,A,B,D,F,r,u,ne,c6,x⟩:=C;obtain⟨o,a,g,k⟩:=u n;rw[hc]at a;obtain rfl:c=o:=ZgS;rw[q]at k;have r5:L 5=xk->∃d,v5=.pointer (J ⟨d,0,U⟩)/\xz (xj WQ)<=d/\(Te w c t).heap[d]?=J (.cells (UB t) T (0,0)):=λ_=>⟨c,hc,g,On k⟩;have z:L 4=xk->∃d,v4=.pointer (J ⟨d,0,U⟩)/\xz (xj WQ)<=d/\(Te w c t).heap[d]?=J (.cells (if L 6=xk then UB f else Z7) T (0,0)):=λh=>by
  obtain⟨d,g1,g2,p⟩:=r h;refine⟨d,g1,g2,(Oo ?_).trans p⟩;rintro rfl;exact ne h n<|g1.trans hc.symm
 have y:=Om (l:=t) b g;constructor<;>(try simp only[SB,Zi9,Ya (L:=L) (i:=7) (j:=0) Zgm,Ya (L:=L) (i:=7) (j:=2) Zgm,Ya (L:=L) (i:=7) (j:=1) Zgm,Ya (L:=L) (i:=7) (j:=3) Zgm,Ya (L:=L) (i:=7) (j:=4) Zgm,Ya (L:=L) (i:=7) (j:=5) Zgm,Ya (L:=L) (i:=7) (j:=6) Zgm])<;>first|assumption|exactλ_=>by assumption|exactλ_=>trivial
end
end
section
section
variable {B:Nat}{w wr:Z3}{bh br b8 bf bt bw:Nat}{f t:Ly}{h:Hp}{src x:Z9}{base words:Int}{L:Nat->List Int}
theorem MvI.kept(m:MvI B w wr bh br b8 bf bt bw f t h src x base words L){w':Z3}(d:Below (xz<|xj wr) wr w'){k:Nat}{ws:Z6}(e:ws=L k):MvI B w w' bh br b8 bf bt bw f t h src x base words (λj=>if j=k then ws else L j):=
 (m.keep d).congr λj _=>by
  by_cases a:j=k;rw[Zhi a,e,a];rw[Zhg a]
def MvI.om(m:MvI B w wr bh br b8 bf bt bw f t h src x base words L)(F:f.an)(H:t.an){k:Nat}(n:k<5)(K:∀v∈L k,ZB v)(d:I (L k)<=1000000)(M:∀v∈L k,(Yl f t v).2=0):
  Calls xP 20 #[x k,.pointer<|J ⟨bf,0,U⟩,.pointer<|J ⟨bt,0,U⟩,.pointer<|J ⟨bw,0,U⟩] wr λe r=>
   e=.returned (.tuple #[])/\MvI B w r bh br b8 bf bt bw f t h src x base words (λj=>if j=k then X0 f t (L k) (L k) 0 (I<|L k) else L j):=by
 have o:=m.own k n;have a:=m.aj k n;obtain⟨l,C⟩|⟨g,cap,u,l,_⟩:=o.2;rw[l];refine(M6 wr U 0 _ _ _).mono ?_;rintro e r ⟨rfl,D⟩;exact⟨rfl,m.kept D (by rw[C];rfl)⟩;rw[l]at o a⊢;obtain⟨N,O,P,y,z,A⟩:=a g rfl;have:=Ma wr F H K d (lo:=0) (m:=I<|L k) Z0 o m.fb m.tb m.wb (ZiX y) (ZiX z) (ZiX A) (λj Q v q=>M v<|Zhh q);rw[Nat.sub_zero]at this;refine this.mono ?_;rintro e r ⟨rfl,G,p⟩;exact⟨rfl,m.ls n Z1 (by rw[l];rfl) G (by rw[l];exact p)⟩
def MvI.gy(m:MvI B w wr bh br b8 bf bt bw f t h src x base words L)(H:f.an)(N:t.an){k:Nat}(p:k<5)(O:∀v∈L k,ZB v)(l:I (L k)<=1000000){g cap n:Nat}(M:n=I (L k))(r:x k=.slice (J ⟨g,0,U⟩) n cap){lo mm:Nat}(K:lo+mm<=n)
  (P:∀j,j<mm->∀v,(L k)[lo+j]?=J v->(Yl f t v).2=0) {a:Option Addr} (G:mm≠0->a=J ⟨g,lo,U⟩):
  Calls xP 20 #[.slice a mm<|cap-lo,.pointer<|J ⟨bf,0,U⟩,.pointer<|J ⟨bt,0,U⟩,.pointer<|J ⟨bw,0,U⟩] wr λe o=>
   e=.returned (.tuple #[])/\MvI B w o bh br b8 bf bt bw f t h src x base words (λj=>if j=k then X0 f t (L k) (L k) lo mm else L j)/\wr.grownBy o (J g):=by
 have A:=m.own k p;have d:=m.aj k p;subst M;rw[r]at A d;obtain⟨Q,R,S,C,D,F⟩:=d g rfl;by_cases u:mm=0;subst u;refine(M6 wr a (cap-lo) _ _ _).mono ?_;rintro e o ⟨rfl,y⟩;exact⟨rfl,m.kept y rfl,V3 y _⟩;rw[G u];refine(Ma wr H N O l (lo:=lo) (m:=mm) K A m.fb m.tb m.wb (ZiX C) (ZiX D) (ZiX F) P).mono ?_;rintro e o ⟨rfl,z,q⟩;exact⟨rfl,m.ls p Z1 (by rw[r];rfl) z (by rw[r];exact q),z⟩
end
def SA(w:Z3)(r:Hp×Int)(e:Ending)(w':Z3):Prop:=
 ∃x,e=.returned (.tuple #[ZJ r.1 x,.int .i64 r.2])/\Below (xz<|xj w) w w'/\∀j,j<5->Rd w' (λc=>xz (xj w)<=c/\c<xz (xj w')) (.sl<|(Zw r.1 j).map vu) (x j)
end
def Sz(f t:Ly)(h:Hp)(p:Pts)(k:Nat):Nat->List Int:=λj=>if j=4 then X0 f t h.E h.E 0 (I h.E) else if j<k then Vz f t (Zw h j) (p.at ((j+1:Nat):Int))else Zw h j
def Wd(f t:Ly)(h:Hp)(p:Pts)(k i:Nat):Nat->List Int:=λj=>if j=k then((p.at ((k+1:Nat):Int)).take i).foldl (XF f t<|Zw h k) (Zw h k)else Sz f t h p k j
def Z0P{f t:Ly}{h:Hp}{p:Pts}{k:Nat}(a:k<4)(j:Nat):Wd f t h p k 0 j=Sz f t h p k j:=by
 unfold Wd Sz;by_cases e:j=k;subst e;rw[Zhi rfl,Zhg Z0,Zhg Z0];rfl;rw[Zhg e]
def Z0Q{f t:Ly}{h:Hp}{p:Pts}{k:Nat}(g:k<4)(j:Nat):Wd f t h p k (I<|p.at ((k+1:Nat):Int)) j=Sz f t h p (k+1) j:=by
 unfold Wd Sz;by_cases e:j=k;subst e;rw[Zhi rfl,Zhg Z0,Zhi Z0,Ziy];rfl;rw[Zhg e];by_cases a:j=4;rw[Zhi a,Zhi a];rw[Zhg a,Zhg a];by_cases d:j<k;rw[Zhi d,Zhi Z0];rw[Zhg d,Zhg Z0]
def jW{f t:Ly}{h:Hp}{p:Pts}{k i:Nat}{o:Ob}(a:(p.at ((k+1:Nat):Int))[i]?=J o){ws:Z6}(d:ws=XF f t (Zw h k) (Wd f t h p k i k) o)(j:Nat):Wd f t h p k (i+1) j=if j=k then ws else Wd f t h p k i j:=by
 by_cases e:j=k;subst e;rw[Zhi rfl,d];unfold Wd;rw[Zhi rfl,Zhi rfl,Zi3,a,Option.toList_some,List.foldl_append];rfl;rw[Zhg e];unfold Wd;rw[Zhg e,Zhg e]
def Z0R{f t:Ly}{h:Hp}(a:h.ok){p:Pts}{k i:Nat}(g:k<4):(∀v∈Wd f t h p k i k,ZB v)/\I (Wd f t h p k i k)<=1000000:=by
 unfold Wd;rw[Zhi rfl];have d:(∀v∈Zw h k,ZB v)/\I (Zw h k)<=1000000:=by
  have:k=0\/k=1\/k=2\/k=3:=Z0;obtain rfl|rfl|rfl|rfl:=this;exact Xf a 1;exact Xf a 2;exact Xf a 3;exact Xf a 4
 exact⟨Le d.1,by rw[Mf];exact d.2⟩
def Z0Y(w:Z3)(G:Z4)(hG:∀b,G b->b<xz (xj w))(h:Hp)(hh:h.ok)(d:Z9)(hs:∀j,j<5->Rd w G (.sl<|(Zw h j).map vu) (d j))(base words:Int)(l3:¬base=0)(m2:¬words<0)(m3:¬4096<words)(m4:¬words<h.cap)(d8:¬9223372036854775808-2*words<base)
  {p:Pts} (r:Rt h p) {f t:Ly} (hf:f=Zv h) (ht:t=Zv {h with base:=base,cap:=words}) (e5:t.an) (k5:∀v∈h.E,(Yl f t v).2=0) (k2:X0 f t h.E h.E 0 (I h.E)=h.E.map λw=>(Yl f t w).1)
  (k4:∀k,k<4->∀(i:Nat) (o:Ob),(p.at ((k+1:Nat):Int))[i]?=J o->∀out,out=((p.at ((k+1:Nat):Int)).take i).foldl (XF f t<|Zw h k) (Zw h k)->∃a s m:Nat,o.Y=a/\o.size=s/\o.M=m/\a+(s+1)<=I (Zw h k)/\s<=255/\m<=s/\
   (o.gone=xk->X0 f t out out a 1=XF f t (Zw h k) out o/\∀x,out[a]?=J x->(Yl f t x).2=0)/\(o.gone=xw->X0 f t out out (a+1) m=XF f t (Zw h k) out o/\∀j,j<m->∀x,out[a+1+j]?=J x->(Yl f t x).2=0)):
  Calls xP 7 #[ZJ h d,.int .u64 base,.int .i64 words] w (SA w (Xx h p base words,0)):=by
 have w1:=ZP words Z0 Z0;have w2:=ZP (2*words) Z0 Z0;have w3:=ZP (9223372036854775808-2*words) Z0 Z0;have hR:∀W,Below (xz<|xj w) w W->Calls xP 10 #[ZJ h d] W λe w'=>e=.returned (.bool xk)/\Below (xz<|xj W) W w':=λW hb=>by
  have:=ji (w:=W) (G:=G) (x:=d) hh (λb l=>Zhj (hG b l) hb.size) (λj F=>(hs j F).keep (λb l=>hb.block b<|hG b l) λ_ q=>q);rw[r.right]at this;exact this
 have hO:∀W,Below (xz<|xj w) w W->Calls xP 18 #[ZJ h d] W (EA W h):=λW hb=>
  EJ W G (λb l=>Zhj (hG b l) hb.size) h hh d (λj F=>(hs j F).keep (λb l=>hb.block b<|hG b l) λ_ q=>q)
 have HR:=Zhf hR;have HO:=Zhf hO;have HS:=Zhf hs;have HH:=Zhf hh;have i5:=Zhf r;have HB:=Zhf k4;have HF:=Zhf hf;have HT:=Zhf ht;have HZ:=Zhf k5;have HM:=Zhf k2;have e0:(base==0)=xw:=by simpa using l3
 have e1:(words<0)=False:=ZiM m2;have e2:(4096<words)=False:=ZiM m3;have e3:(words<h.cap)=False:=ZiM m4;have e4:(9223372036854775808-2*words<base)=False:=ZiM d8;clear hR hO hs hh r k4 hf ht k5 k2;unfold ZJ;go_enter RE,Tryz.ntmps7
 go_upto_region 9 with (first
  | (go_at_call 10;refine(HR.out _ ?_).mono ?_;rotate_left;rintro e wa ⟨rfl,d7⟩
     have bA:wa.heap[xz<|xj w]?=J (.cells #[.int .u64 h.base,.int .i64 h.cap,.int .i64 h.to,.bool h.aa,.int .i64 h.Z,d 0,d 1,d 2,d 3,d 4] 30 (0,0)):=(d7.block _ Zge).trans<|(Zht _ _ _ Z1).trans<|ZhB w _;have bZ:wa.heap[xz (xj w)+1]?=J (.cells Y9 30 (0,0)):=(d7.block _ Z1).trans<|QE w _;have ya:∀j,wa.cell? ⟨xz<|xj w,j,U⟩=(#[.int .u64 h.base,.int .i64 h.cap,.int .i64 h.to,.bool h.aa,.int .i64 h.Z,d 0,d 1,d 2,d 3,d 4]:Array Value)[j]? :=λj=>Zhl _ _ _ _ _ _ bA;have e8:=Zhf d7;have i4:=Zhf<|And.intro bA bZ;clear d7 bA bZ)
  | (go_at_call 18;refine(HO.out _ ?_).mono ?_;rotate_left;rintro e R ⟨x,rfl,d8,A⟩
     have b6:=Zhf d8;have c8:=Zhf A;obtain⟨a0,q0,E0⟩:=YW<|A.own 0 Z0;obtain⟨a1,q1,E1⟩:=YW<|A.own 1 Z0;obtain⟨a2,q2,E2⟩:=YW<|A.own 2 Z0;obtain⟨a3,q3,E3⟩:=YW<|A.own 3 Z0;obtain⟨a4,q4,E4⟩:=YW<|A.own 4 Z0;unfold ZJ;rw[E0,E1,E2,E3,E4];have z:=Zhf<|And.intro E0<|And.intro E1<|And.intro E2<|And.intro E3 E4;clear d8 A E0 E1 E2 E3 E4))
 case refine_1=>exact(ZkV (((Zhw _ w).alloc (Zhc _) _).alloc Z1 _)<|e8.out.mono Zge)
 case refine_1=>exact((Zhw _ w).alloc (Zhc _) _).alloc Z1 _
 have j5:Below (xz<|xj w) w wa:=ZkV (((Zhw _ w).alloc (Zhc _) _).alloc Z1 _)<|e8.out.mono Zge;have o4:xz (xj w)+2<=xz (xj wa):=by have:=e8.out.size;simp at this;omega
 have o5:xz (xj wa)<=xz (xj R):=b6.out.size;have f6:Below (xz<|xj w) w R:=j5.trans<|b6.out.mono Z0;have bH:R.heap[xz<|xj w]?=J (.cells #[.int .u64 h.base,.int .i64 h.cap,.int .i64 h.to,.bool h.aa,.int .i64 h.Z,d 0,d 1,d 2,d 3,d 4] 30 (0,0)):=(b6.out.block _ Z0).trans i4.out.1;have bR:R.heap[xz (xj w)+1]?=J (.cells Y9 30 (0,0)):=(b6.out.block _ Z0).trans i4.out.2;obtain⟨WQ,H⟩:∃W,W=R.alloc (.cells #[.int .u64 base,.int .i64 words,.int .i64 h.to,.bool h.aa,.int .i64 h.Z,.slice a0 (I<|Zw h 0) q0,.slice a1 (I<|Zw h 1) q1,.slice a2 (I<|Zw h 2) q2,.slice a3 (I<|Zw h 3) q3,.slice a4 (I<|Zw h 4) q4] 30):=⟨_,rfl⟩;rw[<-H];have hq:Below (xz<|xj R) R WQ:=by rw[H];exact(Zhw _ _).alloc (Zhc _) _
 have o3:xz (xj WQ)=xz (xj R)+1:=by rw[H];simp
 have bN:WQ.heap[xz<|xj R]?=J (.cells #[.int .u64 base,.int .i64 words,.int .i64 h.to,.bool h.aa,.int .i64 h.Z,x 0,x 1,x 2,x 3,x 4] 30 (0,0)):=by
  rw[H,z.out.1,z.out.2.1,z.out.2.2.1,z.out.2.2.2.1,z.out.2.2.2.2];exact ZhB R _
 have b3:Below (xz<|xj w) w WQ:=f6.trans<|hq.mono Z0;have f3:=(hq.block _ Z0).trans bH;have i6:=(hq.block _ Z0).trans bR;have i8:∀W,Below (xz<|xj WQ) WQ W->Calls xP 19 #[ZJ h d] W λe w'=>e=.returned (Wk f)/\Below (xz<|xj W) W w':=λW hb=>by
  have:=Ke (w:=W) (G:=G) (h:=h) (x:=d) (λb l=>Zhj (hG b l)<|ZhD b3.size hb.size) (λj F=>(HS.out j F).keep (λb l=>(hb.block b<|Zhj (hG b l) b3.size).trans<|b3.block b<|hG b l) λ_ q=>q);rw[<-HF.out]at this;exact this
 have f5:∀W,Below (xz<|xj WQ) WQ W->Calls xP 19 #[.agg #[.int .u64 base,.int .i64 words,.int .i64 h.to,.bool h.aa,.int .i64 h.Z,x 0,x 1,x 2,x 3,x 4]] W λe w'=>e=.returned (Wk t)/\Below (xz<|xj W) W w':=λW hb=>by
  have:=Ke (w:=W) (G:=λb=>b<xz (xj W)) (h:= {h with base:=base,cap:=words}) (x:=x) (λb l=>l) (λj F=>(qG (c8.out.own j F) (G:=λb=>b<xz (xj R))<|λc _ h=>h).keep (λb l=>(hb.block b Z0).trans<|hq.block b l) λb q=>by have:=hb.size;omega);rw[<-HT.out]at this;exact this
 rw[z.out.1,z.out.2.1,z.out.2.2.1,z.out.2.2.2.1,z.out.2.2.2.2]at f5;have yb:∀j,WQ.cell? ⟨xz<|xj w,j,U⟩=(#[.int .u64 h.base,.int .i64 h.cap,.int .i64 h.to,.bool h.aa,.int .i64 h.Z,d 0,d 1,d 2,d 3,d 4]:Array Value)[j]? :=λj=>Zhl _ _ _ _ _ _ f3;have yn:∀j,WQ.cell? ⟨xz<|xj R,j,U⟩=(#[.int .u64 base,.int .i64 words,.int .i64 h.to,.bool h.aa,.int .i64 h.Z,.slice a0 (I<|Zw h 0) q0,.slice a1 (I<|Zw h 1) q1,.slice a2 (I<|Zw h 2) q2,.slice a3 (I<|Zw h 3) q3,.slice a4 (I<|Zw h 4) q4]:Array Value)[j]? :=λj=>by
  rw[Zhl _ _ _ _ _ _ bN,z.out.1,z.out.2.1,z.out.2.2.1,z.out.2.2.2.1,z.out.2.2.2.2]
 have i2:=Zhf i8;have i3:=Zhf f5;have HX:=Zhf<|And.intro H<|And.intro bN<|And.intro f3<|And.intro i6<|And.intro f6<|And.intro b3 hq;clear i8 f5 j5 f6 bH bR bN b3 f3 i6 H hq;refine Z9e 54 55 56 57 9 10 (RegC WQ (ZJ h d) (.agg #[.int .u64 base,.int .i64 words,.int .i64 h.to,.bool h.aa,.int .i64 h.Z,.slice a0 (I<|Zw h 0) q0,.slice a1 (I<|Zw h 1) q1,.slice a2 (I<|Zw h 2) q2,.slice a3 (I<|Zw h 3) q3,.slice a4 (I<|Zw h 4) q4]) f t 52) follows Z2 ⟨xy,xy,xy,xy,xy,xy,Zh2,?_⟩ ?_ ?_;exact⟨(Zhw _ _).drew,λh=>Zgt,λh=>Zgt,λh=>Zgt,λh=>Zgt,λh=>Zgt,λh=>Zgt,λh=>Zgt,λh=>Zgt,λh=>Zgt⟩
 .intro L i o v1 v2 v3 v4 v5 v6 W ho hi F C;have K:=Zhf C;have hz:xz (xj WQ)<=xz (xj W):=C.b.size;have zb:∀j,W.cell? ⟨xz<|xj w,j,U⟩=(#[.int .u64 h.base,.int .i64 h.cap,.int .i64 h.to,.bool h.aa,.int .i64 h.Z,d 0,d 1,d 2,d 3,d 4]:Array Value)[j]? :=λj=>(C.b.cell (p:=⟨xz<|xj w,j,U⟩) (by show xz (xj w)<xz (xj WQ);omega)).trans<|yb j;have zn:∀j,W.cell? ⟨xz<|xj R,j,U⟩=(#[.int .u64 base,.int .i64 words,.int .i64 h.to,.bool h.aa,.int .i64 h.Z,.slice a0 (I<|Zw h 0) q0,.slice a1 (I<|Zw h 1) q1,.slice a2 (I<|Zw h 2) q2,.slice a3 (I<|Zw h 3) q3,.slice a4 (I<|Zw h 4) q4]:Array Value)[j]? :=λj=>(C.b.cell (p:=⟨xz<|xj R,j,U⟩) (by show xz (xj R)<xz (xj WQ);omega)).trans<|yn j;clear C;have h8:i<8:=(Zhe.1 ho).1;simp only[Qp,D3,ZiP,List.foldl_nil,ZkE,List.set_cons_succ,ZkK];have:i=0\/i=1\/i=2\/i=3\/i=4\/i=5\/i=6\/i=7:=Z0;obtain rfl|rfl|rfl|rfl|rfl|rfl|rfl|rfl:=this
  .cases ho;go_wp2;simp only[QN];exact⟨_,v2,v3,v4,v5,v6,rfl,K.out.wh⟩
  .cases ho;have e1:=K.out.s0<|F 0 Zgm;subst e1;unfold ZJ;go_wp2_with (go_at_call 19;refine(i2.out _ K.out.b).mono ?_;rintro e wl ⟨rfl,b4⟩;have e9:=Zhf b4;unfold Wk;clear b4)
   simp only[QN];exact⟨_,_,v3,v4,v5,v6,rfl,K.out.wj e9.out⟩
  .cases ho;go_wp2;simp only[QN];exact⟨v1,v2,_,v4,v5,v6,rfl,K.out.wk⟩
  .cases ho;have e1:=K.out.s2<|F 2 Zgm;subst e1;unfold ZJ;go_wp2_with (go_at_call 19;refine(i3.out _ K.out.b).mono ?_;rintro e wl ⟨rfl,b4⟩;have e9:=Zhf b4;unfold Wk;clear b4)
   simp only[QN];exact⟨v1,v2,_,_,v5,v6,rfl,K.out.wm e9.out⟩
  .have h6:L 6=xw:=by
    cases h:L 6 with
    |false=>rfl
    |true=>have:=K.out.c6 h;rw[hi]at this;cases this
   cases ho;go_wp2;simp only[QN];exact⟨v1,v2,v3,v4,_,v6,rfl,K.out.wn h6⟩
  .have h6:L 7=xw:=by
    cases h:L 7 with
    |false=>rfl
    |true=>have:=K.out.c7 h;rw[hi]at this;cases this
   cases ho;go_wp2;simp only[QN];exact⟨v1,v2,v3,v4,v5,_,rfl,K.out.wo h6⟩
  .cases ho;have e1:=K.out.s1<|F 1 Zgm;have h4:=F 4 Zgm;obtain⟨c,e4,l4,B⟩:=K.out.s4 h4;rw[hi]at B;subst e1 e4;have B:W.heap[c]?=J (.cells Z7 52 (0,0)):=B;have y4:∀j,W.cell? ⟨c,j,U⟩=Z7[j]? :=λj=>Zhl _ _ _ _ _ _ B;unfold Z7 at y4;have y5:∀j,W.frozen? ⟨c,j,U⟩=xw:=λj=>YA B;clear B;unfold Wk;go_wp2;simp only[QN];exact⟨v1,_,v3,v4,_,v6,rfl,K.out.wq h4 hi rfl⟩
  .cases ho;have e1:=K.out.s3<|F 3 Zgm;have h4:=F 5 Zgm;obtain⟨c,e4,l4,B⟩:=K.out.s5 h4;rw[hi]at B;subst e1 e4;have B:W.heap[c]?=J (.cells Z7 52 (0,0)):=B;have y4:∀j,W.cell? ⟨c,j,U⟩=Z7[j]? :=λj=>Zhl _ _ _ _ _ _ B;unfold Z7 at y4;have y5:∀j,W.frozen? ⟨c,j,U⟩=xw:=λj=>YA B;clear B;unfold Wk;go_wp2;simp only[QN];exact⟨v1,v2,v3,_,v5,_,rfl,K.out.wu h4 hi rfl⟩
 .intro L v1 v2 v3 v4 v5 v6 W hL C;simp only[Qp,D3,ZiP,List.foldl_nil,ZkE,List.set_cons_succ,ZkK];have h4:=C.s4<|hL 4 Zgm;have h5:=C.s5<|hL 5 Zgm;have i7:=C.ne (hL 4 Zgm)<|hL 5 Zgm;rw[Zhi<|hL 6 Zgm]at h4;rw[Zhi<|hL 7 Zgm]at h5;obtain⟨b9,rfl,n7,f8⟩:=h4;obtain⟨d5,rfl,m8,b5⟩:=h5;have o1:b9≠d5:=λe=>i7 (by rw[e]);have H:=C.b;clear C hL i7;go_upto_region 12 with fail;have g8:MvI (xz<|xj w) w (W.alloc<|.cells #[.int .i64 0] 34) (xz<|xj w) (xz (xj w)+1) (xz<|xj R) b9 d5 (xz<|xj W) f t h d x base words<|Zw h:=by
   obtain⟨-,g2,g3,g4,g5,g6,g7⟩:=HX.out;have m0:=g6.size;have m1:=H.size;have hW:=g6.trans<|H.mono m0;have ha:=(Zhw (xz<|xj W) W).alloc (Zhc _)<|.cells #[.int .i64 0] 34;have M:∀c O,WQ.heap[c]?=J O->(W.alloc<|.cells #[.int .i64 0] 34).heap[c]?=J O:=λc O D=>(ha.block c<|Zhj (Y2 D) m1).trans<|(H.block c<|Y2 D).trans D;refine⟨hW.alloc Z0 _,⟨Zhc _,Z0,Z0,Z0,Z0,Z0⟩,M _ _ g3,M _ _ g4,M _ _ g2,(ha.block _<|Y2 f8).trans f8,(ha.block _<|Y2 b5).trans b5,ZhB W _,λj F=>rfl,λj F=> ?_,c8.out.apart,λj F c D=> ?_⟩;have ho:=c8.out.own j F;exact Xs (Lt ho Z0) λc D=>by
    have:=(ho.lt c D).2;rw[ha.block c Z0,H.block c Z0,g7.block c this]
   have:=(c8.out.own j F).lt c D;omega
  have f1:=Zhf g8;have e7:(W.alloc<|.cells #[.int .i64 0] 34).cell? ⟨xz<|xj R,9,U⟩=J (.slice a4 (I<|Zw h 4) q4):=by
   rw[Zhl _ _ _ _ _ _ g8.nb,<-z.out.2.2.2.2];rfl
  obtain⟨W1,j2⟩:∃W1,W1=W.alloc (.cells #[.int .i64 0] 34):=⟨_,rfl⟩;rw[<-j2]at f1 e7⊢;clear g8 j2 HX H f8 b5 i2 i3;have d9:f.an:=by rw[HF.out];exact HH.out.be
  have f7:=f1.out.om d9 e5 (k:=4) Z0 HH.out.gc (by have:=HH.out.E;exact this) HZ.out;rw[z.out.2.2.2.2]at f7;have i0:=Zhf f7;clear f7;go_upto_region 13 with (go_at_call 20;refine i0.out.mono ?_;rintro e w6 ⟨rfl,g9⟩);have l0:=Zhf g9;have h7:=g9.nb;rw[z.out.1,z.out.2.1,z.out.2.2.1,z.out.2.2.2.1,z.out.2.2.2.2]at h7;have y6:∀j,w6.cell? ⟨xz<|xj R,j,U⟩=(#[.int .u64 base,.int .i64 words,.int .i64 h.to,.bool h.aa,.int .i64 h.Z,.slice a0 (I<|Zw h 0) q0,.slice a1 (I<|Zw h 1) q1,.slice a2 (I<|Zw h 2) q2,.slice a3 (I<|Zw h 3) q3,.slice a4 (I<|Zw h 4) q4]:Array Value)[j]? :=λj=>Zhl _ _ _ _ _ _ h7;clear g9 h7;clear f1 i0 e7;go_wp2_with fail
  have j1:∀k:Nat,k<4->∀P,P=(#[.int .i64 1,.slice a0 (I<|Zw h 0) q0,.int .i64 2,.slice a1 (I<|Zw h 1) q1,.int .i64 3,.slice a2 (I<|Zw h 2) q2,.int .i64 4,.slice a3 (I<|Zw h 3) q3]:Array Value)->
    ∀W,(Instr.index 64 (.agg P)<|.int .i64 (k:Int)).run xP W=.ok (.agg #[.int .i64 ((k+1:Nat):Int),x k]) W:=by
   intro k hk P e W;rw[e];have hT:xP.underlying 64=J (.array 4 63):=Z2;have:k=0\/k=1\/k=2\/k=3:=Z0;obtain rfl|rfl|rfl|rfl:=this;rw[z.out.1];simp[Instr.index,asIntOf,ZhQ hT,part];rw[z.out.2.1];simp[Instr.index,asIntOf,ZhQ hT,part];rw[z.out.2.2.1];simp[Instr.index,asIntOf,ZhQ hT,part];rw[z.out.2.2.2.1];simp[Instr.index,asIntOf,ZhQ hT,part]
  obtain⟨P,hP⟩:∃P,P=(#[.int .i64 1,.slice a0 (I<|Zw h 0) q0,.int .i64 2,.slice a1 (I<|Zw h 1) q1,.int .i64 3,.slice a2 (I<|Zw h 2) q2,.int .i64 4,.slice a3 (I<|Zw h 3) q3]:Array Value):=⟨_,rfl⟩;rw[<-hP];have HP:=Zhf λk hk=>j1 k hk P hP;clear j1 hP y6;go_loopw [77] (λkv wr=>∃k:Nat,kv=.int .i64 k/\k<=4/\Hid (MvI (xz<|xj w) w wr (xz<|xj w) (xz (xj w)+1) (xz<|xj R) b9 d5 (xz<|xj W) f t h d x base words<|Sz f t h p k)) (λkv _=>4- (intOf kv).toNat)
  case atStart=>
   refine⟨0,rfl,Z0,Zhf<|(l0.out.keep<|(Zhw _ w6).alloc (Zhc _) _).congr λj F=> ?_⟩;unfold Sz;by_cases h4:j=4;rw[Zhi h4,Zhi h4];rfl;rw[Zhg h4,Zhg h4,Zhg Z0]
  case round=>
   obtain⟨k,rfl,hk,HI⟩:=hrel;by_cases b0:k<4
   .have n0:((k:Int)<4)=True:=Zje Z0;have f9:=HP.out k b0 wr;obtain⟨ak,T,S⟩:=YW<|HI.out.own k Z0;rw[HI.out.len k Z0]at S;rw[S]at f9;obtain⟨M,a5⟩:∃n:Nat,k+1=n:=⟨_,rfl⟩;rw[a5]at f9;go_upto_region 17 with fail;have b2:=Zhf ((HI.out.keep<|(Zhw _ wr).alloc (Zhc _)<|.cells #[.int .i64 (M:Int),.slice ak (I<|Zw h k) T] 63).congr λj _=>Z0P b0 j);have d6:=ZhB wr<|.cells #[.int .i64 (M:Int),.slice ak (I<|Zw h k) T] 63;have n3:∀c,(x k).ownBlock=J c->c<xz (xj wr):=λc D=>((HI.out.own k Z0).lt c D).2;have m5:xz (xj<|wr.alloc<|.cells #[.int .i64 (M:Int),.slice ak (I<|Zw h k) T] 63)=xz (xj wr)+1:=Z1;obtain⟨W8,j4⟩:∃W8,W8=wr.alloc (.cells #[.int .i64 (M:Int),.slice ak (I<|Zw h k) T] 63):=⟨_,rfl⟩;rw[<-j4]at b2 d6 m5⊢;clear j4 f9;have j6:Calls xP 21 #[ZJ h d,.int .i64 (M:Int)] W8 λe w'=>∃v,e=.returned (.tuple #[v,.int .i64 0])/\Below (xz<|xj W8) W8 w'/\jX w' (p.at (M:Int)) v (λb=>G b\/xz (xj W8)<=b):=by
     have:=Z76 (w:=W8) (G:=G) (x:=d) HH.out i5.out k b0 (λb l=>Zhj (hG b l) b2.out.below.size)<|b2.out.rd hG HS.out;rw[a5]at this;exact this
    have i1:=Zhf j6;have m6:∀j,W8.cell? ⟨xz<|xj w,j,U⟩=(#[.int .u64 h.base,.int .i64 h.cap,.int .i64 h.to,.bool h.aa,.int .i64 h.Z,d 0,d 1,d 2,d 3,d 4]:Array Value)[j]? :=λj=>Zhl _ _ _ _ _ _ b2.out.hb;have m7:∀j,W8.cell? ⟨xz<|xj wr,j,U⟩=(#[.int .i64 (M:Int),.slice ak (I<|Zw h k) T]:Array Value)[j]? :=λj=>Zhl _ _ _ _ _ _ d6;have h9:=Zhf d6;clear j6 d6;go_upto_region 18 with (go_at_call 21;refine i1.out.mono ?_;rintro e w9 ⟨vo,rfl,a6,a8⟩);obtain⟨ao,co,rfl,a8⟩:=a8;have n4:=Zhf a6;have k9:=Zhf<|b2.out.keep a6;have e6:=Zhf<|(a6.block _<|Y2 h9.out).trans h9.out;have l1:=Zhf a8;clear a6 a8 i1 m6 m7;go_wp2_with fail
    generalize wr=w3 at*;go_loopw [93] (λiv wi=>∃i:Nat,iv=.int .i64 i/\i<=I (p.at (M:Int))/\Hid (w9.grownBy wi (x k).ownBlock/\MvI (xz<|xj w) w wi (xz<|xj w) (xz (xj w)+1) (xz<|xj R) b9 d5 (xz<|xj W) f t h d x base words (Wd f t h p k i))) (λiv _=>I (p.at (M:Int))- (intOf iv).toNat)
    case atStart=>exact⟨0,rfl,Z0,Zhf ⟨V3 (Zhw _ _) _,k9.out⟩⟩
    case round=>
     obtain⟨i,rfl,hi,HK⟩:=hrel;by_cases j9:i< I (p.at (M:Int))
     .have k0:((i:Int)< (I (p.at (M:Int)):Int))=True:=Zje Z0;obtain⟨o,hx⟩:∃o,(p.at (M:Int))[i]?=J o:=⟨_,Zh8 j9⟩;obtain⟨a,s,m,ea,es,em,n6,hs,hm,j7,k3⟩:=HB.out k b0 i o (by rw[a5];exact hx) _ rfl;obtain⟨g,og,rfl,l2,j8,a7⟩:=l1.out Z0;have A:∀c,(x k).ownBlock=J c->xz (xj w)<=c/\c<xz (xj w3):=λc D=>(HI.out.own k Z0).lt c D
      have a9:wr.heap[g]?=w9.heap[g]? :=HK.out.1.block g j8 (λe=>by
       have h1:=A g e.symm;obtain h2|h2:=l2;have:=hG g h2;omega;omega)
      have f4:wr.heap[xz<|xj w3]?=J (.cells #[.int .i64 (M:Int),.slice ak (I<|Zw h k) T] 63 (0,0)):=(HK.out.1.block _ (Y2 e6.out) (λe=>by have h1:=A _ e.symm;omega)).trans e6.out;have k6:∀j,wr.cell? ⟨xz<|xj w3,j,U⟩=(#[.int .i64 (M:Int),.slice ak (I<|Zw h k) T]:Array Value)[j]? :=λj=>Zhl _ _ _ _ _ _ f4;obtain⟨c0,c1,c2,c3,c4⟩:=a7 i o hx;have d0:wr.cell? ⟨g,og+i*5,U⟩=J (.int .i64 a):=by rw[ZhX a9,c0,ea]
      have d1:wr.cell? ⟨g,og+i*5+1,U⟩=J (.int .i64 s):=by rw[ZhX a9,c1,es]
      have d2:wr.cell? ⟨g,og+i*5+2,U⟩=J (.int .i64 m):=by rw[ZhX a9,c2,em]
      have d3:wr.cell? ⟨g,og+i*5+3,U⟩=J (.bool o.gone):=by rw[ZhX a9,c3]
      have d4:wr.cell? ⟨g,og+i*5+4,U⟩=J (.int .u64 o.target):=by rw[ZhX a9,c4]
      have l8:I (Zw h k)<=1000000:=R0 HH.out k;have n8:g<xz (xj wr):=Zhj j8 HK.out.1.size;have l5:xz (xj w3)<xz (xj wr):=Y2 f4;clear c0 c1 c2 c3 c4 a7 a9 f4;go_upto_region 23 with fail;have b8:=Zhf<|HK.out.2.keep<|(Zhw _ wr).alloc (Zhc _)<|.cells #[.int .i64 (a:Int),.int .i64 (s:Int),.int .i64 (m:Int),.bool o.gone,.int .u64 o.target] 71;have b7:=Zhf<|Ve HK.out.1<|V3 ((Zhw _ wr).alloc (Zhc _)<|.cells #[.int .i64 (a:Int),.int .i64 (s:Int),.int .i64 (m:Int),.bool o.gone,.int .u64 o.target] 71) _;have f2:=ZhB wr<|.cells #[.int .i64 (a:Int),.int .i64 (s:Int),.int .i64 (m:Int),.bool o.gone,.int .u64 o.target] 71;have k7:∀j,(wr.alloc<|.cells #[.int .i64 (a:Int),.int .i64 (s:Int),.int .i64 (m:Int),.bool o.gone,.int .u64 o.target] 71).cell? ⟨xz<|xj w3,j,U⟩=(#[.int .i64 (M:Int),.slice ak (I<|Zw h k) T]:Array Value)[j]? :=λj=>(ZiC _ _ _ l5).trans<|k6 j;clear d0 d1 d2 d3 d4 k6;obtain⟨W4,j3⟩:∃u,u=wr.alloc (.cells #[.int .i64 (a:Int),.int .i64 (s:Int),.int .i64 (m:Int),.bool o.gone,.int .u64 o.target] 71):=⟨_,rfl⟩;rw[<-j3]at b8 b7 f2 k7⊢;have k8:∀j,W4.cell? ⟨xz<|xj wr,j,U⟩=(#[.int .i64 (a:Int),.int .i64 (s:Int),.int .i64 (m:Int),.bool o.gone,.int .u64 o.target]:Array Value)[j]? :=λj=>Zhl _ _ _ _ _ _ f2;clear j3 f2;obtain⟨gk,rfl,m9⟩:∃gk,ak=J ⟨gk,0,U⟩/\I (Zw h k)<=T:=by
       have ho:=HK.out.2.own k Z0;have n9:=HK.out.2.len k Z0;obtain⟨hv,h0⟩|⟨gg,cap,n5,hv,_,_,D,_⟩:=ho.2;omega;rw[S]at hv;simp only[Zkd]at hv;obtain⟨r1,r2,r3⟩:=hv;exact⟨gg,r1,Z0⟩
      obtain⟨Q,h3⟩:∃n:Nat,a+1=n:=⟨_,rfl⟩;obtain⟨n2,o0⟩:∃n:Nat,Q+m=n:=⟨_,rfl⟩;have v1:IntKind.i64.wrap ((a:Int)+1)=(Q:Int):=Zgq;have v2:IntKind.i64.wrap ((Q:Int)+m)=(n2:Int):=Zgq;have o2:I (p.at (M:Int))<=1000000:=by
       have po:=Z7S HH.out i5.out.ei;have:=po.len (M:Int);have:=(Xf HH.out (M:Int)).2;omega
      have v3:=ZA ((i:Int)+1) Z0 Z0;have hU:=Z0R (f:=f) (t:=t) HH.out (p:=p) (i:=i) b0;have j0:I (Zw h k)=I (Wd f t h p k i k):=(HK.out.2.len k Z0).symm;have i9:Wd f t h p k i k=((p.at ((k+1:Nat):Int)).take i).foldl (XF f t<|Zw h k) (Zw h k):=by unfold Wd;rw[Zhi rfl]
      rw[<-i9]at j7 k3;have f0:=Zhf j0;clear j0 i9;cases hg:o.gone with
      |true=>
       obtain⟨b1,hz⟩:=j7 hg;rw[hg]at k8;have N:X0 f t (Wd f t h p k i k) (Wd f t h p k i k) a (Q-a)=XF f t (Zw h k) (Wd f t h p k i k) o:=by rw[show Q-a=1 by omega];exact b1
       have D:=b8.out.gy d9 e5 (k:=k) Z0 hU.1 hU.2 f0.out S (lo:=a) (mm:=Q-a) Z0 (λj F v hv=>hz v (by have e:j=0:=Z0;subst e;exact hv)) (λ_=>rfl);rw[N]at D;have K:=Zhf D;have q1:¬T=a:=Z0;have q2:a<=T:=Z0;have q3:Q<=T:=Z0;have q4:a<=Q:=Z0;clear D b1 N;go_wp2_with (go_at_call 20;refine K.out.mono ?_;rintro e w5 ⟨rfl,Z,Y⟩;have X:=Zhf<|And.intro Z Y;clear Z Y)
       go_roundw
       case rel=>exact⟨i+1,by go_num,Z0,Zhf ⟨Ve b7.out (by rw[S];exact X.out.2),X.out.1.congr λj _=>jW (by rw[a5];exact hx) rfl j⟩⟩
       case measure=>simp[intOf];omega
      |false=>
       obtain⟨b1,hz⟩:=k3 hg;rw[hg]at k8;have N:X0 f t (Wd f t h p k i k) (Wd f t h p k i k) Q (n2-Q)=XF f t (Zw h k) (Wd f t h p k i k) o:=by rw[show n2-Q=m by omega,<-h3];exact b1
       by_cases q1:T=Q
       .have D:=b8.out.gy d9 e5 (k:=k) Z0 hU.1 hU.2 f0.out S (lo:=Q) (mm:=n2-Q) Z0 (λj F v hv=>hz j Z0 v (by rw[h3];exact hv)) (a:=J ⟨gk,0,U⟩) (λh0=>Z0);rw[N]at D;have K:=Zhf D;have q2:Q<=T:=Z0;have q3:n2<=T:=Z0;have q4:Q<=n2:=Z0;have q5:(T=Q)=True:=Zje q1;clear D b1 N q1;go_wp2_with (go_at_call 20;refine K.out.mono ?_;rintro e w5 ⟨rfl,Z,Y⟩;have X:=Zhf<|And.intro Z Y;clear Z Y)
        go_roundw
        case rel=>exact⟨i+1,by go_num,Z0,Zhf ⟨Ve b7.out (by rw[S];exact X.out.2),X.out.1.congr λj _=>jW (by rw[a5];exact hx) rfl j⟩⟩
        case measure=>simp[intOf];omega
       .have D:=b8.out.gy d9 e5 (k:=k) Z0 hU.1 hU.2 f0.out S (lo:=Q) (mm:=n2-Q) Z0 (λj F v hv=>hz j Z0 v (by rw[h3];exact hv)) (a:=J ⟨gk,Q,U⟩) (λh0=>rfl);rw[N]at D;have K:=Zhf D;have q2:Q<=T:=Z0;have q3:n2<=T:=Z0;have q4:Q<=n2:=Z0;clear D b1 N;go_wp2_with (go_at_call 20;refine K.out.mono ?_;rintro e w5 ⟨rfl,Z,Y⟩;have X:=Zhf<|And.intro Z Y;clear Z Y)
        go_roundw
        case rel=>exact⟨i+1,by go_num,Z0,Zhf ⟨Ve b7.out (by rw[S];exact X.out.2),X.out.1.congr λj _=>jW (by rw[a5];exact hx) rfl j⟩⟩
        case measure=>simp[intOf];omega
     .have l6:i=I (p.at (M:Int)):=Z0;have k0:((i:Int)< (I (p.at (M:Int)):Int))=False:=ZiM Z0;clear j9;go_wp2;go_roundw
      case rel=>exact⟨k+1,by go_num,Z0,Zhf (HK.out.2.congr λj _=>by rw[l6,<-a5];exact(Z0Q b0 j).symm)⟩
      case measure=>simp[intOf];omega
   .have l7:k=4:=Z0;subst l7;have nb:=HI.out.nb;rw[z.out.1,z.out.2.1,z.out.2.2.1,z.out.2.2.2.1,z.out.2.2.2.2]at nb;have yn:∀j,wr.cell? ⟨xz<|xj R,j,U⟩=(#[.int .u64 base,.int .i64 words,.int .i64 h.to,.bool h.aa,.int .i64 h.Z,.slice a0 (I<|Zw h 0) q0,.slice a1 (I<|Zw h 1) q1,.slice a2 (I<|Zw h 2) q2,.slice a3 (I<|Zw h 3) q3,.slice a4 (I<|Zw h 4) q4]:Array Value)[j]? :=λj=>Zhl _ _ _ _ _ _ nb;have yw:wr.cell? ⟨xz<|xj W,0,U⟩=J (.int .i64 0):=by rw[Zhl _ _ _ _ _ _ HI.out.wb];rfl
    have yz:∀j,wr.cell? ⟨xz (xj w)+1,j,U⟩=Y9[j]? :=λj=>Zhl _ _ _ _ _ _ HI.out.rb;unfold Y9 at yz;have fz:∀j,wr.frozen? ⟨xz (xj w)+1,j,U⟩=xw:=λj=>YA HI.out.rb;clear nb;go_wp2_with fail
    have y:=Qo HI.out.rb (.int .u64 base) (.int .i64 words) (.int .i64 h.to) (.bool h.aa) (.int .i64 h.Z) (.slice a0 (I<|Zw h 0) q0) (.slice a1 (I<|Zw h 1) q1) (.slice a2 (I<|Zw h 2) q2) (.slice a3 (I<|Zw h 3) q3)<|.slice a4 (I<|Zw h 4) q4;refine Zi0 (v:=.tuple #[.agg #[.int .u64 base,.int .i64 words,.int .i64 h.to,.bool h.aa,.int .i64 h.Z,.slice a0 (I<|Zw h 0) q0,.slice a1 (I<|Zw h 1) q1,.slice a2 (I<|Zw h 2) q2,.slice a3 (I<|Zw h 3) q3,.slice a4 (I<|Zw h 4) q4],.int .i64 0]) ?_ rfl ?_
    .simp[results,Tryz.results7,go_sem,y]
    refine⟨x,?_,TL HI.out.below Z0,λj F=> ?_⟩;unfold ZJ;rw[z.out.1,z.out.2.1,z.out.2.2.1,z.out.2.2.2.1,z.out.2.2.2.2];rfl;have ho:=HI.out.own j F;have l9:Zw (Xx h p base words) j=Sz f t h p 4 j:=by
     have:j=0\/j=1\/j=2\/j=3\/j=4:=Z0;obtain rfl|rfl|rfl|rfl|rfl:=this;rw[HF.out,HT.out];rfl;rw[HF.out,HT.out];rfl;rw[HF.out,HT.out];rfl;rw[HF.out,HT.out];rfl;show _=X0 f t h.E h.E 0 (I h.E);rw[HM.out,HF.out,HT.out];rfl
    rw[l9];exact qG (Xs ho λc D=>JE (HI.out.aj j F c D).2.1) λc h1 h2=>⟨h1,h2⟩
def Z0S(w:Z3)(G:Z4)(l:∀b,G b->b<xz (xj w))(h:Hp)(n:h.ok)(a:Z9)(g:∀j,j<5->Rd w G (.sl<|(Zw h j).map vu) (a j))(base words:Int)(d:base=0):
  Calls xP 7 #[ZJ h a,.int .u64 base,.int .i64 words] w (SA w (Hp.zero,1)):=by
 have k:(base==0)=xk:=Zgp;clear g;unfold ZJ;go_enter RE,Tryz.ntmps7;go_wp2;have f:=λj=>Zhl _ _ j _ _ _<|QE w<|.cells #[.int .u64 h.base,.int .i64 h.cap,.int .i64 h.to,.bool h.aa,.int .i64 h.Z,a 0,a 1,a 2,a 3,a 4] 30;unfold Y9 at f;refine Zi0 (v:=.tuple #[.agg Y9,.int .i64 1]) ?_ rfl ?_
 .simp[results,Tryz.results7,go_sem,f,Y9]
 exact⟨λ_=>.slice U 0 0,rfl,((Zhw _ w).alloc (Zhc _) _).alloc Z1 _,Kb _ _⟩
def Z0T(w:Z3)(G:Z4)(o:∀b,G b->b<xz (xj w))(h:Hp)(p:h.ok)(a:Z9)(k:∀j,j<5->Rd w G (.sl<|(Zw h j).map vu) (a j))(base words:Int)(d:¬base=0)(f:words<0):
  Calls xP 7 #[ZJ h a,.int .u64 base,.int .i64 words] w (SA w (Hp.zero,1)):=by
 have l:(base==0)=xw:=Zgp;have n:(words<0)=True:=Zje f;clear k;unfold ZJ;go_enter RE,Tryz.ntmps7;go_wp2;have g:=λj=>Zhl _ _ j _ _ _<|QE w<|.cells #[.int .u64 h.base,.int .i64 h.cap,.int .i64 h.to,.bool h.aa,.int .i64 h.Z,a 0,a 1,a 2,a 3,a 4] 30;unfold Y9 at g;refine Zi0 (v:=.tuple #[.agg Y9,.int .i64 1]) ?_ rfl ?_
 .simp[results,Tryz.results7,go_sem,g,Y9]
 exact⟨λ_=>.slice U 0 0,rfl,((Zhw _ w).alloc (Zhc _) _).alloc Z1 _,Kb _ _⟩
def Z0U(w:Z3)(G:Z4)(q:∀b,G b->b<xz (xj w))(h:Hp)(r:h.ok)(a:Z9)(l:∀j,j<5->Rd w G (.sl<|(Zw h j).map vu) (a j))(base words:Int)(d:¬base=0)(f:¬words<0)(g:4096<words):
  Calls xP 7 #[ZJ h a,.int .u64 base,.int .i64 words] w (SA w (Hp.zero,1)):=by
 have n:(base==0)=xw:=Zgp;have o:(words<0)=False:=ZiM f;have p:(4096<words)=True:=Zje g;clear l;unfold ZJ;go_enter RE,Tryz.ntmps7;go_wp2;have k:=λj=>Zhl _ _ j _ _ _<|QE w<|.cells #[.int .u64 h.base,.int .i64 h.cap,.int .i64 h.to,.bool h.aa,.int .i64 h.Z,a 0,a 1,a 2,a 3,a 4] 30;unfold Y9 at k;refine Zi0 (v:=.tuple #[.agg Y9,.int .i64 1]) ?_ rfl ?_
 .simp[results,Tryz.results7,go_sem,k,Y9]
 exact⟨λ_=>.slice U 0 0,rfl,((Zhw _ w).alloc (Zhc _) _).alloc Z1 _,Kb _ _⟩
def Z0V(w:Z3)(G:Z4)(y:∀b,G b->b<xz (xj w))(h:Hp)(D:h.ok)(a:Z9)(B:∀j,j<5->Rd w G (.sl<|(Zw h j).map vu) (a j))(base words:Int)(p:¬base=0)(r:¬words<0)(t:¬4096<words)(A:YQ h=xw):
  Calls xP 7 #[ZJ h a,.int .u64 base,.int .i64 words] w (SA w (Hp.zero,1)):=by
 have o:∀W,Below (xz<|xj w) w W->Calls xP 10 #[ZJ h a] W λe K=>e=.returned (.bool<|YQ h)/\Below (xz<|xj W) W K:=λW z=>
  ji (w:=W) (G:=G) (x:=a) D (λb f=>Zhj (y b f) z.size) (λj F=>(B j F).keep (λb f=>z.block b<|y b f) λ_ q=>q)
 rw[A]at o;have C:=Zhf o;clear o;have M:(base==0)=xw:=by simpa using p
 have N:(words<0)=False:=ZiM r;have O:(4096<words)=False:=ZiM t;clear B A;unfold ZJ;go_enter RE,Tryz.ntmps7
 go_wp2_with (first
  | (go_at_call 10;refine(C.out _ ?_).mono ?_;rotate_left;rintro e g ⟨rfl,d⟩
     have u:g.heap[xz<|xj w]?=J (.cells #[.int .u64 h.base,.int .i64 h.cap,.int .i64 h.to,.bool h.aa,.int .i64 h.Z,a 0,a 1,a 2,a 3,a 4] 30 (0,0)):=(d.block _ Zge).trans<|(Zht _ _ _ Z1).trans<|ZhB w _;have k:g.heap[xz (xj w)+1]?=J (.cells Y9 30 (0,0)):=(d.block _ Z1).trans<|QE w _;have P:∀j,g.cell? ⟨xz<|xj w,j,U⟩=(#[.int .u64 h.base,.int .i64 h.cap,.int .i64 h.to,.bool h.aa,.int .i64 h.Z,a 0,a 1,a 2,a 3,a 4]:Array Value)[j]? :=λj=>Zhl _ _ _ _ _ _ u;have L:∀j,g.cell? ⟨xz (xj w)+1,j,U⟩=Y9[j]? :=λj=>Zhl _ _ _ _ _ _ k;unfold Y9 at L;have fz:∀j,g.frozen? ⟨xz (xj w)+1,j,U⟩=xw:=λj=>YA k;have l:=Zhf d;have n:=Zhf k;clear d u k))
 case refine_1=>exact((Zhw _ w).alloc (Zhc _) _).alloc Z1 _
 have H:=Qo n.out (.int .u64 0) (.int .i64 0) (.int .i64 0) (.bool xw) (.int .i64 0) (.slice U 0 0) (.slice U 0 0) (.slice U 0 0) (.slice U 0 0)<|.slice U 0 0;refine Zi0 (v:=.tuple #[.agg Y9,.int .i64 1]) ?_ rfl ?_
 .simp[results,Tryz.results7,go_sem,H,Y9]
 exact⟨λ_=>.slice U 0 0,rfl,TL (ZkV (((Zhw _ w).alloc (Zhc _) _).alloc Z1 _)<|l.out.mono Zge) Z0,Kb _ _⟩
def Z0W(w:Z3)(G:Z4)(y:∀b,G b->b<xz (xj w))(h:Hp)(D:h.ok)(a:Z9)(B:∀j,j<5->Rd w G (.sl<|(Zw h j).map vu) (a j))(base words:Int)(p:¬base=0)(r:¬words<0)(t:¬4096<words)(A:YQ h=xk)(hc:words<h.cap):
  Calls xP 7 #[ZJ h a,.int .u64 base,.int .i64 words] w (SA w (Hp.zero,8)):=by
 have o:∀W,Below (xz<|xj w) w W->Calls xP 10 #[ZJ h a] W λe K=>e=.returned (.bool<|YQ h)/\Below (xz<|xj W) W K:=λW z=>
  ji (w:=W) (G:=G) (x:=a) D (λb f=>Zhj (y b f) z.size) (λj F=>(B j F).keep (λb f=>z.block b<|y b f) λ_ q=>q)
 rw[A]at o;have C:=Zhf o;clear o;have M:(base==0)=xw:=by simpa using p
 have N:(words<0)=False:=ZiM r;have O:(4096<words)=False:=ZiM t;have P:(words<h.cap)=True:=Zje hc;clear B A;unfold ZJ;go_enter RE,Tryz.ntmps7
 go_wp2_with (first
  | (go_at_call 10;refine(C.out _ ?_).mono ?_;rotate_left;rintro e g ⟨rfl,d⟩
     have u:g.heap[xz<|xj w]?=J (.cells #[.int .u64 h.base,.int .i64 h.cap,.int .i64 h.to,.bool h.aa,.int .i64 h.Z,a 0,a 1,a 2,a 3,a 4] 30 (0,0)):=(d.block _ Zge).trans<|(Zht _ _ _ Z1).trans<|ZhB w _;have k:g.heap[xz (xj w)+1]?=J (.cells Y9 30 (0,0)):=(d.block _ Z1).trans<|QE w _;have Q:∀j,g.cell? ⟨xz<|xj w,j,U⟩=(#[.int .u64 h.base,.int .i64 h.cap,.int .i64 h.to,.bool h.aa,.int .i64 h.Z,a 0,a 1,a 2,a 3,a 4]:Array Value)[j]? :=λj=>Zhl _ _ _ _ _ _ u;have L:∀j,g.cell? ⟨xz (xj w)+1,j,U⟩=Y9[j]? :=λj=>Zhl _ _ _ _ _ _ k;unfold Y9 at L;have fz:∀j,g.frozen? ⟨xz (xj w)+1,j,U⟩=xw:=λj=>YA k;have l:=Zhf d;have n:=Zhf k;clear d u k))
 case refine_1=>exact((Zhw _ w).alloc (Zhc _) _).alloc Z1 _
 have H:=Qo n.out (.int .u64 0) (.int .i64 0) (.int .i64 0) (.bool xw) (.int .i64 0) (.slice U 0 0) (.slice U 0 0) (.slice U 0 0) (.slice U 0 0)<|.slice U 0 0;refine Zi0 (v:=.tuple #[.agg Y9,.int .i64 8]) ?_ rfl ?_
 .simp[results,Tryz.results7,go_sem,H,Y9]
 exact⟨λ_=>.slice U 0 0,rfl,TL (ZkV (((Zhw _ w).alloc (Zhc _) _).alloc Z1 _)<|l.out.mono Zge) Z0,Kb _ _⟩
def Z0X(w:Z3)(G:Z4)(y:∀b,G b->b<xz (xj w))(h:Hp)(D:h.ok)(a:Z9)(B:∀j,j<5->Rd w G (.sl<|(Zw h j).map vu) (a j))(base words:Int)(p:¬base=0)(r:¬words<0)(t:¬4096<words)(A:YQ h=xk)(hc:¬words<h.cap)(H:9223372036854775808-2*words<base):
  Calls xP 7 #[ZJ h a,.int .u64 base,.int .i64 words] w (SA w (Hp.zero,9)):=by
 have o:∀W,Below (xz<|xj w) w W->Calls xP 10 #[ZJ h a] W λe L=>e=.returned (.bool<|YQ h)/\Below (xz<|xj W) W L:=λW z=>
  ji (w:=W) (G:=G) (x:=a) D (λb f=>Zhj (y b f) z.size) (λj F=>(B j F).keep (λb f=>z.block b<|y b f) λ_ q=>q)
 rw[A]at o;have C:=Zhf o;clear o;have N:(base==0)=xw:=by simpa using p
 have O:(words<0)=False:=ZiM r;have P:(4096<words)=False:=ZiM t;have Q:(words<h.cap)=False:=ZiM hc;have R:(9223372036854775808-2*words<base)=True:=Zje H;have w1:=ZP words Z0 Z0;have w2:=ZP (2*words) Z0 Z0;have w3:=ZP (9223372036854775808-2*words) Z0 Z0;clear B A;unfold ZJ;go_enter RE,Tryz.ntmps7
 go_wp2_with (first
  | (go_at_call 10;refine(C.out _ ?_).mono ?_;rotate_left;rintro e g ⟨rfl,d⟩
     have u:g.heap[xz<|xj w]?=J (.cells #[.int .u64 h.base,.int .i64 h.cap,.int .i64 h.to,.bool h.aa,.int .i64 h.Z,a 0,a 1,a 2,a 3,a 4] 30 (0,0)):=(d.block _ Zge).trans<|(Zht _ _ _ Z1).trans<|ZhB w _;have k:g.heap[xz (xj w)+1]?=J (.cells Y9 30 (0,0)):=(d.block _ Z1).trans<|QE w _;have S:∀j,g.cell? ⟨xz<|xj w,j,U⟩=(#[.int .u64 h.base,.int .i64 h.cap,.int .i64 h.to,.bool h.aa,.int .i64 h.Z,a 0,a 1,a 2,a 3,a 4]:Array Value)[j]? :=λj=>Zhl _ _ _ _ _ _ u;have M:∀j,g.cell? ⟨xz (xj w)+1,j,U⟩=Y9[j]? :=λj=>Zhl _ _ _ _ _ _ k;unfold Y9 at M;have fz:∀j,g.frozen? ⟨xz (xj w)+1,j,U⟩=xw:=λj=>YA k;have l:=Zhf d;have n:=Zhf k;clear d u k))
 case refine_1=>exact((Zhw _ w).alloc (Zhc _) _).alloc Z1 _
 have K:=Qo n.out (.int .u64 0) (.int .i64 0) (.int .i64 0) (.bool xw) (.int .i64 0) (.slice U 0 0) (.slice U 0 0) (.slice U 0 0) (.slice U 0 0)<|.slice U 0 0;refine Zi0 (v:=.tuple #[.agg Y9,.int .i64 9]) ?_ rfl ?_
 .simp[results,Tryz.results7,go_sem,K,Y9]
 exact⟨λ_=>.slice U 0 0,rfl,TL (ZkV (((Zhw _ w).alloc (Zhc _) _).alloc Z1 _)<|l.out.mono Zge) Z0,Kb _ _⟩
def Z5P{h:Hp}(d:h.ok){base words:Int}(a:ZB base)(f:Y7 words):(Zv {h with base:=base,cap:=words}).an:=by
 obtain⟨_,_,g,j,k,l,n⟩:=d.be;exact⟨a,f,g,j,k,l,n⟩
def Z10(w:Z3)(G:Z4)(l:∀b,G b->b<xz (xj w))(h:Hp)(g:h.ok)(a:Z9)(n:∀j,j<5->Rd w G (.sl<|(Zw h j).map vu) (a j))(base words:Int)(y:ZB base)(A:Y7 words):
  Calls xP 7 #[ZJ h a,.int .u64 base,.int .i64 words] w (SA w<|Xn h base words):=by
 by_cases d:base=0;rw[show Xn h base words=(Hp.zero,1)by unfold Xn;rw[Zhi<|.inr<|.inl d]];exact Z0S w G l h g a n base words d;by_cases f:words<0;rw[show Xn h base words=(Hp.zero,1)by unfold Xn;rw[Zhi<|.inr<|.inr<|.inl f]];exact Z0T w G l h g a n base words d f;by_cases k:4096<words;rw[show Xn h base words=(Hp.zero,1)by unfold Xn;rw[Zhi<|.inr<|.inr<|.inr k]];exact Z0U w G l h g a n base words d f k;cases q:YQ h with
 |false=>
  rw[show Xn h base words=(Hp.zero,1)by unfold Xn;rw[Zhi<|.inl q]];exact Z0V w G l h g a n base words d f k q
 |true=>
  have x:¬(YQ h=xw\/base=0\/words<0\/4096<words):=by
   rintro(e|e|e|e);rw[q]at e;cases e;exact d e;exact f e;exact k e
  by_cases o:words<h.cap;rw[show Xn h base words=(Hp.zero,8)by unfold Xn;rw[Zhg x,Zhi o]];exact Z0W w G l h g a n base words d f k q o;by_cases u:9223372036854775808-2*words<base;rw[show Xn h base words=(Hp.zero,9)by unfold Xn;rw[Zhg x,Zhg o,Zhi u]];exact Z0X w G l h g a n base words d f k q o u;obtain⟨p,r⟩:=jj.1 q;rw[show Xn h base words=(Xx h p base words,0)by unfold Xn;rw[Zhg x,Zhg o,Zhg u,r.ei,ZhE]];have m:MvOk h base words:=⟨d,Z0,Z0,Z0,Z0⟩;have t:=m.right y.1 r.be;exact Z0Y w G l h g a n base words d f k o u r rfl rfl (Z5P g y A) (λv z=>KO r.toTld t Z0 Z0<|r.E v z) Z6H<|Z6z r.toBody t rfl rfl
def Z0Z{h:Hp}(r:h.ok){base words:Int}(g:ZB base)(B:Y7 words):VC xP 7 xw [ZM h,vu base,vi words]<|.aq [ZM (Xn h base words).1,vi (Xn h base words).2]:=by
 refine⟨Z2,λw G vs p l d=> ?_⟩;have r0:=d 0 _ rfl;have C:=d 1 _ rfl;have D:=d 2 _ rfl;have q:vs=#[vs.getD 0 xy,vs.getD 1 xy,vs.getD 2 xy]:=by
  have a:vs.size=3:=l;apply ZjX;simp[a];intro i F H;have t:i<3:=Z0
  match i,t with
  |0,_=>simp[Array.getD,a]
  |1,_=>simp[Array.getD,a]
  |2,_=>simp[Array.getD,a]
 obtain⟨n,o,A⟩:=Hk r0;rw[q,o,Uj C,Uj D];refine(Z10 w G p h r n A base words g B).mono ?_;rintro e K ⟨x,rfl,k,z⟩;refine⟨_,rfl,k,?_⟩;refine .aq _ _ rfl ?_;intro i y f
 match i,f with
 |0,f=>cases f;exact yE λj u=>(z j u).mono λb g=>.inr g
 |1,f=>cases f;exact .int _ _
end Vm
end
section
namespace Go.Proofs.YtimfmcffdgpecaaGreat
open Vm Go.ChangeShapes Go.WideShapes Go.ChangeAt Go.RowKit
def moveKeeps_law(xs:List V)(f:I xs=Tryz.f3.params.toList.length)(a:∀(i:Nat) (t:TypeId) (x:V),Tryz.f3.params.toList[i]?=J t->xs[i]?=J x->Xp Tryz.prog 8 t x):
  VC (YC Tryz.prog) 3 xw xs (.bool xk):=by
 rw[Tryz.params3]at f a
 match xs,f with
 | [n,o,p],_=>
   obtain⟨x,rfl,l⟩:=Zb5<|a 0 _ n rfl rfl;obtain⟨b,rfl,d⟩:=DY<|a 1 _ o rfl rfl;obtain⟨m,rfl,j⟩:=zj<|a 2 _ p rfl rfl;exact Z5L (λh b w g d k=>Z0Z g d k) Z9Z l d j
def moveKeeps_lifted(j:Os)(a:j.Started)(H:Type)(enc:TypeId×Value->H):
  ReturnsInLeavingWide {} Tryz.checked j 3 .any (Rows.moveKeepsSpec.pre6 enc Tryz.prog Tryz.f3 Rows.moveKeepsRow.domain xw) (Rows.moveKeepsSpec.post enc Tryz.prog Tryz.f3 xw xk xw xw):=by
 refine returnsInLeavingWide_of_change_sized (C:=Tryz.checked) own a Tryz.func3
  (ChangeSpec.witness6 (enc:=enc) (C:=Tryz.checked) xw ⟨#[], #[.agg #[.slice U 0 0,.slice U 0 0,.slice U 0 0,.int .u64 0,.int .i64 0,.int .i64 0,.int .i64 0],.int .u64 0,.int .i64 0],[]⟩ 8 Z2 Z2 Z2 Z2) ?_
 intro W base args g gs d f k _ _ _
 exact Z4d (P:=Tryz.prog) Z2 (Z5M (P:=YC Tryz.prog) (tb:=4) 8 laidOut Z2 Z2 rfl Z2 Tryz.underlying4 (λH g h=>by
  rw[Tryz.params3]at h
  match g,h with
  | [_,_,_],_=>rfl) moveKeeps_law H enc W base args g gs d f k)
theorem moveKeeps_holds:Rows.MoveKeepsSaid:=
 OpenClaim.holds_of_wide_leaving 3 Tryz.f3 rfl rfl rfl rfl rfl rfl rfl ⟨rfl,rfl,rfl,rfl,rfl⟩ rfl rfl rfl rfl rfl Z2 Tryz.func3 Z2
  (Zj7 Z2) (by unfold Func.isWrapper;first|(rw[Zhi Zgf];kernel_rfl)|(rw[Zhg Zgf];exact⟨rfl,rfl⟩))
  (λf a H d _=>moveKeeps_lifted f a H d)
#print axioms moveKeeps_holds
end Go.Proofs.YtimfmcffdgpecaaGreat
end
