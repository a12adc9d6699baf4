/-
  The law MeasureNew holds of the given program, for every input.
-/
import Derived.Deep.OwnRows
import Derived.Test.YtekcbanhligfaaaRows
import Derived.Conc.LeavingOf
import Derived.Test.YtekcbanhligfaaaSMeasureNew6
set_option linter.unusedSimpArgs false
set_option linter.unusedVariables false
set_option linter.defProp false
open Option renaming some→J,none→U
open Bool renaming true→xk,false→xw
open Go renaming undef→xy
open List renaming length→I
open Array renaming size→xz
open Go.World renaming heap→xj
open List renaming length→xq
open Array renaming size→xz
open Go.World renaming heap→xj
set_option maxHeartbeats 40000000
set_option maxRecDepth 100000
def ZiR:=@List.eq_replicate_iff
def ZiB:=@List.filter_cons_of_pos
def ZiF:=@Nat.add_sub_cancel_left
def ZiD:=@List.getElem?_replicate
section
namespace Vm
open Go Go.Proofs
section
section
variable {h g:Hp}{p q:Pts}
def Fa{G}(d:∀x∈G.E,x= -1):Y0 G=⟨[],G.E⟩:=by
 have g:=Z5Q λx a=>by rw[d x a];omega
 have f:Wd [] G.E=G.E:=by
  conv=>rhs;rw[<-Zj5 G.E]
  refine Zgp λx a=> ?_;rw[d x a];rfl
 simp[Y0,g,f]
def KI(F:Hp)(A:Int):Int:=(ZT (ZW F).tm A).getD A
def Jn F w:VM F w=KI F (adr w).1:=rfl
def Z2p(r:Rt h p)(hc:h.M=xw):∃g q,FlipI h p (xq h.E) g q/\YF h=Wb g/\DQ (xq h.E) g q/\Y0 (vg<|Wb g)=Y0 (vg h):=by
 obtain⟨q,I,c,R⟩:=FY r hc (xq h.E) Z0;have hF:YF h=Wb (X3 (YA h)<|xq h.E):=rfl;obtain⟨s,hz⟩:=Ab r hc I;refine⟨_,q,I,hF,R,?_⟩;clear hF R;generalize X3 (YA h) (xq h.E)=g at*;obtain⟨_,a7,a5⟩:=r.rest hc;by_cases h0:0<xq g.H;case neg=>
  obtain⟨_,_,_,e4⟩:=hz h0;have f1:∀w∈h.E,w=0:=λw hw=>by
   obtain⟨j,B⟩:=Zfj hw;have a4:=(ZeW.1 B).1;have c8:j<xq g.E:=by rw[I.len];exact a4
   obtain⟨_,a0⟩:=I.se j a4 w _ B<|ZeX c8;have:=e4 _<|Zfr c8;obtain⟨h1,_⟩|⟨k,o,hk,ho,_,M,e⟩:=a0;exact h1;omega
  have S:(Wb g).E=g.E:=by unfold Wb;split<;>rfl
  have z1:(vg h).E=List.replicate (xq h.E) (-1):=by
   refine ZiR.2 ⟨by simp[vg,Vw.gr],λx d=> ?_⟩;simp only[vg,Vw.gr,Zfh]at d;obtain⟨w,hw,rfl⟩:=d;rw[f1 w hw];simp[Vw.ct]
  have z2:(vg<|Wb g).E=List.replicate (xq h.E) (-1):=by
   refine ZiR.2 ⟨by simp[vg,Vw.gr,S,I.len],λx d=> ?_⟩;simp only[vg,Vw.gr,Zfh,S]at d;obtain⟨w,hw,rfl⟩:=d;rw[e4 w hw];simp[Vw.ct]
  rw[Fa (G:=vg h) λx d=>by rw[z1]at d;exact(ZhN.1 d).2,Fa (G:=vg<|Wb g) λx d=>by rw[z2]at d;exact(ZhN.1 d).2,z1,z2]
 rw[Zfc h0]at s;have eF:Wb g= {g with M:=xk}:=by unfold Wb;rw[Zfc h0]
 rw[eF]at s⊢;obtain⟨F,Z⟩:∃F:Hp,F= {g with M:=xk}:=⟨_,rfl⟩;rw[<-Z]at s⊢;have f7:F.H=g.H:=by rw[Z]
 have Q:F.E=g.E:=by rw[Z]
 have O:Zv F=Zv g:=by rw[Z];rfl
 have Y:∀k,Zy F k=Zy g k:=λk=>by rw[Z];rfl
 have f2:∀j:Nat,j<2->fstL (Zv F) (((j+2:Nat):Int)+1)=fstL (Zv h) ((j:Int)+1):=λj B=>by
  have T:=I.ext.fst (((j+2:Nat):Int)+1) 0 Z0;have X:=Ae h ((j:Int)+1) 0 Z0;rw[show(j:Int)+1+2=((j+2:Nat):Int)+1 by omega]at X;rw[O];have e3:ZJ (Zv g) (((j+2:Nat):Int)+1) 0=ZJ (Zv {g with E:=h.E}) (((j+2:Nat):Int)+1) 0:=rfl;unfold ZJ at T X e3;omega
 have f0:∀j:Nat,j<2->Zy (YA h) (((j+2:Nat):Int)+1)=Zy h ((j:Int)+1)/\(Tf p).at (((j+2:Nat):Int)+1)=p.at ((j:Int)+1):=λj B=>by
  have:j=0\/j=1:=Z0;obtain rfl|rfl:=this<;>exact⟨rfl,rfl⟩
 have a6:∀(j:Nat) (x:Ob),j<2->x∈p.at ((j:Int)+1)->∃D,D∈q.at (((j+2:Nat):Int)+1)/\D.Z=x.Z/\(ZE F (j+2) D).ad=(ZE h j x).ad/\
   ((D.gone=xw/\D=x/\(ZE F (j+2) D).sl=(ZE h j x).sl)\/(D.gone=xk/\∃t∈q.at (((0:Nat):Int)+1),(ZE F 0 t).ad=D.target/\t.ac=x.ac/\(ZE F 0 t).sl=(ZE h j x).sl)):=by
  intro j x B d;obtain⟨a,n,m,ea,en,em,e5,_⟩:=r.toTld.ob Z0 d;obtain⟨i,W⟩:=Zfj d;obtain⟨p1,p2⟩:=f0 j B;have a3:((Tf p).at<|((j+2:Nat):Int)+1)[i]?=J x:=by rw[p2];exact W
  have f5:x.gone=xw:=r.bq B (by rw[r.bz Z0];exact d);have d6:=I.ext.is (((j+2:Nat):Int)+1) Z0;have f8:xq (q.at<|((j+2:Nat):Int)+1)=xq ((Tf p).at<|((j+2:Nat):Int)+1):=by have:=Zg6 List.length d6;simpa using this
  have b4:=(ZeW.1 a3).1;have hq:(q.at<|((j+2:Nat):Int)+1)[i]?=J ((q.at<|((j+2:Nat):Int)+1)[i]'Z0):=Z1;generalize (q.at<|((j+2:Nat):Int)+1)[i]'Z0=D at hq;have a1:=Zg6 (λl=>l[i]?) d6;simp only[Zfo,hq,a3,Zfm,ZeV,Zf9]at a1;obtain⟨q1,q2,q3⟩:=a1;have hm:=Zf5 hq;have K:(ZE F (j+2) D).ad=(ZE h j x).ad:=by
   rw[Wh s Z0 hm,Wh r Z0 d,f2 j B,q1]
  refine⟨D,hm,q1,K,?_⟩;cases M:D.gone;obtain⟨d1,d2⟩:=(I.ext.gone (((j+2:Nat):Int)+1) Z0 i x D a3 hq).2 M;subst d1;refine .inl ⟨rfl,rfl,?_⟩;simp only[ZE];rw[<-Vn _ Z0,<-Vn _ Z0,Y];refine Zgr λz=> ?_;simp only[Zfx,Zfn];split;have:=d2 (1+z) Z0;rw[p1]at this;rw[show(D.Z+1).toNat+z=D.Z.toNat+(1+z)by omega];exact this;rfl;obtain⟨t,H,c1,c2,c3,c4⟩:=c (((j+2:Nat):Int)+1) Z0 i x D a3 hq f5 M;have f9:=(I.body.toTld.ij H).1;refine .inr ⟨rfl,t,H,?_,c3,?_⟩;rw[Wh s Z0 H,O,c1];rfl;simp only[ZE];rw[<-Vn _ Z0,<-Vn _ Z0,Y,c2];refine Zgr λz=> ?_;simp only[Zfx,Zfn];split;have:=c4 z Z0;rw[p1]at this;rw[show(x.Z+1).toNat+z=x.Z.toNat+1+z by omega,show(t.Z+1).toNat+z=t.Z.toNat+1+z by omega];exact this;rfl
 have b7:∀f∈(ZW h).ns,∃(j:Nat) (x:Ob),j<2/\x∈p.at ((j:Int)+1)/\f=ZE h j x:=λf hf=>by
  obtain⟨e7,_⟩:=Wm.1 hf;obtain⟨j,x,_,B,d,rfl⟩:=UD e7;rw[r.bz Z0]at d;refine⟨j,x,?_,d,rfl⟩;by_cases b6:j<2;exact b6;have H:=r.al ((j:Int)+1) Z0;have b8:Zy h ((j:Int)+1)=[]:=by
   have:j=2\/j=3:=Z0;obtain rfl|rfl:=this;exact a7;exact a5
  rw[b8]at H;rw[H.nil]at d;cases d
 have e8:∀(j:Nat) (x:Ob),j<2->x∈p.at ((j:Int)+1)->ZE h j x∈(ZW h).ns:=λj x B d=>Wm.2 ⟨X9 r Z0 d,r.bq B (by rw[r.bz Z0];exact d)⟩;have L:∀A:Int,1<=A->(adr<|2*A+1).1=A:=λA hA=>by
  unfold adr;rw[Zf7 Z0,Zf7 Z0];show(2*A+1) / 2=A;omega
 have a8:∀(j:Nat) (x:Ob),j<2->x∈p.at ((j:Int)+1)->1<=(ZE h j x).ad:=λj x B d=>by
  obtain⟨a,_,_,ea,_⟩:=r.toTld.ob Z0 d;rw[Wh r Z0 d];have:=Vy r.bj (k:=(j:Int)+1);omega
 have d5:∀(j:Nat) (x:Ob),j<2->x∈p.at ((j:Int)+1)->∃f'∈(ZW F).ns,f'.ad=KI F (ZE h j x).ad/\f'.ob.ac=x.ac/\f'.sl=(ZE h j x).sl:=by
  intro j x B d;obtain⟨D,a2,_,K,hh⟩:=a6 j x B d;have hA:=a8 j x B d;obtain⟨M,rfl,d7⟩|⟨M,t,H,T,X,e3⟩:=hh;refine⟨ZE F (j+2) D,Wm.2 ⟨X9 s Z0 a2,M⟩,?_,rfl,d7⟩;have:=Sd s (X9 s Z0 a2) M (w:=2*(ZE h j D).ad+1) (by rw[L _ hA,K]);rw[Jn,L _ hA]at this;exact this.symm;refine⟨ZE F 0 t,Wm.2 ⟨X9 s Z0 H,s.bq (q:=0) Z0 (by rw[s.bz Z0];exact H)⟩,?_,X,e3⟩;have:=Sc s (X9 s Z0 a2) M (w:=2*(ZE h j x).ad+1) (by rw[L _ hA,K]);rw[Jn,L _ hA]at this;rw[this,T];rfl
 have a9:∀w i j:Int,(1<=i/\i<=4)->(1<=j/\j<=4)->Gos h p w i j->w=0\/∃f∈(ZW h).ns,(adr w).1=f.ad/\f.ad=VM h w:=λw i j W B hG=>by
  by_cases C:w=0;exact .inl C;obtain⟨z,y,hz,_,hy,_,ha⟩:=r.lc W B hG C;have N:=hy;rw[r.bz hz]at N;have c0:z<2:=by
   by_cases b6:z<2;exact b6;have H:=r.al ((z:Int)+1) Z0;have b8:Zy h ((z:Int)+1)=[]:=by
    have:z=2\/z=3:=Z0;obtain rfl|rfl:=this;exact a7;exact a5
   rw[b8]at H;rw[H.nil]at N;cases N
  exact .inr ⟨_,e8 z y c0 N,ha,(Sd r (X9 r hz N) (r.bq c0 hy) ha).symm⟩
 refine Dc r s (KI F) (λf hf=> ?_) (λf hf f' b3 he=> ?_) (jr (by rw[Q,I.len]) λj w v hw hv=> ?_);obtain⟨j,x,B,d,rfl⟩:=b7 f hf;obtain⟨f',b3,T,X,e3⟩:=d5 j x B d;refine⟨f',b3,T,X,by rw[e3],?_⟩;rw[e3];refine JJ λw f4=> ?_;have d9:x∈obP h j:=by rw[r.bz Z0];exact d
 obtain⟨a,n,m,ea,en,em,e5,_⟩:=r.toTld.ob Z0 d;obtain⟨i,W⟩:=Zfj f4;have b4:=(ZeW.1 W).1;rw[Zg0]at b4;have e9:(ZE h j x).ob.ac=x.ac:=rfl;rw[e9]at W b4;rw[ZfC Z0]at W;have d7:=SG r Z0 d9;have d8:(Zy h<|(j:Int)+1)[x.Z.toNat+1+i]?=J w:=by
  rw[Vn h Z0];simp only[ZE]at W;rw[ZfC Z0,Zfn]at W;rw[<-W];congr 1;omega
 obtain⟨u,v,hu,hv,hG⟩:=yT<|r.ptr ((j:Int)+1) Z0 x d (r.bq B d9) i Z0 w d8;obtain rfl|⟨f,hf,ha,hr⟩:=a9 w u v hu hv hG;exact .inl ⟨rfl,rfl⟩;by_cases C:w=0;exact .inl ⟨C,C⟩;exact .inr ⟨C,C,f,hf,hr,by rw[Jn,ha]⟩;obtain⟨j,x,B,d,rfl⟩:=b7 f hf;obtain⟨j',D,b5,a2,rfl⟩:=b7 f' b3;have b0:∀(j:Nat) (x:Ob),j<2->x∈p.at ((j:Int)+1)->∃y,y∈q.at (((j+2:Nat):Int)+1)/\(ZE F (j+2) y).ad=(ZE h j x).ad/\((y.gone=xw/\KI F (ZE h j x).ad=(ZE h j x).ad)\/(y.gone=xk/\KI F (ZE h j x).ad=y.target/\∃t∈q.at (((0:Nat):Int)+1),(ZE F 0 t).ad=y.target)):=by
  intro j x B d;obtain⟨y,hy,_,K,hh⟩:=a6 j x B d;have hA:=a8 j x B d;refine⟨y,hy,K,?_⟩;obtain⟨M,rfl,_⟩|⟨M,t,H,T,_⟩:=hh;have:=Sd s (X9 s Z0 hy) M (w:=2*(ZE h j y).ad+1) (by rw[L _ hA,K]);rw[Jn,L _ hA,K]at this;exact .inl ⟨M,this⟩;have:=Sc s (X9 s Z0 hy) M (w:=2*(ZE h j x).ad+1) (by rw[L _ hA,K]);rw[Jn,L _ hA]at this;exact .inr ⟨M,this,t,H,T⟩
 obtain⟨y,hy,e0,f6⟩:=b0 j x B d;obtain⟨y',N,b2,b1⟩:=b0 j' D b5 a2;have d0:∀(i:Nat) (z t:Ob),i<2->z∈q.at (((i+2:Nat):Int)+1)->t∈q.at (((0:Nat):Int)+1)->(ZE F (i+2) z).ad≠(ZE F 0 t).ad:=λi z t W hz H=>Kd s Z0 Z0 (by rw[s.bz Z0];exact hz) (by rw[s.bz Z0];exact H) Z0;obtain⟨g1,n1⟩|⟨g1,n1,t,H,T⟩:=f6;obtain⟨g2,n2⟩|⟨g2,n2,t',P,X⟩:=b1;rw[<-n1,he,n2];exact(d0 j y t' B hy P<|by rw[e0,<-n1,he,n2,X]).elim;obtain⟨g2,n2⟩|⟨g2,n2,t',P,X⟩:=b1;exact(d0 j' y' t b5 N H<|by rw[b2,<-n2,<-he,n1,T]).elim;have f3:y.target=y'.target:=by rw[<-n1,he,n2]
 have hR:∀(i:Nat) (z:Ob),i<2->z∈q.at (((i+2:Nat):Int)+1)->z.gone=xk->Res g q (ZJ (Zv g) (((i+2:Nat):Int)+1) z.Z) (2*z.target+1):=λi z W hz M=>.inr ⟨_,z,Z0,hz,rfl,M,rfl⟩;have:=Res.inj I.body I.fa (hR j y B hy g1) (by rw[f3];exact hR j' y' b5 N g2);rw[<-e0,<-b2,Wh s Z0 hy,Wh s Z0 N,O];unfold ZJ at this;omega;rw[Q]at hv;have a4:=(ZeW.1 hw).1;obtain⟨_,a0⟩:=I.se j a4 w v hw hv;obtain⟨h1,h2⟩|⟨k,o,hk,ho,T,M,X⟩:=a0;exact .inl ⟨h1,h2⟩;obtain⟨z,rfl,c0⟩:∃z:Nat,k=((z+2:Nat):Int)+1/\z<2:=⟨(k-3).toNat,Z0,Z0⟩;have C:w≠0:=by
  rw[T];exact I.body.toTld.ui Z0 ho
 obtain h1|⟨f,hf,ha,hr⟩:=a9 w 1 2 Z0 Z0<|r.E w<|Zf5 hw;exact(C h1).elim;refine .inr ⟨C,Z0,f,hf,hr,?_⟩;obtain⟨t,H,c1,_⟩:=I.body.gone _ Z0 o ho M;have P:t∈q.at (((0:Nat):Int)+1):=H;have b9:(ZE F 0 t).ad=o.target:=by rw[Wh s Z0 P,O,c1];rfl
 have hT:1<=o.target:=by
  rw[<-b9,Wh s Z0 P];obtain⟨b,_,_,eb,_⟩:=s.toTld.ob Z0 P;have:=Vy s.bj (k:=((0:Nat):Int)+1);omega
 have e6:(adr w).1=(ZE F (z+2) o).ad:=by
  rw[T,I.body.toTld.kw Z0 ho,Wh s Z0 ho,O]
 have h3:=Sc s (X9 s Z0 ho) M e6;have h4:=Sd s (X9 s Z0 P) (s.bq (q:=0) Z0 (by rw[s.bz Z0];exact P)) (w:=v) (by rw[X,L _ hT,b9]);rw[h4,b9,<-ha,<-Jn,h3];rfl
end
end
section
section
variable {h g F:Hp}{p q:Pts}
def Rt.gu(s:Rt F q)(hc:F.M=xw):Yh q=0:=by
 obtain⟨_,a,d⟩:=s.rest hc;have f:=(s.al 3 Z0).sum<|Zg5 _;have g:=(s.al 4 Z0).sum<|Zg5 _;have j:=Dk q.an;have k:=Dk q.am;have h:Yh q=Y6 q.an+Y6 q.am:=rfl;simp only[Z65,BN,Pts.lg,Pts.lh,a,d,Zg2]at f g;omega
end
end
end Vm
end
section

end
section
namespace Vm
open Go Go.Proofs
def PC(a:Rj){h:Hp}{p:Pts}(d:h.ok)(r:Rt h p):VC (Yb Try.prog) 11 xw [ZD h]<|.ak [ZD<|ZU h 9223372036854775807,vi 0]:=by
 have:=PD a d;unfold zj at this;rw[Zf7 (by rw[r.right];simp)]at this;exact up this (J3<|VZ h)<|Ii _ _
end Vm
end
section
namespace Vm
open Go Go.Proofs Go.RowKit
def Xr(k r s i z p v:Int):Array Value:=#[.int .i64 k,.int .i64 r,.int .i64 s,.int .i64 i,.int .i64 z,.int .i64 p,.int .u64 v]
def WU(k:Int):TypeId:=if k=1 then 69 else if k=2 then 70 else if k=3 then 71 else if k=4 then 72 else if k=5 then 73 else if k=6 then 74 else 75
def RQ(k r s i z p v:Int):Value:=if 1<=k/\k<=7 then .iface (WU k) (.agg<|Xr k r s i z p v)else .nilIface
def Z48(w:Z3)(k r s i z p v:Int):Calls xP 15 #[.agg<|Xr k r s i z p v] w λe f=>e=.returned (RQ k r s i z p v)/\Below (xz<|xj w) w f:=by
 have a:k=1\/k=2\/k=3\/k=4\/k=5\/k=6\/k=7\/¬(1<=k/\k<=7):=Z0;unfold Xr;obtain rfl|rfl|rfl|rfl|rfl|rfl|rfl|a:=a;case inr.inr.inr.inr.inr.inr.inr=>
  have g:(k==1)=xw:=Ze4;have h:(k==2)=xw:=Ze4;have j:(k==3)=xw:=Ze4;have l:(k==4)=xw:=Ze4;have n:(k==5)=xw:=Ze4;have o:(k==6)=xw:=Ze4;have q:(k==7)=xw:=Ze4;have d:RQ k r s i z p v=.nilIface:=by unfold RQ;rw[Zf7 a]
  rw[d];clear a d;go_enter jh,Try.ntmps15;go_wp2;exact ZfA (v:=.nilIface) (by simp[results,Try.results15,go_sem]) rfl ⟨rfl,(Zfg _ _).alloc (Zf3 _) _⟩
 all_goals
  go_enter jh,Try.ntmps15;go_wp2;exact ZfA (by simp[results,Try.results15,go_sem];rfl) rfl ⟨rfl,(Zfg _ _).alloc (Zf3 _) _⟩
def Z80{P:Z6}(w:Z3)(v:Zc)(d T:Zf){fs:Array Field}(a:P.underlying T=J (.struct fs)):(Instr.typeAssert (.iface T v) d T xk).run P w=.ok (.tuple #[v,.bool xk]) w:=by
 simp[Instr.typeAssert,ZfD a]
def Z81{P:Z6}(w:Z3)(v z:Zc)(g t T:Zf){fs:Array Field}(a:P.underlying T=J (.struct fs))(f:(zeroValue T).run P w=.ok z w)(d:t≠T):(Instr.typeAssert (.iface t v) g T xk).run P w=.ok (.tuple #[z,.bool xw]) w:=by
 simp[Instr.typeAssert,ZfD a,d,f]
def jp:Value:=.agg #[.int .i64 0,.int .i64 0,.int .i64 0,.int .i64 0,.int .i64 0,.int .i64 0,.int .u64 0]
def Qh(w:Z3)(v:Zc)(t T:Zf)(f:T∈[69,70,71,72,73,74,75]):
  (Instr.typeAssert (.iface t v) 48 T xk).run xP w=.ok (if t=T then .tuple #[v,.bool xk]else .tuple #[jp,.bool xw]) w:=by
 have h:(∃a,xP.underlying T=J (.struct a))/\(zeroValue T).run xP w=.ok jp w:=by
  simp only[Zfi,Zgk,ZhA]at f;obtain rfl|rfl|rfl|rfl|rfl|rfl|rfl:=f;all_goals exact⟨⟨_,rfl⟩,rfl⟩
 obtain⟨⟨a,d⟩,g⟩:=h;by_cases e:t=T;subst e;rw[Zfc rfl];exact Z80 w v _ _ d;rw[Zf7 e];exact Z81 w v _ _ _ _ d g e
def Ov(w:Z3)(d a:Obj):((w.alloc d).alloc a).heap[xz (xj w)+1]?=J a:=by
 have:=Zfq (w.alloc d) a;rwa[ZgY]at this
def Ug(k r s:Int):List Int:=if k=1\/k=7 then [r]else if k=3\/k=5 then [s]else [r,s]
def Z54(w:Z3)(k r s i z p v:Int)(d:1<=k/\k<=7):Calls xP 16 #[RQ k r s i z p v] w λe f=>∃g,e=.returned (.slice (J ⟨g,0,U⟩) (I<|Ug k r s)<|I<|Ug k r s)/\Below (xz<|xj w) w f/\xz (xj w)<=g/\∀j u,(Ug k r s)[j]?=J u->f.cell? ⟨g,j,U⟩=J (.int .i64 u):=by
 have d:k=1\/k=2\/k=3\/k=4\/k=5\/k=6\/k=7:=Z0;obtain rfl|rfl|rfl|rfl|rfl|rfl|rfl:=d;all_goals
  unfold RQ;rw[Zfc Z0];simp only[WU];have h:=λt w v=>Qh w v t 69 Z1;have l:=λt w v=>Qh w v t 75 Z1;have n:=λt w v=>Qh w v t 71 Z1;have o:=λt w v=>Qh w v t 73 Z1;have q:=λt w v=>Qh w v t 70 Z1;have x:=λt w v=>Qh w v t 72 Z1;have y:=λt w v=>Qh w v t 74 Z1;unfold Xr;unfold jp at h l n o q x y;go_enter DV,Try.ntmps16;go_wp2;refine ZfA (by simp[results,Try.results16,go_sem];rfl) rfl ⟨xz (xj w)+1,rfl,((Zfg _ _).alloc (Zf3 _) _).alloc Z1 _,Z0,λj u a=> ?_⟩;rw[Zf6 _ _ _ _ _ _<|Ov _ _ _];simp[Ug]at a;first
  | (match j,a with
     |0,a=>simp at a;subst a;rfl
     |j+1,a=>simp at a;done)
  | (match j,a with
     |0,a=>simp at a;subst a;rfl
     |1,a=>simp at a;subst a;rfl
     |j+2,a=>simp at a)
def X6(h:Hp)(j i:Nat)(v:Int):Hp:=
 if j=0 then {h with H:=h.H.set i v}else if j=1 then {h with aa:=h.aa.set i v}else if j=2 then {h with an:=h.an.set i v}else if j=3 then {h with am:=h.am.set i v}else {h with E:=h.E.set i v}
def Z4u(h:Hp){j k:Nat}(i:Nat)(v:Int)(f:j<5)(g:k<5):Zu (X6 h j i v) k=if k=j then(Zu h j).set i v else Zu h k:=by
 have a:j=0\/j=1\/j=2\/j=3\/j=4:=Z0;have d:k=0\/k=1\/k=2\/k=3\/k=4:=Z0;obtain rfl|rfl|rfl|rfl|rfl:=a<;>obtain rfl|rfl|rfl|rfl|rfl:=d<;>rfl
def qy(h:Hp)(j i:Nat)(v:Int):(X6 h j i v).base=h.base/\(X6 h j i v).cap=h.cap/\(X6 h j i v).to=h.to/\(X6 h j i v).M=h.M/\(X6 h j i v).Y=h.Y:=by
 unfold X6;split;exact⟨rfl,rfl,rfl,rfl,rfl⟩;split;exact⟨rfl,rfl,rfl,rfl,rfl⟩;split;exact⟨rfl,rfl,rfl,rfl,rfl⟩;split<;>exact⟨rfl,rfl,rfl,rfl,rfl⟩
def Gv(h:Hp)(j i:Nat)(v:Int)(x:Z5):Zx (X6 h j i v) x=Zx h x:=by
 obtain⟨a,d,f,g,k⟩:=qy h j i v;unfold Zx;rw[a,d,f,g,k]
theorem HOwn.put{B:Nat}{W:Z3}{h:Hp}{x:Z5}(d:HOwn B W h x){j i:Nat}(p:j<5){g cap:Nat}(hx:x j=.slice (J ⟨g,0,U⟩) (I<|Zu h j) cap)(v:Int):HOwn B (W.setCell ⟨g,i,U⟩<|.int .u64 v) (X6 h j i v) x:=by
 refine⟨λk f=> ?_,d.apart⟩;rw[Z4u h i v p f];by_cases e:k=j;subst e;rw[Zfc rfl,Zgx];have l:=d.own k f;rw[hx]at l⊢;have a:=(l.stored i<|.int .u64 v).1;rw[J5];exact a;rw[Zf7 e];refine ownsRow_setCell_other (d.own k f) (λn=> ?_) _;have o:(x j).ownBlock=J g:=by rw[hx];rfl
 obtain a|a:=Zhp e;exact d.apart k j a p g n o;exact d.apart j k a f g o n
structure MSt (w W:World) (ta:TypeId) (act:Array Value) (h:Hp) (y:Nat->Value) (nb:Nat):Prop where
 act:W.heap[xz<|xj w]?=J (.cells act ta (0,0))
 dg:W.heap[xz (xj w)+2]?=J (.cells ZI 27 (0,0))
 df:W.heap[nb]?=J (.cells #[.int .u64 h.base,.int .i64 h.cap,.int .i64 h.to,.bool h.M,.int .i64 h.Y,y 0,y 1,y 2,y 3,y 4] 27 (0,0))
 own:HOwn (xz (xj w)+3) W h y
 am:∀j,j<5->∀c,(y j).ownBlock=J c->c≠nb
 bp:Below (xz<|xj w) w W
 nB:xz (xj w)+3<=nb
def MSt.F{w W:Z3}{f:Zf}{a:Za}{h:Hp}{y:Z5}{d:Nat}(s:MSt w W f a h y d):(∀j,W.cell? ⟨xz<|xj w,j,U⟩=a[j]?)/\(∀j,W.cell? ⟨d,j,U⟩=(#[.int .u64 h.base,.int .i64 h.cap,.int .i64 h.to,.bool h.M,.int .i64 h.Y,y 0,y 1,y 2,y 3,y 4]:Array Value)[j]?):=
 ⟨λj=>Zf6 _ _ _ _ _ _ s.act,λj=>Zf6 _ _ _ _ _ _ s.df⟩
theorem MSt.put{w W:Z3}{n:Zf}{a:Za}{h:Hp}{y:Z5}{l:Nat}(s:MSt w W n a h y l){j i:Nat}(d:j<5){g cap:Nat}(hx:y j=.slice (J ⟨g,0,U⟩) (I<|Zu h j) cap)(v:Int):MSt w (W.setCell ⟨g,i,U⟩<|.int .u64 v) n a (X6 h j i v) y l:=by
 have k:(y j).ownBlock=J g:=by rw[hx];rfl
 have x:=((s.own.own j d).lt g k).1;have f:∀c,c≠g->(W.setCell ⟨g,i,U⟩<|.int .u64 v).heap[c]?=W.heap[c]? :=λc u=>Zff _ _ _ _ u;obtain⟨o,p,q,r,t⟩:=qy h j i v;refine⟨(f _ Z0).trans s.act,(f _ Z0).trans s.dg,?_,s.own.put d hx v,s.am,s.bp.setCell (by show xz (xj w)<=g;omega) _,s.nB⟩;rw[f _ (λe=>s.am j d g k e.symm),o,p,q,r,t];exact s.df
def Ie{w k o:Z3}{T:Zf}{a cs:Za}{h:Hp}{y:Z5}(f:Below (xz<|xj<|((w.alloc<|.cells a T).alloc<|.cells cs 27).alloc<|.cells ZI 27) (((w.alloc<|.cells a T).alloc<|.cells cs 27).alloc<|.cells ZI 27) k)
  (d:HOwn (xz<|xj<|((w.alloc<|.cells a T).alloc<|.cells cs 27).alloc<|.cells ZI 27) k h y) (r:k.alloc (.cells #[.int .u64 h.base,.int .i64 h.cap,.int .i64 h.to,.bool h.M,.int .i64 h.Y,y 0,y 1,y 2,y 3,y 4] 27)=o):MSt w o T a h y<|xz<|xj k:=by
 have t:xz (xj<|((w.alloc<|.cells a T).alloc<|.cells cs 27).alloc<|.cells ZI 27)=xz (xj w)+3:=Z1;have p:(((w.alloc<|.cells a T).alloc<|.cells cs 27).alloc<|.cells ZI 27).heap[xz<|xj w]?=J (.cells a T (0,0)):=by
  rw[Zfa _ _ _ Ze4,Zfa _ _ _ Z1];exact Zfq _ _
 have q:(((w.alloc<|.cells a T).alloc<|.cells cs 27).alloc<|.cells ZI 27).heap[xz (xj w)+2]?=J (.cells ZI 27 (0,0)):=by
  have:=Zfq ((w.alloc<|.cells a T).alloc<|.cells cs 27)<|.cells ZI 27;simpa using this
 have l:Below (xz<|xj w) w<|((w.alloc<|.cells a T).alloc<|.cells cs 27).alloc<|.cells ZI 27:=(((Zfg _ _).alloc (Zf3 _) _).alloc Z1 _).alloc Ze4 _;generalize ((w.alloc<|.cells a T).alloc<|.cells cs 27).alloc (.cells ZI 27)=w3 at*;have u:=f.size;subst r;rw[t]at d;refine⟨(Zfa _ _ _ Z0).trans<|(f.block _ Z0).trans p,(Zfa _ _ _ Z0).trans<|(f.block _ Z0).trans q,Zfq _ _,⟨λj g=>Xe (d.own j g) λc n=>Zfa _ _ _ ((d.own j g).lt c n).2,d.apart⟩,λj g c n=> ?_,(l.trans<|f.mono Z0).alloc Z0 _,Z0⟩;have:=((d.own j g).lt c n).2;omega
def BE{w:Z3}{B g cap n:Nat}{e:Zf}{z:Nat}{xs:Zp}(h:w.ownsRow B e z (.slice (J ⟨g,0,U⟩) n cap) n xs)(o:0<n){i:Nat}:w.frozen? ⟨g,i,U⟩=xw:=by
 obtain⟨f,_⟩|⟨l,a,d,j,_,k,_⟩:=h.2;cases f;cases j;exact Y9 k
def MSt.R{w W:Z3}{f:Zf}{a:Za}{h:Hp}{y:Z5}{d:Nat}(s:MSt w W f a h y d):(∀j,W.cell? ⟨xz (xj w)+1+1,j,U⟩=(#[.int .u64 0,.int .i64 0,.int .i64 0,.bool xw,.int .i64 0,.slice U 0 0,.slice U 0 0,.slice U 0 0,.slice U 0 0,.slice U 0 0]:Array Value)[j]?)/\∀j,W.frozen? ⟨xz (xj w)+1+1,j,U⟩=xw:=
 ⟨λj=>Zf6 _ _ _ _ _ _ s.dg,λj=>Y9 s.dg⟩
def Fl{w W:Z3}{n:Zf}{a:Za}{g:Hp}{y:Z5}{l:Nat}(s:MSt w W n a g y l){v0 v1 v2 v3 v4 v5 v6 v7 v8 v9:Zc}:TA w (g,0) (.returned<|.tuple #[Zx g y,.int .i64 0])<|(((((((((W.setCell ⟨xz (xj w)+1+1,0,U⟩ v0).setCell ⟨xz (xj w)+1+1,1,U⟩ v1).setCell ⟨xz (xj w)+1+1,2,U⟩ v2).setCell ⟨xz (xj w)+1+1,3,U⟩ v3).setCell ⟨xz (xj w)+1+1,4,U⟩ v4).setCell ⟨xz (xj w)+1+1,5,U⟩ v5).setCell ⟨xz (xj w)+1+1,6,U⟩ v6).setCell ⟨xz (xj w)+1+1,7,U⟩ v7).setCell ⟨xz (xj w)+1+1,8,U⟩ v8).setCell ⟨xz (xj w)+1+1,9,U⟩ v9:=by
 refine⟨y,rfl,Wq s.bp Z0,λj d=> ?_⟩;refine S5 (k:=.u64) (Xe (s.own.own j d) λc h=>Va (by have:=((s.own.own j d).lt c h).1;omega)) λc o f=>⟨Z0,f⟩
def Z1Q{w W:Z3}(a:Below (xz<|xj w) w W)(e:Int){v0 v1 v2 v3 v4 v5 v6 v7 v8 v9:Zc}:TA w (Hp.zero,e) (.returned<|.tuple #[.agg ZI,.int .i64 e])<|(((((((((W.setCell ⟨xz (xj w)+1+1,0,U⟩ v0).setCell ⟨xz (xj w)+1+1,1,U⟩ v1).setCell ⟨xz (xj w)+1+1,2,U⟩ v2).setCell ⟨xz (xj w)+1+1,3,U⟩ v3).setCell ⟨xz (xj w)+1+1,4,U⟩ v4).setCell ⟨xz (xj w)+1+1,5,U⟩ v5).setCell ⟨xz (xj w)+1+1,6,U⟩ v6).setCell ⟨xz (xj w)+1+1,7,U⟩ v7).setCell ⟨xz (xj w)+1+1,8,U⟩ v8).setCell ⟨xz (xj w)+1+1,9,U⟩ v9:=
 ⟨λ_=>.slice U 0 0,rfl,Wq a Z0,JA _ _⟩
end Vm
end
section
namespace Vm
open Go Go.Proofs
def M1:Fn:=⟨5,[0,1,2,3,6],pQ [pR [(1,pS 0 2),pV 2<|pU 0,pV 3<|pI 0],pQ [pC [pK 5 41 [.mm 1 0 2]] [pV 4<|.un .not<|.s 5]]<|pw (.s 4)<|px [pV 2<|pU 0,pV 3<|pI 1]]<|px [pV 2<|pa (.bu .shl (.conv .u64<|.m 1 0)<|pU 1)<|.bu .shl (.conv .u64<|.m 1 1)<|pU 17,pV 3<|pI 0],[(2,.v),(3,.v)]⟩
def c23:xQ [.fz] Try.f23=J M1:=Z2
def M2:Fn:=⟨4,[0,1,2,4],pQ [pR [(2,pS 0 10),pV 3 pF],pC [pK 4 12 [.mm 2 0 10]] [pV 3<|pL (pa (pa (pa (.len<|.m 2 5)<|.len<|.m 2 6)<|.s 4)<|.s 1)<|.m 2 1]] .ret,[(3,.v)]⟩
def c25:xQ [.fz,.fz] Try.f25=J M2:=Z2
def Z2M{s p:Int}:VC xP 23 xw [WM s p]<|.ak [vu (X5 s p).1,vi (X5 s p).2]:=by
 refine Y4 DW follows Z2 c23 rfl ?_;simp[M1];refine ZC Cr Z1 ?_;cases h:Yq s p;simp[X5,h];obtain⟨q,r,t,u⟩:=YH.1 h;have a:=Yn s Z0 Z0;have d:=Yn p Z0 Z0;have n:(2:Int) ^ min 1 IntKind.u64.bits=2:=Zeh;have o:(2:Int) ^ min 17 IntKind.u64.bits=131072:=Zeh;have f:=Yn (p*131072) Z0 Z0;have g:=Yn (s*2) Z0 Z0;have j:=Yn (s*2+p*131072) Z0 Z0;have k:s*2+p*131072=2*(s+65536*p):=Z0;have l:=Yn (2*(s+65536*p)) Z0 Z0;simp[X5,h,YX,a,d,n,o,f,g,j,k,l]
def YB(h:Hp)(p:Pts)(n:Int):Bool:=decide ((I h.H:Int)+I h.aa+Yh p+n<=h.cap)
def Rt.nx{h:Hp}{p:Pts}(r:Rt h p):h.cap<=4096:=by
 exact(XL.1 r.bj).2.1
def Z7B{h:Hp}(g:h.ok){p:Pts}(r:Rt h p){n:Int}(l:0<=n/\n<=1000):VC xP 25 xw [ZD h,vi n]<|.bool<|YB h p n:=by
 refine Y4 DY follows Z2 c25 rfl ?_;have k1:=Dw g;rw[r.mf]at k1;have j:=r.room;have k:=r.nx;simp only[ZD]at k1⊢;simp[M2];refine ZC k1 Z1 ?_;have a:=ZB ((I h.H:Int)+I h.aa) Z0 Z0;have d:=ZB ((I h.H:Int)+I h.aa+(Yh p:Nat)) Z0 Z0;have f:=ZB ((I h.H:Int)+I h.aa+(Yh p:Nat)+n) Z0 Z0;simp[a,d,f,YB]
def T4(k r s i z p v:Int):V:=.agg [vi k,vi r,vi s,vi i,vi z,vi p,vu v]
end Vm
end
section
namespace Vm
open Go Go.Proofs Go.RowKit
def Z2S{W:Z3}{G:Z4}{g:Hp}{e:Int}{v:Zc}(r:Rd W G (.ak [ZD g,vi e]) v):∃x,v=.tuple #[Zx g x,.int .i64 e]/\∀j,j<5->Rd W G (.sl<|(Zu g j).map vu) (x j):=by
 cases r with
 |ak _ vs l h=>
  obtain⟨x,d,n⟩:=zI<|h 0 _ rfl;have f:=Tt<|h 1 _ rfl;refine⟨x,?_,n⟩;congr 1;have a:vs.size=2:=ZeT;apply Zhq;simp[a];intro i o p;have k:i<2:=Z0
  match i,k with
  |0,_=>simp[Array.getD,a]at d;simpa using d
  |1,_=>simp[Array.getD,a]at f;simpa using f
def LD(G:Z4)(W:Z3)(r:Hp×Int)(e:Ending)(W':Z3):Prop:=
 ∃x,e=.returned (.tuple #[Zx r.1 x,.int .i64 r.2])/\Below (xz<|xj W) W W'/\∀j,j<5->Rd W' (λc=>G c\/(xz (xj W)<=c/\c<xz (xj W'))) (.sl<|(Zu r.1 j).map vu) (x j)
def Z2R{f:Zm}{h g:Hp}{k n:Int}(l:VC xP f xw [ZD h,vi k]<|.ak [ZD g,vi n]){W:Z3}{G:Z4}{x:Z5}(o:∀b,G b->b<xz (xj W))(r:∀j,j<5->Rd W G (.sl<|(Zu h j).map vu) (x j)):
  Calls xP f #[Zx h x,.int .i64 k] W (LD G W (g,n)):=by
 refine Zhc (l.2 W G _ o rfl ?_) ?_;intro i y a
 match i,a with
 |0,a=>cases a;exact RJ r
 |1,a=>cases a;exact .int _ _
 rintro e w ⟨v,rfl,p,l⟩;obtain⟨u,rfl,t⟩:=Z2S l;exact⟨u,rfl,p,λj q=>(t j q).mono λb d=>Zeg⟩
def Ny{h:Hp}(k:h.ok){p:Pts}(r:Rt h p){n:Int}(l:0<=n/\n<=1000){W:Z3}{G:Z4}{x:Z5}(f:∀b,G b->b<xz (xj W))(o:∀j,j<5->Rd W G (.sl<|(Zu h j).map vu) (x j)):
  Calls xP 25 #[Zx h x,.int .i64 n] W λe d=>e=.returned (.bool<|YB h p n)/\Below (xz<|xj W) W d:=by
 refine Zhc ((Z7B k r l).2 W G _ f rfl ?_) ?_;intro i y a
 match i,a with
 |0,a=>cases a;exact RJ o
 |1,a=>cases a;exact .int _ _
 rintro e d ⟨v,rfl,g,q⟩;exact⟨by rw[Cj q],g⟩
def My{s p:Int}(w:Z3):Calls xP 23 #[.agg #[.int .i64 s,.int .i64 p]] w λe a=>e=.returned (.tuple #[.int .u64 (X5 s p).1,.int .i64 (X5 s p).2])/\Below (xz<|xj w) w a:=
 T8 (Z2M (s:=s) (p:=p)) rfl rfl w
def X0(g:Hp)(x:Z5):Array Value:=#[.int .u64 g.base,.int .i64 g.cap,.int .i64 g.to,.bool g.M,.int .i64 g.Y,x 0,x 1,x 2,x 3,x 4]
structure PSt (w W:World) (nb:Nat) (g:Hp) (x:Nat->Value) (Q:Prop):Prop where
 dg:W.heap[xz (xj w)+2]?=J (.cells ZI 27 (0,0))
 df:W.heap[nb]?=J (.cells (X0 g x) 27 (0,0))
 rd:∀j,j<5->Rd W (λc=>xz (xj w)+3<=c/\c<xz (xj W)/\c≠nb) (.sl<|(Zu g j).map vu) (x j)
 bp:Below (xz<|xj w) w W
 nB:xz (xj w)+3<=nb
 own:Q->HOwn (xz (xj w)+3) W g x/\∀j,j<5->∀c,(x j).ownBlock=J c->c≠nb
def PSt.below{w W W':Z3}{h:Nat}{g:Hp}{x:Z5}{Q:Prop}(s:PSt w W h g x Q)(a:Below (xz<|xj W) W W'):PSt w W' h g x Q:=by
 have k:=ZV s.df;have l:=ZV s.dg;have o:=a.size;refine⟨(a.block _ l).trans s.dg,(a.block _ k).trans s.df,λj d=>((s.rd j d).keep (λb f=>a.block b f.2.1) λ_ q=>q).mono λb q=>⟨q.1,Z0,q.2.2⟩,s.bp.trans<|a.mono s.bp.size,s.nB,λq=>⟨⟨λj d=>Xe ((s.own q).1.own j d) λc n=>a.block _ (((s.own q).1.own j d).lt c n).2,(s.own q).1.apart⟩,(s.own q).2⟩⟩
def PSt.F{w W:Z3}{a:Nat}{g:Hp}{x:Z5}{Q:Prop}(s:PSt w W a g x Q):(∀j,W.cell? ⟨a,j,U⟩=(#[.int .u64 g.base,.int .i64 g.cap,.int .i64 g.to,.bool g.M,.int .i64 g.Y,x 0,x 1,x 2,x 3,x 4]:Array Value)[j]?)/\∀j,W.frozen? ⟨a,j,U⟩=xw:=
 ⟨λj=>Zf6 _ _ _ _ _ _ s.df,λj=>Y9 s.df⟩
def PSt.R{w W:Z3}{a:Nat}{g:Hp}{x:Z5}{Q:Prop}(s:PSt w W a g x Q):(∀j,W.cell? ⟨xz (xj w)+1+1,j,U⟩=(#[.int .u64 0,.int .i64 0,.int .i64 0,.bool xw,.int .i64 0,.slice U 0 0,.slice U 0 0,.slice U 0 0,.slice U 0 0,.slice U 0 0]:Array Value)[j]?)/\∀j,W.frozen? ⟨xz (xj w)+1+1,j,U⟩=xw:=
 ⟨λj=>Zf6 _ _ _ _ _ _ s.dg,λj=>Y9 s.dg⟩
def WK(W:Z3)(b:Nat)(v0 v1 v2 v3 v4 v5 v6 v7 v8 v9:Zc):World:=(((((((((W.setCell ⟨b,0,U⟩ v0).setCell ⟨b,1,U⟩ v1).setCell ⟨b,2,U⟩ v2).setCell ⟨b,3,U⟩ v3).setCell ⟨b,4,U⟩ v4).setCell ⟨b,5,U⟩ v5).setCell ⟨b,6,U⟩ v6).setCell ⟨b,7,U⟩ v7).setCell ⟨b,8,U⟩ v8).setCell ⟨b,9,U⟩ v9
def yU{W:Z3}{a:Nat}{g:Hp}{x:Z5}{T:Zf}(d:W.heap[a]?=J (.cells (X0 g x) T (0,0)))(v0 v1 v2 v3 v4 v5 v6 v7 v8 v9:Zc):(WK W a v0 v1 v2 v3 v4 v5 v6 v7 v8 v9).heap[a]?=J (.cells #[v0,v1,v2,v3,v4,v5,v6,v7,v8,v9] T (0,0)):=by
 unfold X0 at d;unfold WK;simp[World.setCell,Zfy,d]
def yV(W:Z3)(a:Nat)(v0 v1 v2 v3 v4 v5 v6 v7 v8 v9:Zc):xz (xj<|WK W a v0 v1 v2 v3 v4 v5 v6 v7 v8 v9)=xz (xj W):=by
 unfold WK;simp[World.setCell]
def PSt.store{w W d:Z3}{f:Nat}{g g2:Hp}{x a:Z5}{Q:Prop}(s:PSt w W f g x Q)(l:Below (xz<|xj W) W d)
  (p:∀j,j<5->Rd d (λc=>(xz (xj w)+3<=c/\c<xz (xj W)/\c≠f)\/(xz (xj W)<=c/\c<xz (xj d))) (.sl<|(Zu g2 j).map vu) (a j)):
  PSt w (WK d f (.int .u64 g2.base) (.int .i64 g2.cap) (.int .i64 g2.to) (.bool g2.M) (.int .i64 g2.Y) (a 0) (a 1) (a 2) (a 3)<|a 4) f g2 a False:=by
 have k:=s.below l;have t:=ZV s.df;have u:=l.size;have r:=s.bp.size;have o:=s.nB;refine⟨(Va Z0).trans k.dg,yU k.df _ _ _ _ _ _ _ _ _ _,λj n=>((p j n).keep (λb h=> ?_) λ_ q=>q).mono λb q=> ?_,Wq k.bp Z0,o,λq=>q.elim⟩;exact Va (by obtain q|q:=h<;>omega);rw[yV];obtain q|q:=q;exact⟨q.1,Z0,q.2.2⟩;exact⟨Z0,q.2,Z0⟩
def TB(w:Z3)(r:Int×Hp×Int)(Q:Prop)(e:Ending)(w':Z3):Prop:=
 ∃x,e=.returned (.tuple #[.int .u64 r.1,Zx r.2.1 x,.int .i64 r.2.2])/\Below (xz<|xj w) w w'/\(∀j,j<5->Rd w' (λc=>xz (xj w)<=c/\c<xz (xj w')) (.sl<|(Zu r.2.1 j).map vu) (x j))/\(Q->HOwn (xz<|xj w) w' r.2.1 x)
def Yt(g:Hp)(wd:Int)(n:Nat):Hp:= {g with aa:=(wd::List.replicate n 0)++g.aa}
structure Tri (w W:World) (o0 o1:Obj):Prop where
 b0:W.heap[xz<|xj w]?=J o0
 b1:W.heap[xz (xj w)+1]?=J o1
 b2:W.heap[xz (xj w)+2]?=J (.cells ZI 27 (0,0))
 bp:Below (xz<|xj w) w W
def qS(w:Z3)(a d:Obj):∃W,((w.alloc a).alloc d).alloc (.cells #[.int .u64 0,.int .i64 0,.int .i64 0,.bool xw,.int .i64 0,.slice U 0 0,.slice U 0 0,.slice U 0 0,.slice U 0 0,.slice U 0 0] 27)=W/\xz (xj W)=xz (xj w)+3/\Tri w W a d:=by
 refine⟨_,rfl,Z1,?_,?_,?_,(((Zfg _ _).alloc (Zf3 _) _).alloc Z1 _).alloc Ze4 _⟩;rw[Zfa _ _ _ Ze4,Zfa _ _ _ Z1];exact Zfq _ _;rw[Zfa _ _ _ Z1];exact Ov _ _ _;have:=Zfq ((w.alloc a).alloc d)<|.cells ZI 27;simpa[ZI]using this
def Tri.below{w W W':Z3}{d f:Obj}(s:Tri w W d f)(a:Below (xz<|xj W) W W'):Tri w W' d f:=
 ⟨(a.block _<|ZV s.b0).trans s.b0,(a.block _<|ZV s.b1).trans s.b1,(a.block _<|ZV s.b2).trans s.b2,s.bp.trans<|a.mono s.bp.size⟩
def Tri.F{w W:Z3}{c0 a:Za}{t0 d:Zf}(s:Tri w W (.cells c0 t0)<|.cells a d):(∀j,W.cell? ⟨xz<|xj w,j,U⟩=c0[j]?)/\(∀j,W.cell? ⟨xz (xj w)+1,j,U⟩=a[j]?)/\(∀j,W.cell? ⟨xz (xj w)+1+1,j,U⟩=ZI[j]?)/\∀j,W.frozen? ⟨xz (xj w)+1+1,j,U⟩=xw:=
 ⟨λj=>Zf6 _ _ _ _ _ _ s.b0,λj=>Zf6 _ _ _ _ _ _ s.b1,λj=>Zf6 _ _ _ _ _ _ s.b2,λj=>Y9 s.b2⟩
def Z6J{w w2 d l:Z3}{C D:Obj}{h:Hp}{y:Z5}(s:Tri w w2 C D)(A:xz (xj w)+3<=xz (xj w2))(z:Below (xz<|xj w2) w2 d)
  (o:HOwn (xz<|xj w2) d h y) (f:d.alloc (.cells (X0 h y) 27)=l):PSt w l (xz<|xj d) h y True:=by
 have p:=s.below z;have F:=z.size;have x:∀j,j<5->∀c,(y j).ownBlock=J c->xz (xj w2)<=c/\c<xz (xj d):=λj a c g=>((o.own j a).lt c g);have B:xz (xj l)=xz (xj d)+1:=by rw[<-f];simp
 have n:=ZV s.b2;have t:HOwn (xz (xj w)+3) l h y:=⟨λj a=>KQ (Xe (o.own j a) λc g=>by rw[<-f];exact Zfa _ _ _ (x j a c g).2) λc u n=>⟨Z0,n⟩,o.apart⟩;refine⟨by rw[<-f];exact(Zfa _ _ _<|ZV p.b2).trans p.b2,by rw[<-f];exact Zfq _ _,λj a=> ?_,by rw[<-f];exact p.bp.alloc p.bp.size _,Z0,λ_=>⟨t,λj a c g=>by have:=(x j a c g).2;omega⟩⟩;refine((S5 (k:=.u64) (o.own j a) (G:=λc=>xz (xj w2)<=c/\c<xz (xj d)) λc u n=>⟨u,n⟩).keep (λb r=>by rw[<-f];exact Zfa _ _ _ r.2) λ_ q=>q).mono λb q=>⟨Z0,Z0,Z0⟩
def Xp{W:Z3}{G:Z4}{l:Z9}{y:Zc}(h:Rd W G (.sl<|l.map vu) y):∃a c,y=.slice a (I l) c:=by
 generalize g:l.map vu=L at h;have d:I L=I l:=by rw[<-g,Zfu]
 cases h with
 |nil a c f=>exact⟨_,_,by rw[<-d];rfl⟩
 |sl _ b o cap k vs f j=>exact⟨_,_,by rw[d]⟩
def PSt.imp{w W:Z3}{a:Nat}{g:Hp}{x:Z5}{Q Q':Prop}(s:PSt w W a g x Q)(h:Q'->Q):PSt w W a g x Q':=⟨s.dg,s.df,s.rd,s.bp,s.nB,λq=>s.own<|h q⟩
def PSt.place{w W W':Z3}{t:Nat}{g:Hp}{x:Z5}{Q:Prop}(s:PSt w W t g x Q){l:Z9}{v:Zc}(F:xz (xj W)<=xz (xj W'))(y:∀b,b<xz (xj W)->b≠t->W'.heap[b]?=W.heap[b]?)
  (B:W'.heap[t]?=J (.cells (X0 {g with aa:=l}<|λj=>if j=1 then v else x j) 27 (0,0))) (r:W'.ownsRow (xz<|xj W) 22 1 v (I l)<|Y3 .u64 l) (o:Below (xz<|xj w) w W'):PSt w W' t {g with aa:=l} (λj=>if j=1 then v else x j) Q:=by
 have C:=s.bp.size;have z:=s.nB;have p:∀j,j<5->j≠1->Zu {g with aa:=l} j=Zu g j:=λj h a=>by
  have:j=0\/j=2\/j=3\/j=4:=Z0;obtain rfl|rfl|rfl|rfl:=this<;>rfl
 have D:xz (xj w)+3<=xz (xj W):=by have:=ZV s.df;omega
 refine⟨(y _ (ZV s.dg) Z0).trans s.dg,B,λj h=> ?_,o,z,λq=>⟨⟨λj h=> ?_,λi j u h c d f=> ?_⟩,λj h c d=> ?_⟩⟩;by_cases a:j=1;subst a;rw[Zfc rfl];exact S5 (k:=.u64) r λc a n=>⟨Z0,n,by have:=ZV s.df;omega⟩;rw[Zf7 a,p j h a];exact((s.rd j h).keep (λb A=>y b A.2.1 A.2.2) λ_ q=>q).mono λb q=>⟨q.1,Z0,q.2.2⟩;by_cases a:j=1;subst a;rw[Zfc rfl];exact KQ r λc a n=>⟨Z0,n⟩;rw[Zf7 a,p j h a];exact Xe ((s.own q).1.own j h) λc d=>y c (((s.own q).1.own j h).lt c d).2<|(s.own q).2 j h c d;by_cases a:i=1;subst a;rw[Zfc rfl]at d;rw[Zf7 Z0]at f;have:=(r.lt c d).1;have:=(((s.own q).1.own j h).lt c f).2;omega;rw[Zf7 a]at d;by_cases n:j=1;subst n;rw[Zfc rfl]at f;have:=(r.lt c f).1;have:=(((s.own q).1.own i Z0).lt c d).2;omega;rw[Zf7 n]at f;exact(s.own q).1.apart i j u h c d f;by_cases a:j=1;subst a;rw[Zfc rfl]at d;have:=(r.lt c d).1;have:=ZV s.df;omega;rw[Zf7 a]at d;exact(s.own q).2 j h c d
def Z6B{W:Z3}{G:Z4}{B p n K:Nat}{l h:Z9}{y:Zc}(w:B<=xz (xj W))(o:W.ownsRow B 22 1 (.slice (J ⟨p,0,U⟩) n K) n<|Y3 .u64 l)(z:Rd W G (.sl<|h.map vu) y)(A:n+I h<=2000000)(ty:Zf):
  ∃a c g,(Builtin.append_ #[25,25] ty #[.slice (J ⟨p,0,U⟩) n K,y]).run xP W=.ok (.slice a (n+I h) c) g/\g.ownsRow B 22 1 (.slice a (n+I h) c) (I<|l++h) (Y3 .u64<|l++h)/\W.grownBy g (J p):=by
 have x:=Sq;rw[<-Ux]at o;obtain⟨C,g,f,q,d,r,_,_,t⟩:=Lj (P:=xP) (ty:=ty) x QB o w z (by rw[Ux];exact qL _) (by simp only[YJ,Zfu];omega);rw[Ux]at d;have k:I l=n:=by have:=o.1;rw[Ux]at this;simpa[Y3]using this
 have j:I f=I h:=by have:=d.1;simp[Y3]at this;omega
 have u:=yn t j;obtain⟨a,c,e⟩:=XK d;subst e;rw[u]at d;simp only[Zfu]at d q;refine⟨a,c,g,q,?_,r⟩;rw[ZfK,k];simpa[Y3]using d
def Z4B{m K:Nat}(l:m<=K)(k:K<=4096)(W:Z3):(Instr.makeSlice 25 (.int .i64 (m:Int))<|.int .i64 (K:Int)).run xP W=.ok (.slice (J ⟨xz<|xj W,0,U⟩) m K) (W.alloc<|.cells (madeCells #[.int .u64 0] K) 22):=by
 have a:(xP.info? 22).map (λi=>(i.zero,i.size,i.bytes))=J (J<|.int .u64 0,1,8):=Z2;obtain⟨i,g,d⟩:=ZeY.1 a;simp only[Zf9]at d;obtain⟨j,h,f⟩:=d;have:=run_make (P:=xP) (w:=W) 25 22 i (.int .u64 0) Sq g j .i64 .i64 m K Z0 Z0 (by rw[f];omega) Z0;simpa[h,Value.cells]using this
def Z4A{W:Z3}{B m K:Nat}(d:B<=xz (xj W))(a:m<=K)(f:K<=4096):(W.alloc<|.cells (madeCells #[.int .u64 0] K) 22).ownsRow B 22 1 (.slice (J ⟨xz<|xj W,0,U⟩) m K) m<|Y3 .u64<|List.replicate m 0:=by
 refine⟨by simp[Y3],.inr ⟨_,K,_,rfl,d,Zfq _ _,a,Zej,by rw[size_madeCells];simp,?_⟩⟩;rw[toList_madeCells_one];simp[Y3,List.take_replicate,Zij a]
def ML{g:Hp}{wd:Int}{n m:Nat}(p:ZQ (Zv g)=xk)(u:n+1=m)(t:(I g.H:Int)+I g.aa+m<=g.cap):ZQ (Zv<|Yt g wd n)=xk:=by
 obtain⟨d,f,h,j,k,⟨l,q,o,r⟩,a⟩:=XL.1 p;refine XL.2 ⟨d,f,h,j,k,⟨l,?_,o,?_⟩,a⟩;show(0:Int)<=(I ((wd::List.replicate n 0)++g.aa):Nat);omega;show((I ((wd::List.replicate n 0)++g.aa):Nat):Int)<=g.cap-I g.H;simp;omega
def MJ{g:Hp}{wd:Int}{n:Nat}(a:g.ok)(f:ZA wd)(h:n+1+I g.aa<=1000000):(Yt g wd n).ok:=by
 refine⟨a.base,a.cap,a.to,a.Y,a.H,?_,a.an,a.am,a.E,a.ft,λx d=> ?_,a.ko,a.kf,a.db⟩;simp[Yt];omega;simp only[Yt,Zgc,Zfi,Zfs,ZhN]at d;obtain rfl|⟨_,rfl⟩|d:=d;exact f;unfold ZA;omega;exact a.gc x d
def Z6D{g:Hp}{wd:Int}{n:Nat}(d:ZQ (Zv<|Yt g wd n)=xk):Yr (Zv<|Yt g wd n) 2 0=(fstL (Zv<|Yt g wd n) 2,0)/\ZA (fstL (Zv<|Yt g wd n) 2)/\V9 (fstL (Zv<|Yt g wd n) 2)=(ZJ (Zv<|Yt g wd n) 2 0,0):=by
 have f:X7 (Zv<|Yt g wd n) 2=(n+1+I g.aa:Nat):=by
  show((I ((wd::List.replicate n 0)++g.aa):Nat):Int)=_;simp;omega
 obtain⟨h,j,l,o⟩:=Vy d 2;refine⟨?_,⟨Z0,Z0⟩,?_⟩;have:=Qr d (k:=2) (a:=0) Z0 Z0;simpa using this;unfold V9 ZJ;rw[Zf7 Z0,Int.add_zero]
def Z6C{w W:Z3}{l:Nat}{g:Hp}{x:Z5}{Q:Prop}(s:PSt w W l g x Q)(v:Int){v0 v1 v2 v3 v4 v5 v6 v7 v8 v9:Zc}:TB w (v,g,0) Q (.returned<|.tuple #[.int .u64 v,Zx g x,.int .i64 0]) ((((((((((W.setCell ⟨xz (xj w)+1+1,0,U⟩ v0).setCell ⟨xz (xj w)+1+1,1,U⟩ v1).setCell ⟨xz (xj w)+1+1,2,U⟩ v2).setCell ⟨xz (xj w)+1+1,3,U⟩ v3).setCell ⟨xz (xj w)+1+1,4,U⟩ v4).setCell ⟨xz (xj w)+1+1,5,U⟩ v5).setCell ⟨xz (xj w)+1+1,6,U⟩ v6).setCell ⟨xz (xj w)+1+1,7,U⟩ v7).setCell ⟨xz (xj w)+1+1,8,U⟩ v8).setCell ⟨xz (xj w)+1+1,9,U⟩ v9).drew:=by
 have h:=yV W (xz (xj w)+1+1) v0 v1 v2 v3 v4 v5 v6 v7 v8 v9;have f:∀c,c≠xz (xj w)+1+1->_:=λc d=> @Z6O W (xz (xj w)+1+1) c d v0 v1 v2 v3 v4 v5 v6 v7 v8 v9;unfold WK at h;refine⟨x,rfl,(Wq s.bp Z0).drew,λj a=>((s.rd j a).keep (λb o=>f b Z0) λ_ q=>q).mono λb q=>⟨Z0,?_⟩,λq=>⟨λj a=>KQ (Xe ((s.own q).1.own j a) λc d=>f c ?_) λc n k=>⟨Z0,k⟩,(s.own q).1.apart⟩⟩;rw[Fp,h];exact q.2.1;have:=(((s.own q).1.own j a).lt c d).1;omega
def PX(w:Z3)(G:Z4)(hG:∀b,G b->b<xz (xj w))(h:Hp)(hh:h.ok)(d6:Z5)(hs:∀j,j<5->Rd w G (.sl<|(Zu h j).map vu) (d6 j))(n m:Nat)(pt wd:Int)(hn:n<=255)(hm:n+1=m)(n0:X5 n pt=(wd,0)){p q p8:Pts}(r:Rt h p){g h8:Hp}(hg:g.ok)(rg:Rt g q)(o8:h8.ok)(r8:Rt h8 p8)
  (hd:(h.M=xk/\h8=h)\/(h.M=xw/\YB h p m=xk/\h8=h)\/(h.M=xw/\YB h p m=xw/\h8=YF h)) (m9:g=ZU h8 m)
  {res:Int×Hp×Int} (j2:res=if YB g q m then(ZJ (Zv<|Yt g wd n) 2 0,Yt g wd n,0)else(0,Hp.zero,7)) {Q:Prop} (hQ:Q->h.M=xw/\YB h p m=xk):
  Calls xP 17 #[Zx h d6,.agg #[.int .i64 (n:Nat),.int .i64 pt]] w (TB w res Q):=by
 have HS:=Zf0 hs;have HH:=Zf0 hh;have s3:1<=m/\m<=256:=Z0;have HD:=Zf0 hd;have i3:=Zf0 j2;have HQ:=Zf0 hQ;have HR:∀W,Below (xz<|xj w) w W->Calls xP 10 #[Zx h d6] W λe w'=>e=.returned (.bool<|Yg h)/\Below (xz<|xj W) W w':=λW C=>
  Jk (w:=W) (G:=G) (x:=d6) hh (λb A=>Zf4 (hG b A) C.size) (λj hj=>(hs j hj).keep (λb A=>C.block b<|hG b A) λ_ q=>q)
 rw[r.right]at HR;have l4:=Zf0<|My (s:=(n:Int)) (p:=pt);have n7:=Zf0 HR;have wn:IntKind.i64.wrap ((n:Int)+1)=(m:Int):=Zee;have HN:=Zf0<|And.intro hm m9;obtain⟨W0,j5,s4,k7⟩:=qS w (.cells (X0 h d6) 27)<|.cells #[.int .i64 (n:Nat),.int .i64 pt] 36;have n8:=Zf0 k7;have r4:=Zf0 j5;obtain⟨p0,s0,_,_⟩:=k7.F;unfold X0 at j5 p0;clear hs HR hd j2 hQ k7 m9;unfold Zx;go_enter ji,Try.ntmps17
 go_upto_region 6 with (first
  |(go_at_call 23;go_loud (refine(l4.out W0).mono ?_;rintro e w1 ⟨rfl,j7⟩;rw[n0];dsimp only;have k8:=n8.out.below j7;have s5:=j7.size;obtain⟨p1,s1,_,_⟩:=k8.F;unfold X0 at p1;have l5:=Zf0 k8;clear j7 k8 j5 l4 p0 s0))
  |(go_at_call 10;go_loud (refine(n7.out _ l5.out.bp).mono ?_;rintro e w2 ⟨rfl,j8⟩;have k9:=l5.out.below j8;have s6:=j8.size;obtain⟨p2,s2,_,_⟩:=k9.F;unfold X0 at p2;have l7:=Zf0 k9;clear j8 k9 p1 s1))
  |(go_at_call 24;go_loud (refine(jd _ G (λb C=>by have:=hG b C;omega) h HH.out d6<|λj hj=>(HS.out j hj).keep (λb C=>l7.out.bp.block b<|hG b C) (λ_ h=>h)).mono ?_;rintro e Z ⟨y,rfl,m5,a6⟩;obtain⟨a0,q0,e0⟩:=XK<|a6.own 0 Z0;obtain⟨a1,q1,e1⟩:=XK<|a6.own 1 Z0;obtain⟨a2,q2,e2⟩:=XK<|a6.own 2 Z0;obtain⟨a3,q3,e3⟩:=XK<|a6.own 3 Z0;obtain⟨a4,q4,e4⟩:=XK<|a6.own 4 Z0;have l3:=Zf0<|And.intro m5 a6;clear m5 a6;unfold Zx;rw[e0,e1,e2,e3,e4])))
 obtain⟨W6,j6⟩:∃W6,Z.alloc (.cells #[.int .u64 h.base,.int .i64 h.cap,.int .i64 h.to,.bool h.M,.int .i64 h.Y,.slice a0 (I<|Zu h 0) q0,.slice a1 (I<|Zu h 1) q1,.slice a2 (I<|Zu h 2) q2,.slice a3 (I<|Zu h 3) q3,.slice a4 (I<|Zu h 4) q4] 27)=W6:=⟨_,rfl⟩;have i2:PSt w W6 (xz<|xj Z) h y True:=Z6J l7.out Z0 l3.out.1 l3.out.2 (by unfold X0;rw[e0,e1,e2,e3,e4];exact j6);rw[j6];obtain⟨y6,f6⟩:=i2.F;rw[e0,e1,e2,e3,e4]at y6;have a5:=Zf0 i2;have m3:∀W,Below (xz<|xj W6) W6 W->Calls xP 25 #[.agg #[.int .u64 h.base,.int .i64 h.cap,.int .i64 h.to,.bool h.M,.int .i64 h.Y,.slice a0 (I<|Zu h 0) q0,.slice a1 (I<|Zu h 1) q1,.slice a2 (I<|Zu h 2) q2,.slice a3 (I<|Zu h 3) q3,.slice a4 (I<|Zu h 4) q4],.int .i64 (m:Nat)] W λe w'=>e=.returned (.bool<|YB h p m)/\Below (xz<|xj W) W w':=λW C=>by
  have:=Ny hh r (n:=(m:Int)) Z0 (W:=W) (λb A=>A.2.1) (i2.below C).rd;unfold Zx at this;rw[e0,e1,e2,e3,e4]at this;exact this
 have t:=Zf0 m3;have E:=Zf0<|And.intro e0<|And.intro e1<|And.intro e2<|And.intro e3 e4;clear i2 m3 p2 s2 j6 e0 e1 e2 e3 e4 wn;have m2:∀(W2:Z3) (x2:Z5) (W7:Z3),PSt w W7 (xz<|xj Z) h y True->Below (xz<|xj W7) W7 W2->(∀j,j<5->Rd W2 (λc=>(xz (xj w)+3<=c/\c<xz (xj W7)/\c≠xz (xj Z))\/(xz (xj W7)<=c/\c<xz (xj W2))) (.sl<|(Zu (YF h) j).map vu) (x2 j))->PSt w (WK W2 (xz<|xj Z) (.int .u64 (YF h).base) (.int .i64 (YF h).cap) (.int .i64 (YF h).to) (.bool (YF h).M) (.int .i64 (YF h).Y) (x2 0) (x2 1) (x2 2) (x2 3)<|x2 4) (xz<|xj Z) (YF h) x2 False:=λW2 x2 W7 s C hr=>s.store C hr;have n6:=Zf0 m2;clear m2;obtain⟨hc,rfl⟩|⟨hc,f5,rfl⟩|⟨hc,f5,rfl⟩:=HD.out;all_goals have HC:=Zf0 hc
 case' inl=>
  go_upto_region 10 with fail;have o:=Zf0 (a5.out.imp (Q':=Q) λq=>trivial);have u:=Zf0 E.out
 case' inr.inl=>
  have t:=t.out;rw[hc]at t;have t:=Zf0 t
  go_upto_region 10 with (first
   |(go_at_call 25;go_loud (refine(t.out _<|Zfg _ _).mono ?_;rintro e w7 ⟨rfl,e7⟩;rw[f5];have a9:=a5.out.below e7;obtain⟨y7,f7⟩:=a9.F;rw[E.out.1,E.out.2.1,E.out.2.2.1,E.out.2.2.2.1,E.out.2.2.2.2]at y7;have o:=Zf0 (a9.imp (Q':=Q) λq=>trivial);clear e7 a9)))
  have u:=Zf0 E.out
 case' inr.inr=>
  have t:=t.out;rw[hc]at t;have t:=Zf0 t
  go_upto_region 10 with (first
   |(go_at_call 25;go_loud (refine(t.out _<|Zfg _ _).mono ?_;rintro e w7 ⟨rfl,e7⟩;rw[f5];have a9:=a5.out.below e7;obtain⟨y7,f7⟩:=a9.F;rw[E.out.1,E.out.2.1,E.out.2.2.1,E.out.2.2.2.1,E.out.2.2.2.2]at y7;have j4:=Zf0 a9;clear e7 a9))
   |(go_at_call 26;go_loud (have h3:=PH w7 _ (λb A=>A.2.1) h HH.out y j4.out.rd;unfold Zx at h3;rw[hc,E.out.1,E.out.2.1,E.out.2.2.1,E.out.2.2.2.1,E.out.2.2.2.2,show TL h=(YF h,0)by unfold TL;rw[Zf7 (by rw[r.right];simp),Zf7 (by rw[HC.out];simp)]]at h3;refine h3.mono ?_;clear h3;rintro e w8 ⟨x8,rfl,j9,a7⟩;obtain⟨v8,g8⟩:=(j4.out.below j9).F;rw[E.out.1,E.out.2.1,E.out.2.2.1,E.out.2.2.2.1,E.out.2.2.2.2]at v8;have b5:=n6.out w8 x8 w7 j4.out j9 (λj hj=>(a7 j hj).mono λb q=>.inr q);obtain⟨b0,k0,f0⟩:=Xp<|a7 0 (by omega);obtain⟨b1,k1,f1⟩:=Xp<|a7 1 (by omega);obtain⟨b2,k2,f2⟩:=Xp<|a7 2 (by omega);obtain⟨b3,k3,f3⟩:=Xp<|a7 3 (by omega);obtain⟨b4,k4,f4⟩:=Xp<|a7 4 (by omega);unfold Zx;rw[f0,f1,f2,f3,f4];have z8:=b5.F.1;unfold WK at z8;rw[f0,f1,f2,f3,f4]at z8;have n9:=Zf0 b5;have u:=Zf0<|And.intro f0<|And.intro f1<|And.intro f2<|And.intro f3 f4;clear j9 a7 b5 f0 f1 f2 f3 f4)))
 case' inl=>
  obtain⟨W8,rfl⟩:∃W8,W8=W6:=⟨_,rfl⟩;have d8:=HC;have h0:=hc;clear y6
 case' inr.inl=>
  obtain⟨W8,rfl⟩:∃W8,W8=w7:=⟨_,rfl⟩;have d8:=HC;have h0:=hc;clear y6 y7
 case' inr.inr=>
  obtain⟨W8,g5⟩:∃W8,WK w8 (xz<|xj Z) (.int .u64 (YF h).base) (.int .i64 (YF h).cap) (.int .i64 (YF h).to) (.bool (YF h).M) (.int .i64 (YF h).Y) (.slice b0 (I<|Zu (YF h) 0) k0) (.slice b1 (I<|Zu (YF h) 1) k1) (.slice b2 (I<|Zu (YF h) 2) k2) (.slice b3 (I<|Zu (YF h) 3) k3) (.slice b4 (I<|Zu (YF h) 4) k4)=W8:=⟨_,rfl⟩;have b5:=n9.out;rw[u.out.1,u.out.2.1,u.out.2.2.1,u.out.2.2.2.1,u.out.2.2.2.2,g5]at b5;have o:=Zf0 (b5.imp (Q':=Q) λq=>by have:=(HQ.out q).2;rw[f5]at this;cases this);unfold WK at g5;rw[g5];clear y6 y7 z8 g5 b5 v8 g8;cases h0:(YF h).M;all_goals have d8:=Zf0 h0
 all_goals
  obtain⟨y8,f8⟩:=o.out.F;rw[u.out.1,u.out.2.1,u.out.2.2.1,u.out.2.2.2.1,u.out.2.2.2.2]at y8;first
  | (have e9:=Z2R (PY NP o8 (k:=(m:Int)) ⟨by omega,by omega⟩) (λb A=>A.2.1) o.out.rd
     rw[Z6U r8,<-HN.out.2]at e9;unfold Zx at e9;rw[u.out.1,u.out.2.1,u.out.2.2.1,u.out.2.2.2.1,u.out.2.2.2.2,show _=xk from d8.out]at e9
     go_upto_region 14 with (first
      |(go_at_call 27;go_loud (refine e9.mono ?_;clear e9;rintro e w9 ⟨x9,rfl,k5,a8⟩;obtain⟨v9,g9⟩:=(o.out.below k5).F;rw[u.out.1,u.out.2.1,u.out.2.2.1,u.out.2.2.2.1,u.out.2.2.2.2]at v9;have b6:=o.out.store k5 a8;obtain⟨b0,k0,f0⟩:=Xp<|a8 0 (by omega);obtain⟨b1,k1,f1⟩:=Xp<|a8 1 (by omega);obtain⟨b2,k2,f2⟩:=Xp<|a8 2 (by omega);obtain⟨b3,k3,f3⟩:=Xp<|a8 3 (by omega);obtain⟨b4,k4,f4⟩:=Xp<|a8 4 (by omega);unfold Zx;rw[f0,f1,f2,f3,f4];rw[f0,f1,f2,f3,f4]at b6;have l8:=Zf0 b6;clear k5 a8 b6 f0 f1 f2 f3 f4))))
  |go_upto_region 14 with fail
 all_goals
  first
  | (obtain⟨W9,g6⟩:∃W9,WK w9 (xz<|xj Z) (.int .u64 g.base) (.int .i64 g.cap) (.int .i64 g.to) (.bool g.M) (.int .i64 g.Y) (.slice b0 (I<|Zu g 0) k0) (.slice b1 (I<|Zu g 1) k1) (.slice b2 (I<|Zu g 2) k2) (.slice b3 (I<|Zu g 3) k3) (.slice b4 (I<|Zu g 4) k4)=W9:=⟨_,rfl⟩
     have b6:=l8.out;rw[g6]at b6;have d7:=Zf0 (b6.imp (Q':=Q) λq=>by have h1:=(HQ.out q).1;have h2:=(HQ.out q).2;first|(rw[HC.out]at h1;cases h1;done)|(rw[f5]at h2;cases h2;done));unfold WK at g6;rw[g6];clear y8 v9 g9 g6 b6 l8)
  | (obtain⟨W9,rfl⟩:∃W9,W9=W8:=⟨_,rfl⟩
     have m8:=HN.out.2.trans<|Tv d8.out m;have d:=o.out;rw[<-m8]at d;have d7:=Zf0 d;clear y8 d m8)
 all_goals
  clear o u a5 E d8 HC h0 hc;obtain⟨x9,d⟩:∃x9,PSt w W9 (xz<|xj Z) g x9 Q:=⟨_,d7.out⟩;obtain⟨c0,d0,e0⟩:=Xp<|d.rd 0 Z0;obtain⟨c1,d1,e1⟩:=Xp<|d.rd 1 Z0;obtain⟨c2,d2,e2⟩:=Xp<|d.rd 2 Z0;obtain⟨c3,d3,e3⟩:=Xp<|d.rd 3 Z0;obtain⟨c4,d4,e4⟩:=Xp<|d.rd 4 Z0;obtain⟨y9,o1⟩:=d.F;rw[e0,e1,e2,e3,e4]at y9;have Y:=Ny hg rg (n:=(m:Int)) Z0 (W:=W9) (λb A=>A.2.1) d.rd;unfold Zx at Y;rw[e0,e1,e2,e3,e4]at Y;have E:=Zf0<|And.intro e0<|And.intro e1<|And.intro e2<|And.intro e3 e4;have a5:=Zf0 d;clear d7 d e0 e1 e2 e3 e4;cases f9:YB g q m;case false=>
   have k6:res=(0,Hp.zero,7):=by rw[i3.out,f9];rfl
   rw[f9]at Y;subst k6
   go_wp2_with (first
    |(go_at_call 25;go_loud (refine Y.mono ?_;clear Y;rintro e f ⟨rfl,S⟩;have B:=a5.out.below S;obtain⟨s7,r2⟩:=B.R;have a:=Zf0 B;clear S B)))
   have q9:=Ul a.out.dg (.int .u64 0) (.int .i64 0) (.int .i64 0) (.bool xw) (.int .i64 0) (.slice U 0 0) (.slice U 0 0) (.slice U 0 0) (.slice U 0 0)<|.slice U 0 0;refine ZfA (v:=.tuple #[.int .u64 0,.agg ZI,.int .i64 7]) ?_ rfl ?_
   .simp[results,Try.results17,go_sem,q9,ZI]
   exact⟨λ_=>.slice U 0 0,rfl,Wq a.out.bp Z0,JA _ _,λ_=>Dq _ _⟩
  case true=>
   have o5:I (Zu g 1)=I g.aa:=rfl;have g7:(I g.H:Int)+I g.aa+Yh q+m<=g.cap:=by simpa[YB]using f9
   have i9:=rg.nx;obtain⟨K,hK⟩:∃K,m+I (Zu g 1)=K:=⟨_,rfl⟩;have m1:K<=4096:=Z0;have wk:IntKind.i64.wrap ((m:Int)+(I (Zu g 1):Int))=(K:Int):=Zee;have o6:=Z4B (m:=m) (K:=K) Z0 Z0;have r9:((0:Int)< (m:Int))=True:=Zhn Z0;have HB:=Zf0<|And.intro g7<|And.intro i9<|And.intro hK m1;rw[f9]at Y;clear g7 i9 hK m1 o5
   go_upto_region 17 with (first
    |(go_at_call 25;go_loud (refine Y.mono ?_;clear Y;rintro e f ⟨rfl,S⟩;have B:=a5.out.below S;obtain⟨n4,l9⟩:=B.F;rw[E.out.1,E.out.2.1,E.out.2.2.1,E.out.2.2.2.1,E.out.2.2.2.2]at n4;have a:=Zf0 B;clear S B y9 o1)))
   obtain⟨O,D⟩:∃O,f.alloc (.cells (madeCells #[.int .u64 0] K) 22)=O:=⟨_,rfl⟩;rw[D];have b8:O.ownsRow (xz<|xj f) 22 1 (.slice (J ⟨xz<|xj f,0,U⟩) m K) m<|Y3 .u64<|List.replicate m 0:=by rw[<-D];exact Z4A (Zf3 _) (by have:=HB.out.2.2.1;omega) HB.out.2.2.2
   have j3:xz (xj O)=xz (xj f)+1:=by rw[<-D];simp
   have j0:∀b,b<xz (xj f)->O.heap[b]?=f.heap[b]? :=λb C=>by rw[<-D];exact Zfa _ _ _ C
   have m6:O.cell? ⟨xz<|xj f,0,U⟩=J (.int .u64 0):=by rw[b8.cellAt 0 Z0];simp[Y3,show 0<m by omega]
   have m7:=BE b8 (i:=0) Z0;have X:=(b8.stored 0<|.int .u64 wd).1;have i5:Below (xz<|xj w) w O:=by rw[<-D];exact a.out.bp.alloc a.out.bp.size _
   have HO:=Zf0<|And.intro X<|And.intro j3<|And.intro j0 i5;clear b8 X j0 i5 D n4 l9 o6 wk j3;go_upto_region 18 with fail;obtain⟨P,H⟩:∃P,O.setCell ⟨xz<|xj f,0,U⟩ (.int .u64 wd)=P:=⟨_,rfl⟩;rw[H];have n2:xz (xj P)=xz (xj f)+1:=by rw[<-H];simpa[World.setCell]using HO.out.2.1
   have b7:∀b,b<xz (xj f)->P.heap[b]?=f.heap[b]? :=λb C=>by rw[<-H];exact(Zff _ _ _ _ (by show b≠xz (xj f);omega)).trans (HO.out.2.2.1 b C)
   have e6:Below (xz<|xj w) w P:=by rw[<-H];exact HO.out.2.2.2.setCell (by have:=a.out.bp.size;exact this) _
   have o7:=ZV a.out.df;have g3:=(b7 _ o7).trans a.out.df;unfold X0 at g3;rw[E.out.1,E.out.2.1,E.out.2.2.1,E.out.2.2.2.1,E.out.2.2.2.2]at g3;have q6:∀j,P.cell? ⟨xz<|xj Z,j,U⟩=(#[.int .u64 g.base,.int .i64 g.cap,.int .i64 g.to,.bool g.M,.int .i64 g.Y,.slice c0 (I<|Zu g 0) d0,.slice c1 (I<|Zu g 1) d1,.slice c2 (I<|Zu g 2) d2,.slice c3 (I<|Zu g 3) d3,.slice c4 (I<|Zu g 4) d4]:Array Value)[j]? :=λj=>Zf6 _ _ _ _ _ _ g3;have j1:Rd P (λc=>xz (xj w)+3<=c/\c<xz (xj f)/\c≠xz (xj Z)) (.sl<|g.aa.map vu)<|.slice c1 (I<|Zu g 1) d1:=by
    have:=a.out.rd 1 Z0;rw[E.out.2.1]at this;exact this.keep (λb C=>b7 b C.2.1) λ_ q=>q
   have X:P.ownsRow (xz<|xj f) 22 1 (.slice (J ⟨xz<|xj f,0,U⟩) m K) m<|Y3 .u64<|wd::List.replicate n 0:=by
    have:=HO.out.1;rw[H,<-J5]at this;rw[show wd::List.replicate n 0=(List.replicate m 0).set 0 wd by rw[<-hm,List.replicate_succ];rfl];exact this
   obtain⟨e5,g4,l0,m4,e8,T⟩:=Z6B Z0 X j1 (by have:=HB.out;have:I (Zu g 1)=I g.aa:=rfl;omega) 25;obtain⟨M,d5⟩:∃M,Yt g wd n=M:=⟨_,rfl⟩;obtain⟨N,hx⟩:∃N:Z5,(λj=>if j=1 then .slice e5 (m+I g.aa) g4 else x9 j)=N:=⟨_,rfl⟩;have i1:=(T.block _ Z0 Ze4).trans g3;have q7:∀j,l0.cell? ⟨xz<|xj Z,j,U⟩=(#[.int .u64 g.base,.int .i64 g.cap,.int .i64 g.to,.bool g.M,.int .i64 g.Y,.slice c0 (I<|Zu g 0) d0,.slice c1 (I<|Zu g 1) d1,.slice c2 (I<|Zu g 2) d2,.slice c3 (I<|Zu g 3) d3,.slice c4 (I<|Zu g 4) d4]:Array Value)[j]? :=λj=>Zf6 _ _ _ _ _ _ i1;have o0:∀j,l0.frozen? ⟨xz<|xj Z,j,U⟩=xw:=λj=>Y9 i1;obtain⟨d9,L⟩:∃d9,l0.setCell ⟨xz<|xj Z,6,U⟩ (.slice e5 (m+I g.aa) g4)=d9:=⟨_,rfl⟩;have h5:N 0=.slice c0 (I<|Zu g 0) d0:=by rw[<-hx];exact E.out.1
   have h6:N 1=.slice e5 (m+I g.aa) g4:=by rw[<-hx];rfl
   have h7:N 2=.slice c2 (I<|Zu g 2) d2:=by rw[<-hx];exact E.out.2.2.1
   have h9:N 3=.slice c3 (I<|Zu g 3) d3:=by rw[<-hx];exact E.out.2.2.2.1
   have i0:N 4=.slice c4 (I<|Zu g 4) d4:=by rw[<-hx];exact E.out.2.2.2.2
   have n3:=T.size;have b9:PSt w d9 (xz<|xj Z) M N Q:=by
    have:=a.out.place (W':=d9) (l:=(wd::List.replicate n 0)++g.aa) (v:=.slice e5 (m+I g.aa) g4) ?_ ?_ ?_ ?_ ?_;rw[<-d5,<-hx];exact this;rw[<-L];simp[World.setCell];omega;intro b C o3;rw[<-L];exact(Zff _ _ _ _ o3).trans ((T.block _ Z0 Ze4).trans<|b7 b C);rw[<-L];unfold X0;have e0:=E.out.1;have e2:=E.out.2.2.1;have e3:=E.out.2.2.2.1;have e4:=E.out.2.2.2.2;simp[World.setCell,Zfy,i1,e0,e2,e3,e4];rw[<-L];refine Xe e8 λb C=>Zff _ _ _ _ ?_;have:=(e8.lt b C).1;show b≠xz (xj Z);omega;rw[<-L];exact(Below.grown e6 T e6.size (λr hr=>by cases hr;have:=a.out.bp.size;omega)).setCell (by show xz (xj w)<=xz (xj Z);have:=a.out.nB;omega) _
   go_upto_region 19 with (at_builtin;refine Lib.wpList_append_run _ rfl _ _ 25 25 rfl _ _ rfl rfl _ _ m4 ?_);have g7:(I g.H:Int)+I g.aa+m<=g.cap:=by have:=HB.out.1;omega
   have o4:ZQ (Zv M)=xk:=by rw[<-d5];exact ML rg.bj hm g7
   have hu:ZA wd:=by
    have:=Z62 n pt;rw[n0]at this;unfold ZA;dsimp only at this;omega
   have o2:M.ok:=by rw[<-d5];exact MJ hg hu (by have:=HB.out;have:I (Zu g 1)=I g.aa:=rfl;omega)
   have n1:Yr (Zv M) 2 0=(fstL (Zv M) 2,0)/\ZA (fstL (Zv M) 2)/\V9 (fstL (Zv M) 2)=(ZJ (Zv M) 2 0,0):=by
    have:=Z6D (g:=g) (wd:=wd) (n:=n) (by rw[d5];exact o4);rw[d5]at this;exact this
   obtain⟨n5,m0⟩:=b9.F;rw[h5,h6,h7,h9,i0]at n5;have h4:=LE (w:=d9) (λb C=>C.2.1) b9.rd;unfold Zx at h4;rw[h5,h6,h7,h9,i0]at h4;have l6:=Zf0 b9;have HX:=Zf0<|And.intro h5<|And.intro h6<|And.intro h7<|And.intro h9 i0;have HP:=Zf0<|And.intro n1 o2;clear g3 q6 j1 X m4 e8 T i1 q7 o0 L b9 h5 h6 h7 h9 i0 n1 n3 H b7 e6 n2 m6 m7 hx
   go_upto_region 25 with (first
    |(go_at_call 29;go_loud (refine h4.mono ?_;clear h4;rintro e o9 ⟨rfl,i6⟩;unfold Tk;have l1:=Zf0 i6;clear i6))
    |(go_at_call 28;go_loud (refine(jq HP.out.2.bj 2 0 o9).mono ?_;rintro e q5 ⟨rfl,i7⟩;rw[HP.out.1.1];dsimp only;have l2:=Zf0 i7;clear i7))
    |(go_at_call 30;go_loud (refine(MU HP.out.1.2.1 q5).mono ?_;rintro e s9 ⟨rfl,i8⟩;rw[HP.out.1.2.2];dsimp only;have c8:=((l6.out.below l1.out).below l2.out).below i8;obtain⟨q8,r1⟩:=c8.F;rw[HX.out.1,HX.out.2.1,HX.out.2.2.1,HX.out.2.2.2.1,HX.out.2.2.2.2]at q8;obtain⟨s8,r3⟩:=c8.R;have i4:=Zf0 c8;clear i8 c8 n5 m0)))
   have k6:res=(ZJ (Zv M) 2 0,M,0):=by rw[i3.out,f9,d5];rfl
   subst k6;go_region;all_goals
    go_wp2;try simp only[Exit.inBlock,Exit.then]
    have z:=Ul i4.out.dg (.int .u64 M.base) (.int .i64 M.cap) (.int .i64 M.to) (.bool M.M) (.int .i64 M.Y) (.slice c0 (I<|Zu g 0) d0) (.slice e5 (m+I g.aa) g4) (.slice c2 (I<|Zu g 2) d2) (.slice c3 (I<|Zu g 3) d3)<|.slice c4 (I<|Zu g 4) d4;refine ZfA (v:=.tuple #[.int .u64<|ZJ (Zv M) 2 0,Zx M N,.int .i64 0]) ?_ rfl ?_
    .unfold Zx;rw[HX.out.1,HX.out.2.1,HX.out.2.2.1,HX.out.2.2.2.1,HX.out.2.2.2.2];simp[results,Try.results17,go_sem,z]
    exact Z6C i4.out _
end Vm
end
section
namespace Vm
open Go Go.Proofs
def FW{h:Hp}(y:h.ok)(z:h.to=0\/h.to=1):(YF h).ok:=by
 have:=Aa y z<|I h.E;unfold YF Wb;obtain⟨d,f,g,j,k,l,r,t,n,o,p,u,x,q⟩:=this;split;exact⟨d,f,g,j,k,l,r,t,n,o,p,u,x,q⟩;exact⟨d,f,g,j,k,l,Zg5 _,Zg5 _,n,o,p,λw a=>(by cases a),λw a=>(by cases a),q⟩
end Vm
end
section
namespace Vm
open Go Go.Proofs Go.RowKit
def PW(w:Z3)(G:Z4)(H:∀b,G b->b<xz (xj w))(h:Hp)(S:h.ok)(d:Z5)(M:∀j,j<5->Rd w G (.sl<|(Zu h j).map vu) (d j))(n pt:Int)(L:(X5 n pt).2=1\/((X5 n pt).2=0/\Yg h=xw))(Q:Prop):
  Calls xP 17 #[Zx h d,.agg #[.int .i64 n,.int .i64 pt]] w (TB w (0,Hp.zero,1) Q):=by
 have C:∀W,Below (xz<|xj w) w W->Calls xP 10 #[Zx h d] W λe w'=>e=.returned (.bool<|Yg h)/\Below (xz<|xj W) W w':=λW K=>
  Jk (w:=W) (G:=G) (x:=d) S (λb f=>Zf4 (H b f) K.size) (λj T=>(M j T).keep (λb f=>K.block b<|H b f) λ_ q=>q)
 have o:=Zf0<|My (s:=n) (p:=pt);have r:=Zf0 C;obtain⟨R,A,Y,g⟩:=qS w (.cells (X0 h d) 27)<|.cells #[.int .i64 n,.int .i64 pt] 36;have z:=Zf0 g;obtain⟨N,Z,_,_⟩:=g.F;obtain⟨P,D,y⟩:∃P D,X5 n pt=(P,D):=⟨_,_,rfl⟩;rw[y]at L;unfold X0 at A N;clear M C g;unfold Zx;have key:∀W,TB w (0,Hp.zero,1) Q (.returned<|.tuple #[.int .u64 0,.agg ZI,.int .i64 1]) W=TB w (0,Hp.zero,1) Q (.returned<|.tuple #[.int .u64 0,Zx Hp.zero (λ_=>.slice U 0 0),.int .i64 1]) W:=λ_=>rfl;obtain rfl|⟨rfl,X⟩:=L;case' inr=>rw[X]at r
 all_goals
  go_enter ji,Try.ntmps17
  go_wp2_with (first
   |(go_at_call 23;go_loud (refine(o.out R).mono ?_;rintro e w1 ⟨rfl,t⟩;rw[y];dsimp only;have k:=z.out.below t;obtain⟨O,s1,z1,f1⟩:=k.F;unfold X0 at O;unfold ZI at z1;have a:=Zf0 k;clear t k o N Z))
   |(go_at_call 10;go_loud (refine(r.out _ a.out.bp).mono ?_;rintro e w2 ⟨rfl,u⟩;have l:=a.out.below u;obtain⟨p2,s2,z2,f2⟩:=l.F;unfold ZI at z2;have a:=Zf0 l;clear u l O s1)))
  have B:=Ul a.out.b2 (.int .u64 0) (.int .i64 0) (.int .i64 0) (.bool xw) (.int .i64 0) (.slice U 0 0) (.slice U 0 0) (.slice U 0 0) (.slice U 0 0)<|.slice U 0 0;refine ZfA (v:=.tuple #[.int .u64 0,.agg ZI,.int .i64 1]) ?_ rfl ?_
  .simp[results,Try.results17,go_sem,B,ZI]
  exact⟨λ_=>.slice U 0 0,rfl,Wq a.out.bp Z0,JA _ _,λ_=>Dq _ _⟩
def placeG(h:Hp)(p:Pts)(n:Nat):Hp:=ZU (if h.M=xw/\YB h p (n+1:Nat)=xw then YF h else h)<|n+1
def Uk(h:Hp)(p q:Pts)(n:Nat)(wd:Int):Int×Hp×Int:=if YB (placeG h p n) q (n+1:Nat)then(ZJ (Zv<|Yt (placeG h p n) wd n) 2 0,Yt (placeG h p n) wd n,0)else(0,Hp.zero,7)
def G0{h:Hp}{p:Pts}(r:Rt h p)(hc:h.M=xw):∃q,Rt (YF h) q:=by
 obtain⟨g,q,_,e,a,_⟩:=FZ r hc;exact⟨_,by rw[e];exact a⟩
def DK(w:Z3)(G:Z4)(A:∀b,G b->b<xz (xj w))(h:Hp)(t:h.ok)(a:Z5)(D:∀j,j<5->Rd w G (.sl<|(Zu h j).map vu) (a j))(n:Nat)(pt wd:Int)(C:n<=255)(x:X5 n pt=(wd,0)){p:Pts}(r:Rt h p):
  ∃q,Rt (placeG h p n) q/\(placeG h p n).ok/\Calls xP 17 #[Zx h a,.agg #[.int .i64 (n:Nat),.int .i64 pt]] w (TB w (Uk h p q n wd)<|h.M=xw/\YB h p (n+1:Nat)=xk):=by
 have key:∀d z,d.ok->Rt d z->(if h.M=xw/\YB h p (n+1:Nat)=xw then YF h else h)=d->((h.M=xk/\d=h)\/(h.M=xw/\YB h p (n+1:Nat)=xk/\d=h)\/(h.M=xw/\YB h p (n+1:Nat)=xw/\d=YF h))->∃q,Rt (placeG h p n) q/\(placeG h p n).ok/\Calls xP 17 #[Zx h a,.agg #[.int .i64 (n:Nat),.int .i64 pt]] w (TB w (Uk h p q n wd)<|h.M=xw/\YB h p (n+1:Nat)=xk):=by
  intro d z o y e B;obtain⟨q,sc⟩:=y.da<|n+1;have u:placeG h p n=ZU d (n+1):=by unfold placeG;rw[e]
  have k:(placeG h p n).ok:=by rw[u];exact R3 o y _
  have l:Rt (placeG h p n) q:=by rw[u];exact sc.rt
  exact⟨q,l,k,PX w G A h t a D n (n+1) pt wd C rfl x r k l o y B u rfl<|λq=>q⟩
 by_cases f:h.M=xk;exact key h p t r (by rw[f];simp)<|.inl ⟨f,rfl⟩;have f:h.M=xw:=Zek;by_cases g:YB h p (n+1:Nat)=xk;exact key h p t r (by rw[g];simp)<|.inr<|.inl ⟨f,g,rfl⟩;have g:YB h p (n+1:Nat)=xw:=by simpa using g
 obtain⟨q,H⟩:=G0 r f;have F:h.to=0\/h.to=1:=(XL.1 r.bj).2.2.2.2.1;exact key (YF h) q (FW t F) H (by rw[g,f];simp)<|.inr<|.inr ⟨f,g,rfl⟩
end Vm
end
section
namespace Vm
open Go Go.Proofs
section
section
variable {h:Hp}{p:Pts}
def V0(h:Hp)(p:Pts):Int:=I h.H+I h.aa+Yh p
def Rt.mw(r:Rt h p)(n:Nat){q:Pts}(s:Rt (ZU h n) q):V0 (ZU h n) q<=V0 h p/\((ZU h n).M=xk->V0 (ZU h n) q=V0 h p):=by
 obtain⟨g,a⟩:=r.da n;rw[s.fu a.rt]at a;have d:=a.aa;unfold V0;cases f:(ZU h n).M;have:=a.oy;rw[s.gu f,d];exact⟨Z0,λh=>Zei⟩;have:=(a.kz f).2.2;rw[d];exact⟨Z0,λ_=>Z0⟩
def Rt.ng(r:Rt h p){n:Nat}{q:Pts}(s:Rt (placeG h p n) q):Y0 (vg<|placeG h p n)=Y0 (vg h)/\(placeG h p n).cap=h.cap/\(V0 h p+(n+1:Nat)<=h.cap->V0 (placeG h p n) q+(n+1:Nat)<=h.cap):=by
 unfold Vm.placeG at s⊢;by_cases a:h.M=xw/\YB h p (n+1:Nat)=xw;rw[Zfc a]at s⊢;obtain⟨g,l,I,d,R,f⟩:=Z2p r a.1;obtain⟨t,_⟩:=Ab r a.1 I;rw[<-d]at t f;obtain⟨_,S⟩:=t.da<|n+1;have j:(YF h).cap=h.cap:=by
  have:g.cap=h.cap:=I.ext.cap;rw[d];unfold Wb;split<;>exact this
 refine⟨(qv t _).trans f,S.num.2.1.trans j,λk=> ?_⟩;have:=a.2;simp[YB]at this;unfold V0 at k;omega;rw[Zf7 a]at s⊢;obtain⟨_,S⟩:=r.da<|n+1;have:=(r.mw (n+1) s).1;exact⟨qv r _,S.num.2.1,λ_=>Z0⟩
end
end
end Vm
end
section
namespace Vm
open Go Go.Proofs Go.RowKit
def Z5b(w:Z3)(h:Hp)(H:Z5){k s i z pp v v' er:Int}{r':Nat}{g:Hp}{Q:Prop}
  (hP:∀W,Below (xz<|xj w) w W->Calls xP 17 #[Zx h H,.agg #[.int .i64 z,.int .i64 pp]] W (TB W (v',g,er) Q))
  {res:Hp×Int} (he:(¬er=0/\res=(Hp.zero,er))\/(er=0/\Q/\r'<I g.E/\res=(X6 g 4 r' v',0))):
  Calls xP 103 #[.agg<|Xr k r' s i z pp v,Zx h H] w (TA w res):=by
 have HP:=Zf0 hP;have HE:=Zf0 he;obtain⟨W0,D,b0,u⟩:=qS w (.cells (Xr k r' s i z pp v) 69)<|.cells (X0 h H) 27;obtain⟨p0,s0,_,_⟩:=u.F;have Y:=Zf0 u;have N:=Zf0 D;unfold X0 Xr at D;unfold X0 at s0;unfold Xr at p0;have C:=hP W0 u.bp;unfold Zx at C;clear hP u he;unfold Zx Xr;go_enter PZ,Try.ntmps103
 go_upto_region 2 with (first
  |(go_at_call 17;go_loud (refine C.mono ?_;clear C;rintro e w5 ⟨y,rfl,G,a,f⟩;dsimp only at G a f;obtain⟨a0,q0,n⟩:=Xp<|a 0 (by omega);obtain⟨a1,q1,o⟩:=Xp<|a 1 (by omega);obtain⟨a2,q2,p⟩:=Xp<|a 2 (by omega);obtain⟨a3,q3,q⟩:=Xp<|a 3 (by omega);obtain⟨a4,q4,d⟩:=Xp<|a 4 (by omega);dsimp only;unfold Zx;rw[n,o,p,q,d];have A:=Zf0<|And.intro G f;clear G a f p0 s0)))
 obtain⟨O,r⟩:∃O,w5.alloc (.cells #[.int .u64 g.base,.int .i64 g.cap,.int .i64 g.to,.bool g.M,.int .i64 g.Y,.slice a0 (I<|Zu g 0) q0,.slice a1 (I<|Zu g 1) q1,.slice a2 (I<|Zu g 2) q2,.slice a3 (I<|Zu g 3) q3,.slice a4 (I<|Zu g 4) q4] 27)=O:=⟨_,rfl⟩;rw[r];have E:=Zf0<|And.intro n<|And.intro o<|And.intro p<|And.intro q d;have K:=((Y.out.below A.out.1).below (W':=O) (by rw[<-r];exact(Zfg _ _).alloc (Zf3 _) _));have B:=Zf0 K;have b1:O.heap[xz (xj w)+1]?=_:=K.b1;have X:=Zf0 r;clear K r n o p q d b1 D;obtain⟨a6,rfl⟩|⟨rfl,hQ,P,rfl⟩:=HE.out
 .have a7:=ZgU a6;obtain⟨r6,_,z6,f6⟩:=B.out.F;unfold ZI at z6;go_wp2;have L:=Ul B.out.b2 (.int .u64 0) (.int .i64 0) (.int .i64 0) (.bool xw) (.int .i64 0) (.slice U 0 0) (.slice U 0 0) (.slice U 0 0) (.slice U 0 0)<|.slice U 0 0;refine ZfA (v:=.tuple #[.agg ZI,.int .i64 er]) ?_ rfl ?_
  .simp[results,Try.results103,go_sem,L,ZI]
  exact Z1Q B.out.bp er
 .have l:MSt w O 69 (Xr k r' s i z pp v) g y<|xz<|xj w5:=Ie (by have:=A.out.1;rw[<-N.out]at this;exact this) (by have:=A.out.2 hQ;rw[<-N.out]at this;exact this) (by rw[E.out.1,E.out.2.1,E.out.2.2.1,E.out.2.2.2.1,E.out.2.2.2.2];exact X.out);obtain⟨n,o,p,q,d⟩:=E.out;obtain⟨g4,a5⟩:=KP (l.own.own 4 Z0) d (by show 0<I g.E;omega);subst a5;have t:=l.own.own 4 Z0;rw[d]at t;have S:r'< I (Zu g 4):=P;obtain⟨rv,T⟩:∃rv,(Zu g 4)[r']?=J rv:=⟨_,ZeX S⟩;have a8:=BD t T;have a9:=BE t (i:=r') Z0;have x:=l.put (j:=4) (i:=r') Z0 d v';obtain⟨f1,f2⟩:=l.F;rw[n,o,p,q,d]at f2;obtain⟨f3,f4⟩:=x.F;obtain⟨s1,s2,s3,s4,s5⟩:=qy g 4 r' v';rw[s1,s2,s3,s4,s5,n,o,p,q,d]at f4;obtain⟨r3,r4⟩:=x.R;unfold Xr at f1 f3;have M:=Zf0 x;clear l x t T s1 s2 s3 s4 s5 n o p q d HE P;go_wp2;obtain⟨n,o,p,q,d⟩:=E.out;have Z:=Gv g 4 r' v' y;have L:=Ul M.out.dg (.int .u64 g.base) (.int .i64 g.cap) (.int .i64 g.to) (.bool g.M) (.int .i64 g.Y) (.slice a0 (I<|Zu g 0) q0) (.slice a1 (I<|Zu g 1) q1) (.slice a2 (I<|Zu g 2) q2) (.slice a3 (I<|Zu g 3) q3)<|.slice (J ⟨g4,0,U⟩) (I<|Zu g 4) q4;refine ZfA (v:=.tuple #[Zx (X6 g 4 r' v') y,.int .i64 0]) ?_ rfl ?_
  .rw[Z];unfold Zx;rw[n,o,p,q,d];simp[results,Try.results103,go_sem,L]
  exact Fl M.out
def NE{P:Z6}{f:Zm}(a:XZ P f=xk)(args:Za)(W:Z3):(callFunc f args).run P W=.ok (.enter f args) W:=by
 unfold XZ at a;split at a;rename_i fn d;simp only[ZeZ,Zge,ZhF,Zjb]at a;obtain⟨g,h⟩:=a;obtain⟨code,j⟩:=ZfU.1 h;simp[callFunc,d,g,j];cases a
def DoPost(G:Z4)(w:Z3)(r:Int×Hp×Int)(e:Ending)(w':Z3):Prop:=
 ∃x,e=.returned (.tuple #[.int .u64 r.1,Zx r.2.1 x,.int .i64 r.2.2])/\Below (xz<|xj w) w w'/\∀j,j<5->Rd w' (λc=>G c\/(xz (xj w)<=c/\c<xz (xj w'))) (.sl<|(Zu r.2.1 j).map vu) (x j)
def jT{w W:Z3}{G:Z4}(f:∀b,G b->b<xz (xj w)){g:Hp}{x:Z5}(a:Below (xz<|xj w) w W)(rd:∀j,j<5->Rd W (λc=>G c\/(xz (xj w)+3<=c/\c<xz (xj W))) (.sl<|(Zu g j).map vu) (x j))(v e:Int){v0 v1 v2 v3 v4 v5 v6 v7 v8 v9:Zc}:DoPost G w (v,g,e) (.returned<|.tuple #[.int .u64 v,Zx g x,.int .i64 e])<|(((((((((W.setCell ⟨xz (xj w)+1+1,0,U⟩ v0).setCell ⟨xz (xj w)+1+1,1,U⟩ v1).setCell ⟨xz (xj w)+1+1,2,U⟩ v2).setCell ⟨xz (xj w)+1+1,3,U⟩ v3).setCell ⟨xz (xj w)+1+1,4,U⟩ v4).setCell ⟨xz (xj w)+1+1,5,U⟩ v5).setCell ⟨xz (xj w)+1+1,6,U⟩ v6).setCell ⟨xz (xj w)+1+1,7,U⟩ v7).setCell ⟨xz (xj w)+1+1,8,U⟩ v8).setCell ⟨xz (xj w)+1+1,9,U⟩ v9:=by
 have d:=yV W (xz (xj w)+1+1) v0 v1 v2 v3 v4 v5 v6 v7 v8 v9;unfold WK at d;refine⟨x,rfl,Wq a Z0,λj k=>((rd j k).keep (λb h=>Va ?_) λ_ q=>q).mono λb q=>q.imp (λq=>q) λq=>⟨Z0,?_⟩⟩;obtain q|q:=h;have:=f b q;omega;omega;rw[d];exact q.2
def DoPost.drew{G:Z4}{w W:Z3}{r:Int×Hp×Int}{e:Ending}(h:DoPost G w r e W):DoPost G w r e W.drew:=by
 obtain⟨x,a,d,f⟩:=h;exact⟨x,a,d.drew,λj g=>(f j g).keep (λb _=>rfl) λ_ q=>q⟩
def Pz(w:Z3)(G:Z4)(Q:∀b,G b->b<xz (xj w))(h:Hp)(hh:h.ok)(a:Z5)(hs:∀j,j<5->Rd w G (.sl<|(Zu h j).map vu) (a j))(hr:Yg h=xk){k p s i z pp v vv er:Int}{g:Hp}(hk:1<=k/\k<=7)(b7:∀u∈Ug k p s,0<=u/\u<I h.E)
  {F:Zm} (b5:XZ xP F=xk) (hM:∀(n:Nat) (W:Z3) (x:Zc),0<n->(method n (WU k) x "cromlech/mutator.do").run xP W=.ok (F,x) W)
  (hF:∀W,Below (xz<|xj w) w W->Calls xP F #[.agg<|Xr k p s i z pp v,Zx h a] W (LD G W (g,er)))
  (hE:(¬er=0/\vv=0/\g=Hp.zero)\/(er=0/\vv=0/\∀(W:Z3) (x:Zc),(Instr.typeAssert (.iface (WU k) x) 48 53 xk).run xP W=.ok (.tuple #[.nilIface,.bool xw]) W)\/
   (er=0/\(∀(W:Z3) (x:Zc),(Instr.typeAssert (.iface (WU k) x) 48 53 xk).run xP W=.ok (.tuple #[.iface (WU k) x,.bool xk]) W)/\∃Fo,XZ xP Fo=xk/\(∀(n:Nat) (W:Z3) (x:Zc),0<n->(method n (WU k) x "cromlech/mutator.told").run xP W=.ok (Fo,x) W)/\
    ∀W,Below (xz<|xj w) w W->Calls xP Fo #[.agg<|Xr k p s i z pp v,Zx h a] W λe w'=>e=.returned (.int .u64 vv)/\Below (xz<|xj W) W w'))
  :Calls xP 8 #[Zx h a,.agg<|Xr k p s i z pp v] w (DoPost G w (vv,g,er)):=by
 have HR:∀W,Below (xz<|xj w) w W->Calls xP 10 #[Zx h a] W λe w'=>e=.returned (.bool<|Yg h)/\Below (xz<|xj W) W w':=λW hb=>
  Jk (w:=W) (G:=G) (x:=a) hh (λb R=>Zf4 (Q b R) hb.size) (λj hj=>(hs j hj).keep (λb R=>hb.block b<|Q b R) λ_ q=>q)
 rw[hr]at HR;have d7:=Zf0 HR;obtain⟨a4,q4,e4⟩:=Xp<|hs 4 Z0;have h0:=hh.E;obtain⟨W0,a6,h6,T⟩:=qS w (.cells (X0 h a) 27)<|.cells (Xr k p s i z pp v) 40;obtain⟨p0,s0,_,_⟩:=T.F;have a5:=Zf0 T;have b8:RQ k p s i z pp v=.iface (WU k) (.agg<|Xr k p s i z pp v):=by unfold RQ;rw[Zfc hk]
 have a2:=Zf0 (λW=>Z48 W k p s i z pp v);have a3:=Zf0 (λW=>Z54 W k p s i z pp v hk);rw[b8]at a2 a3;have D:=d7.out W0 a5.out.bp;unfold X0 Xr at a6;unfold X0 at p0;unfold Xr at s0;unfold Zx at D;rw[show Zu h 4=h.E from rfl]at e4;rw[e4]at p0 a6 D;have d6:=Zf0 D;have E4:=Zf0 e4;have d5:=Zf0 b7;have HF:=Zf0 hF;have HE:=Zf0 hE;have g5:=NE b5;clear HR hs T b8 b7 D hF b5 hE;unfold Zx;rw[e4];clear e4;unfold Xr;have f7:∀(W:Z3) (t:Zf) (u:Zc),(binOp .eql 48 (.iface t u) .nilIface).run xP W=.ok (.bool xw) W:=λW t u=>ZeR;have e2:I (Ug k p s)<=2:=by
  unfold Ug;split;simp;split<;>simp
 obtain⟨L,hL⟩:∃L,I (Ug k p s)=L:=⟨_,rfl⟩;rw[hL]at e2;go_enter Z0A,Try.ntmps8
 go_wp2_with (first
  |(go_at_call 10;go_loud (refine d6.out.mono ?_;rintro e w1 ⟨rfl,a7⟩;have X:=a5.out.below a7;obtain⟨p1,s1,_,_⟩:=X.F;unfold X0 at p1;unfold Xr at s1;rw[E4.out]at p1;have d9:=Zf0 X;clear a7 X p0 s0))
  |(go_at_call 15;go_loud (refine(a2.out w1).mono ?_;rintro e w2 ⟨rfl,a8⟩;have Y:=d9.out.below a8;obtain⟨p2,s2,_,_⟩:=Y.F;unfold X0 at p2;rw[E4.out]at p2;have e0:=Zf0 Y;clear a8 Y p1 s1))
  |(go_at_call 16;go_loud (refine(a3.out w2).mono ?_;rintro e w3 ⟨gn,rfl,a9,g7,B⟩;rw[hL];have Z:=e0.out.below a9;obtain⟨p3,s3,r3,e7⟩:=Z.F;unfold X0 at p3;unfold ZI at r3;rw[E4.out]at p3;have O:=Zf0 Z;have HC:=Zf0 B;clear a9 Z p2 s2 B)))
 go_loop [4,24] (λv4 i=>v4=.int .u64 0/\∃k:Nat,i=.int .i64 k/\k<=L) (λ_ i=>L- (intOf i).toNat)
 case atStart=>exact⟨rfl,0,rfl,Z0⟩
 case round=>
  obtain⟨rfl,N,rfl,g8⟩:=hrel;by_cases b9:N<L
  .obtain⟨u,hu⟩:∃u,(Ug k p s)[N]?=J u:=⟨_,ZeX Z0⟩;have g6:=HC.out N u hu;obtain⟨h1,h2⟩:=d5.out u<|Zf5 hu;have f9:(u<0)=False:=ZgU Z0;have g3:(u≥(I h.E:Int))=False:=ZgU Z0;have g4:((I h.E:Int)<=u)=False:=ZgU Z0;have f5:((N:Int)< (L:Int))=True:=Zhn Z0;have HU:=Zf0<|And.intro hu<|And.intro hL b9;clear hu hL h1 h2 b9;go_wp2;go_round
   case rel=>exact⟨rfl,N+1,by go_num,(by have h9:N<L:=HU.out.2.2;omega)⟩
   case measure=>have h9:N<L:=HU.out.2.2;simp[intOf];omega
  .obtain rfl:N=L:=Z0;have H:=HF.out w3 O.out.bp;unfold Zx at H;rw[show a 4=_ from E4.out]at H;have d0:=Zf0 H;clear H
   go_upto_region 13 with (first
    |(refine d0.out.mono ?_;rintro e w4 ⟨y,rfl,S,f⟩;dsimp only at f;obtain⟨b0,k0,f0⟩:=Xp<|f 0 (by omega);obtain⟨b1,k1,f1⟩:=Xp<|f 1 (by omega);obtain⟨b2,k2,f2⟩:=Xp<|f 2 (by omega);obtain⟨b3,k3,f3⟩:=Xp<|f 3 (by omega);obtain⟨b4,k4,f4⟩:=Xp<|f 4 (by omega);dsimp only;unfold Zx;rw[f0,f1,f2,f3,f4];have a0:=O.out.below S;obtain⟨_,_,r4,e8⟩:=a0.F;unfold ZI at r4;have P:=Zf0 a0;have a1:=Zf0<|And.intro S f;clear S f a0 p3 s3 r3 e7))
   obtain⟨r,d⟩:∃r,WK w4 (xz (xj w)+1+1) (.int .u64 g.base) (.int .i64 g.cap) (.int .i64 g.to) (.bool g.M) (.int .i64 g.Y) (.slice b0 (I<|Zu g 0) k0) (.slice b1 (I<|Zu g 1) k1) (.slice b2 (I<|Zu g 2) k2) (.slice b3 (I<|Zu g 3) k3) (.slice b4 (I<|Zu g 4) k4)=r:=⟨_,rfl⟩;have e6:xz (xj r)=xz (xj w4):=by rw[<-d];exact yV _ _ _ _ _ _ _ _ _ _ _ _
   unfold WK at d;rw[d];have n5:r.heap[xz (xj w)+2]?=J (.cells (X0 g y) 27 (0,0)):=by
    rw[<-d];unfold X0;rw[f0,f1,f2,f3,f4];exact L5 P.out.b2
   have M:Below (xz<|xj w) w r:=by rw[<-d];exact Wq P.out.bp Z0
   have h5:r.heap[xz<|xj w]?=J (.cells (X0 h a) 27 (0,0)):=by rw[<-d];exact(Va Z0).trans P.out.b0
   have c1:∀j,j<5->Rd r (λc=>G c\/(xz (xj w)+3<=c/\c<xz (xj r))) (.sl<|(Zu g j).map vu) (y j):=λj hj=>by
    have h4:=a1.out.1.size;have h3:=ZV O.out.b2;exact((a1.out.2 j hj).keep (λb hb=>by rw[<-d];exact Va (by obtain q|q:=hb;have:=Q b q;omega;omega)) λ_ q=>q).mono λb q=>q.imp (λq=>q) λq=>⟨Z0,Z0⟩
   have y5:∀j,r.cell? ⟨xz (xj w)+1+1,j,U⟩=(#[.int .u64 g.base,.int .i64 g.cap,.int .i64 g.to,.bool g.M,.int .i64 g.Y,.slice b0 (I<|Zu g 0) k0,.slice b1 (I<|Zu g 1) k1,.slice b2 (I<|Zu g 2) k2,.slice b3 (I<|Zu g 3) k3,.slice b4 (I<|Zu g 4) k4]:Array Value)[j]? :=λj=>by
    have:=Zf6 _ _ j _ _ _ n5;unfold X0 at this;rw[f0,f1,f2,f3,f4]at this;exact this
   have e1:∀j,r.frozen? ⟨xz (xj w)+1+1,j,U⟩=xw:=λj=>Y9 n5;have o:=Zf0<|And.intro n5<|And.intro M<|And.intro h5 c1;have F:=Zf0<|And.intro f0<|And.intro f1<|And.intro f2<|And.intro f3 f4;clear n5 M h5 c1 r4 e8 d e6 f0 f1 f2 f3 f4;obtain⟨e3,rfl,rfl⟩|⟨rfl,rfl,e5⟩|⟨rfl,e5,Fo,b6,g9,c0⟩:=HE.out
   .have f6:=ZgU e3;go_wp2;have l:=yU o.out.1 (.int .u64 0) (.int .i64 0) (.int .i64 0) (.bool xw) (.int .i64 0) (.slice U 0 0) (.slice U 0 0) (.slice U 0 0) (.slice U 0 0)<|.slice U 0 0;unfold WK at l;have C:=λj=>Zf6 _ _ j _ _ _ l;refine ZfA (v:=.tuple #[.int .u64 0,.agg ZI,.int .i64 er]) ?_ rfl ?_
    .simp[results,Try.results8,go_sem,C,ZI]
    exact jT Q (x:=λ_=>.slice U 0 0) o.out.2.1 (JA _ _) _ _
   .go_upto_region 18 with fail;go_region;all_goals
     go_wp2;try simp only[Exit.inBlock,Exit.then]
     have l:=yU o.out.1 (.int .u64 g.base) (.int .i64 g.cap) (.int .i64 g.to) (.bool g.M) (.int .i64 g.Y) (.slice b0 (I<|Zu g 0) k0) (.slice b1 (I<|Zu g 1) k1) (.slice b2 (I<|Zu g 2) k2) (.slice b3 (I<|Zu g 3) k3)<|.slice b4 (I<|Zu g 4) k4;unfold WK at l;have C:=λj=>Zf6 _ _ j _ _ _ l;refine ZfA (v:=.tuple #[.int .u64 0,Zx g y,.int .i64 0]) ?_ rfl ?_
     .unfold Zx;rw[F.out.1,F.out.2.1,F.out.2.2.1,F.out.2.2.2.1,F.out.2.2.2.2];simp[results,Try.results8,go_sem,C]
     exact(jT Q o.out.2.1 o.out.2.2.2 _ _).drew
   .have e9:=NE b6;have K:=c0 r o.out.2.1;unfold Zx at K;rw[show a 4=_ from E4.out]at K;have p5:=λj=>Zf6 _ _ j _ _ _ o.out.2.2.1;unfold X0 at p5;rw[E4.out]at p5;have d8:=Zf0 K;clear K c0 b6
    go_upto_region 18 with (first
     |(refine d8.out.mono ?_;rintro e w6 ⟨rfl,A⟩;have n6:=(A.block _<|ZV o.out.1).trans o.out.1;have y6:=λj=>Zf6 _ _ j _ _ _ n6;unfold X0 at y6;rw[F.out.1,F.out.2.1,F.out.2.2.1,F.out.2.2.2.1,F.out.2.2.2.2]at y6;have f8:∀j,w6.frozen? ⟨xz (xj w)+1+1,j,U⟩=xw:=λj=>Y9 n6;have c8:∀j,j<5->Rd w6 (λc=>G c\/(xz (xj w)+3<=c/\c<xz (xj w6))) (.sl<|(Zu g j).map vu) (y j):=λj hj=>(((o.out.2.2.2 j hj).keep (λb hb=>A.block b (by have:=o.out.2.1.size;obtain q|q:=hb;have:=Q b q;omega;exact q.2)) λ_ q=>q).mono λb q=>q.imp (λq=>q) λq=>⟨q.1,by have:=A.size;omega⟩);have H6:=Zf0<|And.intro n6<|And.intro (o.out.2.1.trans<|A.mono o.out.2.1.size) c8;clear n6 c8 A y5 e1 p5))
    go_region;all_goals
     go_wp2;try simp only[Exit.inBlock,Exit.then]
     have l:=yU H6.out.1 (.int .u64 g.base) (.int .i64 g.cap) (.int .i64 g.to) (.bool g.M) (.int .i64 g.Y) (.slice b0 (I<|Zu g 0) k0) (.slice b1 (I<|Zu g 1) k1) (.slice b2 (I<|Zu g 2) k2) (.slice b3 (I<|Zu g 3) k3)<|.slice b4 (I<|Zu g 4) k4;unfold WK at l;have C:=λj=>Zf6 _ _ j _ _ _ l;refine ZfA (v:=.tuple #[.int .u64 vv,Zx g y,.int .i64 0]) ?_ rfl ?_
     .unfold Zx;rw[F.out.1,F.out.2.1,F.out.2.2.1,F.out.2.2.2.1,F.out.2.2.2.2];simp[results,Try.results8,go_sem,C]
     exact(jT Q H6.out.2.1 H6.out.2.2 _ _).drew
def OJ{f:Zm}(n:XZ xP f=xk){h:Hp}{y:V}(a:Ub y=xk){r:Int×Hp×Int}
  (hc:∀(w:Z3) (G:Z4) (d:Z5),(∀b,G b->b<xz (xj w))->(∀j,j<5->Rd w G (.sl<|(Zu h j).map vu) (d j))->Calls xP f #[Zx h d,Ta y] w (DoPost G w r)):
  VC xP f xw [ZD h,y] (.ak [vu r.1,ZD r.2.1,vi r.2.2]):=by
 refine⟨n,λw G vs q o k=> ?_⟩;have r0:=k 0 _ rfl;have C:=jP a<|k 1 _ rfl;have t:vs=#[vs.getD 0 xy,vs.getD 1 xy]:=by
  have g:vs.size=2:=o;apply Zhq;simp[g];intro i D F;have u:i<2:=Z0
  match i,u with
  |0,_=>simp[Array.getD,g]
  |1,_=>simp[Array.getD,g]
 obtain⟨d,p,B⟩:=zI r0;rw[t,p,C];refine(hc w G d q B).mono ?_;rintro e H ⟨x,rfl,l,A⟩;refine⟨_,rfl,l,.ak _ _ rfl ?_⟩;intro i y a
 match i,a with
 |0,a=>cases a;exact .int _ _
 |1,a=>cases a;exact RJ λj z=>(A j z).mono λb l=>ZeT
 |2,a=>cases a;exact .int _ _
def OK{f:Zm}(g:XZ xP f=xk){h:Hp}{y:V}(q:Ub y=xk){r:Int×Hp×Int}{Q:Prop}
  (hc:∀(w:Z3) (G:Z4) (a:Z5),(∀b,G b->b<xz (xj w))->(∀j,j<5->Rd w G (.sl<|(Zu h j).map vu) (a j))->Calls xP f #[Zx h a,Ta y] w (TB w r Q)):
  VC xP f xw [ZD h,y] (.ak [vu r.1,ZD r.2.1,vi r.2.2]):=by
 refine OJ g q λw G a l p=>(hc w G a l p).mono ?_;rintro e t ⟨x,k,d,o,_⟩;exact⟨x,k,d,λj n=>(o j n).mono λb d=>.inr d⟩
def DL{h:Hp}(g:h.ok){p:Pts}(r:Rt h p){n:Nat}{pt wd:Int}(z:n<=255)(j:X5 n pt=(wd,0)):∃q,Rt (placeG h p n) q/\(placeG h p n).ok/\VC xP 17 xw [ZD h,WM n pt] (.ak [vu (Uk h p q n wd).1,ZD (Uk h p q n wd).2.1,vi (Uk h p q n wd).2.2]):=by
 obtain⟨t,x⟩:∃t,placeG h p n=t:=⟨_,rfl⟩;have key:∃q,Rt (placeG h p n) q/\(placeG h p n).ok:=by
  by_cases a:h.M=xw/\YB h p (n+1:Nat)=xw;obtain⟨q,d⟩:=G0 r a.1;have B:h.to=0\/h.to=1:=(XL.1 r.bj).2.2.2.2.1;obtain⟨f,sc⟩:=d.da<|n+1;unfold placeG;rw[Zfc a];exact⟨f,sc.rt,R3 (FW g B) d _⟩;obtain⟨f,sc⟩:=r.da<|n+1;unfold placeG;rw[Zf7 a];exact⟨f,sc.rt,R3 g r _⟩
 obtain⟨q,d,k⟩:=key;refine⟨q,d,k,OK Z2 (y:=WM n pt) rfl (Q:=h.M=xw/\YB h p (n+1:Nat)=xk) λw G o u A=> ?_⟩;obtain⟨f,l,_,a⟩:=DK w G u h g o A n pt wd z j r;rw[d.fu l]at a;exact a
def Z4I:∀(n:Nat) (W:Z3) (x:Zc),0<n->(method n (WU 1) x "cromlech/mutator.do").run xP W=.ok (103,x) W
 |n+1,W,x,_=>Z2
def Hk:∀ {l:List String},l≠[]->∃m,Instr.least l=J m
 | [],h=>absurd rfl h
 |_::_,_=>⟨_,rfl⟩
def Z4L(p:String->Bool)(f:String->String):∀l:List String,l≠[]->∃m,(Instr.least (l.partition p).2<|>Instr.least ((l.partition p).1.map f))=J m
 | [],h=>absurd rfl h
 |x::r,_=>by
  rw[List.partition_eq_filter_filter];cases d:p x with
  |true=>
   obtain⟨m,a⟩:=Hk (l:=((x::r).filter p).map f) (by rw[ZiB d];simp);dsimp only;rw[a];cases Instr.least ((x::r).filter<|not∘p)<;>simp
  |false=>
   obtain⟨m,a⟩:=Hk (l:=(x::r).filter<|not∘p) (by rw[ZiB (by simp[d])];simp);dsimp only;rw[a];simp
def Z4M{want:Array (String×TypeId)}{got:Array Method}(h:(want.toList.filter λ(name,sig)=> !got.any λm=>m.name==name&&m.sig==sig).isEmpty=xw):∃m,Instr.missingMethod want got=J m:=by
 unfold Instr.missingMethod;exact Z4L _ _ _ λe=>by
  rw[List.map_eq_nil_iff]at e;rw[e]at h;cases h
noncomputable def lacksTold (T:Zf):Bool:=
 match xP.underlying 53,xP.info? T with
 |some (.interface a),J d=> !(a.toList.filter λ(name,sig)=> !d.methods.any λm=>m.name==name&&m.sig==sig).isEmpty
 |_,_=>xw
def On{T:Zf}(h:lacksTold T=xk)(W:Z3)(x:Zc):(Instr.typeAssert (.iface T x) 48 53 xk).run xP W=.ok (.tuple #[.nilIface,.bool xw]) W:=by
 unfold lacksTold at h;split at h;rename_i want j f a;obtain⟨m,d⟩:=Z4M (want:=want) (got:=j.methods) ZeO;have g:(zeroValue 53).run xP W=.ok .nilIface W:=Z2;simp[Instr.typeAssert,ZfD f,typeInfo,a,d,g];cases h
def Z97:∀(W:Z3) (x:Zc),(Instr.typeAssert (.iface (WU 1) x) 48 53 xk).run xP W=.ok (.tuple #[.nilIface,.bool xw]) W:=On Z2
def Gw{w:Z3}{G:Z4}{r:Hp×Int}(e:Ending)(w':Z3)(h:TA w r e w'):LD G w r e w':=by
 obtain⟨x,a,d,f⟩:=h;exact⟨x,a,d,λj g=>(f j g).mono λb q=>.inr q⟩
def Dx{h:Hp}(S:h.ok)(Y:Yg h=xk){k A s i z pp v B er:Int}{g:Hp}(X:1<=k/\k<=7)(H:∀u∈Ug k A s,0<=u/\u<I h.E)
  {F:Zm} (D:XZ xP F=xk) (R:∀(n:Nat) (W:Z3) (x:Zc),0<n->(method n (WU k) x "cromlech/mutator.do").run xP W=.ok (F,x) W)
  (Q:∀(w:Z3) (G:Z4) (a:Z5),(∀b,G b->b<xz (xj w))->(∀j,j<5->Rd w G (.sl<|(Zu h j).map vu) (a j))->Calls xP F #[.agg<|Xr k A s i z pp v,Zx h a] w (LD G w (g,er)))
  (P:(¬er=0/\B=0/\g=Hp.zero)\/(er=0/\B=0/\∀(W:Z3) (x:Zc),(Instr.typeAssert (.iface (WU k) x) 48 53 xk).run xP W=.ok (.tuple #[.nilIface,.bool xw]) W)\/
   (er=0/\(∀(W:Z3) (x:Zc),(Instr.typeAssert (.iface (WU k) x) 48 53 xk).run xP W=.ok (.tuple #[.iface (WU k) x,.bool xk]) W)/\∃Fo,XZ xP Fo=xk/\(∀(n:Nat) (W:Z3) (x:Zc),0<n->(method n (WU k) x "cromlech/mutator.told").run xP W=.ok (Fo,x) W)/\
    VC xP Fo xw [T4 k A s i z pp v,ZD h] (vu B))):
  VC xP 8 xw [ZD h,T4 k A s i z pp v] (.ak [vu B,ZD g,vi er]):=by
 refine OJ Z2 (y:=T4 k A s i z pp v) rfl (r:=(B,g,er)) λw G a C K=> ?_;have p:∀W,Below (xz<|xj w) w W->∀j,j<5->Rd W G (.sl<|(Zu h j).map vu) (a j):=λW d j T=>(K j T).keep (λb f=>d.block b<|C b f) λ_ q=>q;have o:∀W,Below (xz<|xj w) w W->∀b,G b->b<xz (xj W):=λW d b f=>Zf4 (C b f) d.size;refine Pz w G C h S a K Y X H D R (λW d=>Q W G a (o W d)<|p W d) ?_;obtain l|l|⟨l,L,Fo,M,N,O⟩:=P;exact .inl l;exact .inr<|.inl l;refine .inr<|.inr ⟨l,L,Fo,M,N,λW d=>Zhc (O.2 W G _ (o W d) rfl ?_) ?_⟩;intro i y t
 match i,t with
 |0,t=>cases t;exact Nf rfl
 |1,t=>cases t;exact RJ<|p W d
 rintro e w' ⟨v,rfl,d,Z⟩;exact⟨by rw[Tt Z],d⟩
def Fm{h:Hp}(D:h.ok){p q:Pts}(r:Rt h p){r' n:Nat}(t:r'<I h.E){s i pt wd v:Int}(L:n<=255)(o:X5 n pt=(wd,0))(x:Rt (placeG h p n) q){res:Hp×Int}
  (a:(YB (placeG h p n) q (n+1:Nat)=xw/\res=(Hp.zero,7))\/(h.M=xw/\YB h p (n+1:Nat)=xk/\res=(X6 (Yt h wd n) 4 r'<|ZJ (Zv<|Yt h wd n) 2 0,0))):
  VC xP 8 xw [ZD h,T4 1 r' s i n pt v] (.ak [vu 0,ZD res.1,vi res.2]):=by
 refine Dx D r.right Z0 (λu N=>by simp[Ug]at N;omega) (F:=103) Z2 Z4I (λw G f z M=> ?_) ?_;refine Zhc (Z5b w h f (v':=(Uk h p q n wd).1) (g:=(Uk h p q n wd).2.1) (er:=(Uk h p q n wd).2.2) (Q:=h.M=xw/\YB h p (n+1:Nat)=xk) (res:=res) (λW A=> ?_) ?_) Gw;obtain⟨O,y,_,B⟩:=DK W G (λb d=>Zf4 (z b d) A.size) h D f (λj K=>(M j K).keep (λb d=>A.block b<|z b d) λ_ q=>q) n pt wd L o r;rw[x.fu y]at B;exact B;obtain⟨k,l⟩|⟨k,l,H⟩:=a;left;unfold Uk;rw[k,l];exact⟨Z1,rfl⟩;right;have C:placeG h p n=h:=by
  unfold placeG;rw[Zf7 (by rw[l];simp),Tv k]
 rw[C]at x;rw[r.fu x];unfold Uk;rw[C,l,H];exact⟨rfl,⟨k,rfl⟩,t,rfl⟩;obtain⟨_,rfl⟩|⟨_,_,rfl⟩:=a;exact .inl ⟨Zeh,rfl,rfl⟩;exact .inr<|.inl ⟨rfl,rfl,Z97⟩
def Ct{h:Hp}{p:Pts}(r:Rt h p)(n:Int):YB h p n=decide ((I h.H:Int)+I h.aa+Sm h+n<=h.cap):=by unfold YB;rw[r.mf]
def Z6z{h:Hp}{p:Pts}(r:Rt h p){n:Nat}(a:h.M=xw)(h2:decide ((I h.H:Int)+I h.aa+Sm h+(n+1:Nat)<=h.cap)=xw):placeG h p n=ZU (YF h) (n+1):=by
 unfold placeG;rw[Zfc ⟨a,by rw[Ct r,h2]⟩]
end Vm
end
section
namespace Vm
open Go Go.Proofs
def p5:Fn:=⟨4,[0,1,4,6],pQ [pR [pV 2<|pI 0],pi 3 (pl (.s 0)<|pI 0)<|pR [pV 0<|.un .neg<|pa (.s 0)<|pI 1]]<|px [pV 2<|.bu .rem (.s 0)<|.s 1],[(2,.v)]⟩
def c5:xQ [.fz,.fz] Try.f5=J p5:=Z2
def p9:Fn:=⟨8,[0,1,2,3,4,6,5,7],pQ [pR [(2,pS 0 10),(3,pS 1 2),pV 4 pF],pC [pK 8 17 [.mm 2 0 10,.mm 3 0 2]] [(5,pM (.sz (.ext (.s 8) 1) 10) 10),pV 6<|.ext (.s 8) 0,pV 7<|.ext (.s 8) 2]]<|px [pV 4<|pe (.s 7)<|pI 0],[(4,.v)]⟩
def c9:xQ [.fz,.fz] Try.f9=J p9:=Z2
def IW:Fn:=⟨8,[0,2,3,8,7,9,5,6],pQ [pR [pV 1<|pI 0],pR [pV 2<|pI 0],pQ [pR [pV 3<|pI 0,pV 4<|.len<|.s 0,pV 7<|.s 0]]<|po [0,1,2,3,4,7] 5 (pl (.s 3)<|.s 4) (pQ [pR [pV 6<|.ae (.bv (.s 7) (.s 3) 1) 0]]<|pR [pV 2<|pa (.s 2)<|.s 6])<|pc 3]<|px [pV 1<|.s 2],[(1,.v)]⟩
def c13:xQ [.fz] Try.f13=J IW:=Z2
def p4:Fn:=⟨6,[0,1,2,3,4,5],pQ [pR [pV 0 pF],.ax ⟨[],[([],.ag [pU 10,pI 5,pI 1,pT,pI 0,.lit [pU 2,pU 6],pN,.lit [pU 31,pU 0],pN,.lit [pU 31]])],[(1,.m [pU 10,pI 5,pI 1,pT,pI 0,.lit [pU 2,pU 6],pN,.lit [pU 31,pU 0],pN,.lit [pU 31]])]⟩,pC [.call 6 [] (.id 7) xk xw [.mm 1 0 10]] [(2,pM (.sz (.ext (.s 6) 0) 5) 5),pV 3<|.ext (.s 6) 1],pC [.call 7 [] (.id 7) xk xw [pY]] [(4,pM (.sz (.ext (.s 7) 0) 5) 5),pV 5<|.ext (.s 7) 1],.ax ⟨[.lt 8 []<|pe (.s 3)<|pI 0,.lt 9 []<|.ite (.s 8) (.ite (pe (.ae (.sz (.ah<|.mm 2 0 5) 5) 0)<|.ae (.sz (.ah<|.ag [pI 2,pI 0,pI 3,pI 2,pI 2]) 5) 0) (.ite (pe (.ae (.sz (.ah<|.mm 2 0 5) 5) 1)<|.ae (.sz (.ah<|.ag [pI 2,pI 0,pI 3,pI 2,pI 2]) 5) 1) (.ite (pe (.ae (.sz (.ah<|.mm 2 0 5) 5) 2)<|.ae (.sz (.ah<|.ag [pI 2,pI 0,pI 3,pI 2,pI 2]) 5) 2) (.ite (pe (.ae (.sz (.ah<|.mm 2 0 5) 5) 3)<|.ae (.sz (.ah<|.ag [pI 2,pI 0,pI 3,pI 2,pI 2]) 5) 3) (.ite (pe (.ae (.sz (.ah<|.mm 2 0 5) 5) 4)<|.ae (.sz (.ah<|.ag [pI 2,pI 0,pI 3,pI 2,pI 2]) 5) 4) pT pF) pF) pF) pF) pF) pF,.lt 10 []<|.ite (.s 9) (pe (.s 5)<|pI 1) pF,.call 11 [(10,xk)] (.id 9) xw xk [.mm 1 0 10,.ag [pI 2,pI 0]],.lt 12 []<|.ite (.s 10) (.s 11) pF,.call 13 [(12,xk)] (.id 9) xw xk [.mm 1 0 10,.ag [pI 3,pI 0]],.lt 14 []<|.ite (.s 12) (.un .not<|.s 13) pF,.call 15 [(14,xk)] (.id 9) xw xw [pY,.ag [pI 0,pI 0]]],[([(8,xk)],.ite (pe (.ae (.sz (.ah<|.mm 2 0 5) 5) 0)<|.ae (.sz (.ah<|.ag [pI 2,pI 0,pI 3,pI 2,pI 2]) 5) 0) (.ite (pe (.ae (.sz (.ah<|.mm 2 0 5) 5) 1)<|.ae (.sz (.ah<|.ag [pI 2,pI 0,pI 3,pI 2,pI 2]) 5) 1) (.ite (pe (.ae (.sz (.ah<|.mm 2 0 5) 5) 2)<|.ae (.sz (.ah<|.ag [pI 2,pI 0,pI 3,pI 2,pI 2]) 5) 2) (.ite (pe (.ae (.sz (.ah<|.mm 2 0 5) 5) 3)<|.ae (.sz (.ah<|.ag [pI 2,pI 0,pI 3,pI 2,pI 2]) 5) 3) (.ite (pe (.ae (.sz (.ah<|.mm 2 0 5) 5) 4)<|.ae (.sz (.ah<|.ag [pI 2,pI 0,pI 3,pI 2,pI 2]) 5) 4) pT pF) pF) pF) pF) pF),([(9,xk)],pe (.s 5)<|pI 1),([(12,xk)],.un .not<|.s 13),([(14,xk)],.un .not<|.s 15)],[pV 0<|.ite (.s 14) (.un .not<|.s 15) pF]⟩] .ret,[(0,.v)]⟩
def c4:WB (Yb Try.prog) fresh sig [] [] Try.f4=J p4:=Z2
def p7:Fn:=⟨9,[0,1,2,3,9,4,5,17,6],pQ [pR [(1,pS 0 10),(2,.m [pI 0,pI 0,pI 0,pI 0,pI 0]),pV 3<|pI 0],pQ [pC [pK 9 10 [.mm 1 0 10]] [pV 4<|.un .not<|.s 9]]<|pw (.s 4)<|px [(2,pM (.ag [pI 0,pI 0,pI 0,pI 0,pI 0]) 5),pV 3<|pI 1],pC [pK 10 11 [.mm 1 0 10]] [(5,pM (.sz (.ext (.s 10) 0) 10) 10),pV 6<|.ext (.s 10) 1],pi 7 (pn (.s 6)<|pI 0)<|px [(2,pM (.ag [pI 0,pI 0,pI 0,pI 0,pI 0]) 5),pV 3<|.s 6],pC [pK 11 12 [.mm 1 0 10]] [pV 8<|.s 11],pC [pK 12 13 [.lit [.len<|.m 1 5,.len<|.m 1 6,.one<|.s 8]],pK 13 14 [.mm 1 0 10]] [(2,pM (.ag [pb (.len<|.m 1 5)<|.m 1 4,.one<|.s 8,pb (.m 1 1)<|.s 12,.one<|.s 13,pb (.m 5 4)<|.m 1 4]) 5),pV 3<|pI 0]] .ret,[(2,(.ag 5)),(3,.v)]⟩
def c7:WB (Yb Try.prog) fresh sig [.fz] [] Try.f7=J p7:=Z2
def Z6c{c n:Int}(hc:YI c)(f:0<n):VC xP 5 xw [vi c,vi n]<|vi<|pick c n:=by
 refine Y4 Z0d follows Z2 c5 rfl ?_;obtain⟨a,d⟩:=hc;by_cases h:c<0;simp[p5,h];simp(disch:=omega) only[ZB];refine⟨Z0,?_⟩;unfold pick;rw[Zfc h,Zgu Z0];simp[p5,h];refine⟨Z0,?_⟩;unfold pick;rw[Zf7 h,Zgu Z0]
def PV{h:Hp}(g:h.ok)(j:Yg h=xw){n pt wd:Int}(a:X5 n pt=(wd,0)):VC xP 17 xw [ZD h,WM n pt]<|.ak [vu 0,ZD Hp.zero,vi 1]:=
 OK Z2 (y:=WM n pt) rfl (r:=(0,Hp.zero,1)) (Q:=False) λw G d f k=>PW w G f h g d k n pt (.inr ⟨by rw[a],j⟩) _
def DA{h g:Hp}{n m x e:Int}(k:VC xP 17 xw [ZD h,WM n m]<|.ak [vu x,ZD g,vi e]):VC xP 9 xw [ZD h,WM n m]<|.bool<|decide (e=0):=by
 refine Y4 Z0C follows Z2 c9 rfl ?_;simp only[ZD,WM]at k⊢;simp[p9];refine ZC k Z1 ?_;simp
def Z90{a b c:Int}(y:0<=a/\a<=100000)(r:0<=b/\b<=100000)(hc:0<=c/\c<=100000):VC xP 13 xw [.sl [vi a,vi b,vi c]]<|vi<|a+b+c:=by
 refine Y4 u5 follows Z2 c13 rfl ?_;obtain⟨l,d⟩:∃l,l=[a,b,c]:=⟨_,rfl⟩;rw[show [vi a,vi b,vi c]=l.map vi by rw[d];rfl];have o:l[0]?=J a:=by rw[d];rfl
 have p:l[1]?=J b:=by rw[d];rfl
 have q:l[2]?=J c:=by rw[d];rfl
 have h:I l=3:=by rw[d];rfl
 obtain⟨F,k,w,x,n⟩:∃F:Nat->Int,F 0=0/\F 1=a/\F 2=a+b/\F 3=a+b+c:=⟨λi=>if i=0 then 0 else if i=1 then a else if i=2 then a+b else a+b+c,rfl,rfl,rfl,rfl⟩;simp[IW,h];refine Tz 3 3 (λi=>[(2,.v<|vi<|F i),(3,.v<|vi i)]) (λ_=>True) (by simp[k]) Z1 trivial ?_;intro i z _;by_cases g:i<3;obtain⟨u,j,t,r⟩:∃u,l[i]?=J u/\F i+u=F (i+1)/\0<=F i+u/\F i+u<=300000:=by
  rcases(Z0:i=0\/i=1\/i=2)with rfl|rfl|rfl;exact⟨a,o,by show F 0+a=F 1;omega,Z0⟩;exact⟨b,p,by show F 1+b=F 2;omega,Z0⟩;exact⟨c,q,by show F 2+c=F 3;omega,Z0⟩
 have w1:=ZB (F<|i+1) Z0 Z0;have w2:=ZB ((i:Int)+1) Z0 Z0;have f:(i:Int)<3:=Z0;simp[h,g,f,j,Vf j,w1,w2,t];have:i=3:=Z0;subst this;simp[h,n]
def Bo(n m:Int):NoM<|WM n m:=.agg _ λc a=>by
 simp only[Zfi,Zgk,ZhA]at a;obtain rfl|rfl:=a<;>exact .int _ _
def yq(u:Int)(g:Hp)(e:Int):NoM<|.ak [vu u,ZD g,vi e]:=.ak _ λc a=>by
 simp only[Zfi,Zgk,ZhA]at a;obtain rfl|rfl|rfl:=a;exact .int _ _;exact VZ _;exact .int _ _
def jf{h:Hp}{p:Pts}(j:h.ok)(r:Rt h p){n:Nat}{m:Int}(d:Yq n m=xk):∃q,Rt (placeG h p n) q/\(∃(w:Int) (g:Hp),VC (Yb Try.prog) 17 xw [ZD h,WM n m]<|.ak [vu w,ZD g,vi (if YB (placeG h p n) q (n+1:Nat)then 0 else 7)])/\VC (Yb Try.prog) 9 xw [ZD h,WM n m] (.bool<|YB (placeG h p n) q (n+1:Nat)):=by
 have a:X5 n m=(2*((n:Int)+65536*m),0):=by unfold X5;rw[Zfc d]
 obtain⟨q,l,_,k⟩:=DL j r (n:=n) (by have:=YH.1 d;omega) a;have e:(Uk h p q n<|2*((n:Int)+65536*m)).2.2=if YB (placeG h p n) q (n+1:Nat)then 0 else 7:=by unfold Uk;split<;>rfl
 have f:=DA k;rw[e]at k f;refine⟨q,l,⟨_,_,up k (Q1 (VZ h)<|Bo _ _)<|yq _ _ _⟩,?_⟩;have:=up f (Q1 (VZ h)<|Bo _ _)<|.bool _;rwa[show decide ((if YB (placeG h p n) q (n+1:Nat)=xk then(0:Int)else 7)=0)=YB (placeG h p n) q (n+1:Nat)by split<;>simp_all]at this
def Tl(a b c d e:Int):V:=.agg [vi a,vi b,vi c,vi d,vi e]
def OI{P:Z6} [Lg P]{f:Zm}{xs:List V}{r:V}(h:VC P f xw xs r)(l:∀ {w:Z3} {G a:Z4} {v:Zc},Rd w G r v->Rd w a r v):VC P f xk xs r:=
 ⟨h.1,λw G vs d n o=>Lg.dt (h.2 w G vs d n o) λ_ _ ⟨v,j,g,k⟩=>⟨v,j,g,l k⟩⟩
def Ni{w:Z3}{G G':Z4}{v:Zc}{a b c d e k:Int}(h:Rd w G (.ak [Tl a b c d e,vi k]) v):Rd w G' (.ak [Tl a b c d e,vi k]) v:=by
 cases h with
 |ak _ vs g j=>
  refine .ak _ _ g λi y f=> ?_
  match i,f with
  |0,f=>cases f;exact(j 0 _ rfl).gh (λy f=>by simp[Tl,V.cells]at f;obtain rfl|rfl|rfl|rfl|rfl:=f<;>rfl) λl g=>by cases g
  |1,f=>cases f;exact(j 1 _ rfl).gh (λy f=>by simp[V.cells]at f;subst f;rfl) λl g=>by cases g
instance fitOfM:FitF (Yb Try.prog) 7:=zm (P:=Try.prog) Try.func7 rfl Z2
def LF(n:Rj){h:Hp}{p:Pts}(d:h.ok)(r:Rt h p):VC (Yb Try.prog) 7 xk [ZD h]<|.ak [Tl ((I h.H:Int) -h.Y) (Yh p) (h.cap-V0 h p) (words<|Y0<|vg h)<|(ZU h 9223372036854775807).Y-h.Y,vi 0]:=by
 refine OI ?_ Ni;refine Y4 (P:=Yb Try.prog) Try.func7 QK Z2 c7 rfl ?_;have k1:=Pr d r;have k:=PC n d r;have f:=Pt d;rw[r.mf]at f;have u:=r.room;have t:=r.nx;have l:=up (Z90 (a:=I h.H) (b:=I h.aa) (c:=Yh p) Z0 Z0 Z0) (J3<|Z5f [_,_,_])<|.int _ _;have j:=PJ d;rw[r.om]at j;obtain⟨q,s⟩:=r.da 9223372036854775807;have o:=R3 d r 9223372036854775807;have:=o.H;have:=s.rt.dn;have:=s.rt.ei;have:=r.dn;have:=r.ei;unfold V0;generalize ZU h 9223372036854775807=g at*;have w1:=ZB ((I h.H:Int) -h.Y) Z0 Z0;have w2:=ZB (h.cap- ((I h.H:Int)+I h.aa+Yh p)) Z0 Z0;have w3:=ZB (g.Y-h.Y) Z0 Z0;simp only[ZD]at k1 k f l j⊢;simp[p7];refine ZC k1 Z1 ?_;simp;refine ZC k Z1 ?_;simp;refine ZC f Z1 ?_;simp;refine ZC l Z1 ?_;simp;refine ZC j Z1 ?_;simp[w1,w2,w3,Tl]
def PN{h:Hp}(a:h.ok)(d:Yg h=xw):VC (Yb Try.prog) 7 xk [ZD h]<|.ak [Tl 0 0 0 0 0,vi 1]:=by
 refine OI ?_ Ni;refine Y4 (P:=Yb Try.prog) Try.func7 QK Z2 c7 rfl ?_;have k1:=up (Qn a) (J3<|VZ h)<|.bool _;rw[d]at k1;simp only[ZD]at k1⊢;simp[p7];refine ZC k1 Z1 ?_;simp[Tl]
def BP{c n:Int}(hc:YI c)(a:0<n):VC (Yb Try.prog) 5 xw [vi c,vi n]<|vi<|pick c n:=up (Z6c hc a) (Q1 (.int _ _)<|.int _ _)<|.int _ _
instance fitAwake17:FitF (Yb Try.prog) 4:=zm (P:=Try.prog) Try.func4 rfl Z2
def EW(w:Rj):VC (Yb Try.prog) 4 xw []<|.bool xk:=by
 refine Y4 (P:=Yb Try.prog) Try.func4 QK Z2 c4 rfl ?_;obtain⟨p,r⟩:=Jl.1 (Ze5:Yg Tc=xk);have o:Yg Hp.zero=xw:=Ze5;have k1:=LF w A0 r;have q:ZU Tc 9223372036854775807=QE:=by
  rw[show(9223372036854775807:Nat)=2+9223372036854775805 from rfl,qu,show ZU Tc 2=QE by decide+kernel,Tv rfl]
 have t:(Yh p:Int)=0:=by rw[<-r.mf];decide+kernel
 have u:words (Y0<|vg Tc)=2:=Ze5;have h:∀n:Nat,2<=n->placeG Tc p n=QE:=λn x=>by
  unfold placeG;rw[Zf7 (by simp[Tc]),show n+1=2+(n-1)by omega,qu,show ZU Tc 2=QE by decide+kernel,Tv rfl]
 have j:Sm QE=0:=Ze5;obtain⟨y,k,_,a⟩:=jf A0 r (n:=2) (m:=0) Zeh;obtain⟨z,l,_,d⟩:=jf A0 r (n:=3) (m:=0) Zeh;rw[h 2 Z0]at k a;rw[h 3 Z0]at l d;rw[Ct k,j]at a;rw[Ct l,j]at d;have f:=PN Pg o;have g:=up (DA<|PV Pg o (n:=0) (pt:=0) (wd:=0) Zeh) (Q1 (VZ _)<|Bo _ _)<|.bool _;rw[q,u]at k1;unfold V0 at k1;rw[t]at k1;simp only[ZD,WM,Tl,Tc,QE,Hp.zero,Zft,Zgq]at k1 a d f g;simp at k1 a d f g;simp[p4];refine ZC k1 Z1 ?_;simp;refine ZC f Z1 ?_;simp;refine ZC a (λ_=>rfl) ?_;simp;refine ZC d (λ_=>rfl) ?_;simp;refine ZC g Z1 ?_;simp
end Vm
end
section
namespace Vm
open Go Go.Proofs Go.RowKit
def Z1T(w:Z3)(G:Z4)(T:∀b,G b->b<xz (xj w))(h:Hp)(W:h.ok)(n:Z5)(Y:∀j,j<5->Rd w G (.sl<|(Zu h j).map vu) (n j)){k s i z pp v:Int}{r':Nat}(N:r'<I h.E):
  Calls xP 112 #[.agg<|Xr k r' s i z pp v,Zx h n] w (TA w (X6 h 4 r' 0,0)):=by
 have HS:=Zf0 Y;have HH:=Zf0 W;clear Y W;have A:r'< I (Zu h 4):=N;have u:0< I (Zu h 4):=Z0;have a0:(r':Int)< I (Zu h 4):=Z0;obtain⟨rv,O⟩:∃rv,(Zu h 4)[r']?=J rv:=⟨_,ZeX A⟩;obtain⟨s1,s2,s3,s4,s5⟩:=qy h 4 r' 0;have SN:=Zf0<|And.intro s1<|And.intro s2<|And.intro s3<|And.intro s4 s5;clear s1 s2 s3 s4 s5;unfold Zx Xr;go_enter t8,Try.ntmps112;go_wp2_with (first|(go_at_call 24;fail))
 refine(jd _ G (λb M=>by have:=T b M;simp;omega) h HH.out n (λj hj=>(HS.out j hj).keep (λb M=>by have:=T b M;rw[Zfa _ _ _ Ze4,Zfa _ _ _ Ze4,Zfa _ _ _ Z0])<|λ_ h=>h)).mono ?_;rintro e w5 ⟨y,rfl,p,x⟩;obtain⟨a,q,Q,X⟩:=x.lj;rw[Q];have f:MSt w (w5.alloc _) 75 (Xr k r' s i z pp v) h (We h a q)<|xz<|xj w5:=Ie p X rfl;obtain⟨L,d⟩:=KP (f.own.own 4 Z0) rfl u;have P:We h a q 4=.slice (J ⟨L,0,U⟩) (I<|Zu h 4) (q 4):=by simp[We,d]
 have g:=f.own.own 4 Z0;rw[P]at g;have r:=BD g O;have t:=BE g (i:=r') u;have l:=f.put (j:=4) (i:=r') Z0 P 0;obtain⟨D,S⟩:=f.F;obtain⟨H,K⟩:=l.F;rw[SN.out.1,SN.out.2.1,SN.out.2.2.1,SN.out.2.2.2.1,SN.out.2.2.2.2]at K;obtain⟨Z,r4⟩:=l.R;have o:=Zf0 l;unfold Xr at D H;unfold Zx;dsimp only[We]at S K r t Z r4 D H⊢;simp only[d]at D S H K r t Z r4⊢;clear f l g p x X Q;go_wp2;have C:=Gv h 4 r' 0<|We h a q;have B:=Ul o.out.dg (.int .u64 h.base) (.int .i64 h.cap) (.int .i64 h.to) (.bool h.M) (.int .i64 h.Y) (.slice (a 0) (I<|Zu h 0)<|q 0) (.slice (a 1) (I<|Zu h 1)<|q 1) (.slice (a 2) (I<|Zu h 2)<|q 2) (.slice (a 3) (I<|Zu h 3)<|q 3)<|.slice (J ⟨L,0,U⟩) (I<|Zu h 4)<|q 4;simp only[We,d]at B;refine ZfA (v:=.tuple #[Zx (X6 h 4 r' 0)<|We h a q,.int .i64 0]) ?_ rfl ?_
 .rw[C];unfold Zx;simp[results,Try.results112,go_sem,B,We,d]
 have:=Fl o.out (v0:=.int .u64 h.base) (v1:=.int .i64 h.cap) (v2:=.int .i64 h.to) (v3:=.bool h.M) (v4:=.int .i64 h.Y) (v5:=.slice (a 0) (I<|Zu h 0)<|q 0) (v6:=.slice (a 1) (I<|Zu h 1)<|q 1) (v7:=.slice (a 2) (I<|Zu h 2)<|q 2) (v8:=.slice (a 3) (I<|Zu h 3)<|q 3) (v9:=.slice (J ⟨L,0,U⟩) (I<|Zu h 4)<|q 4);simp only[We,d]at this;exact this
def Z4J:∀(n:Nat) (W:Z3) (x:Zc),0<n->(method n (WU 7) x "cromlech/mutator.do").run xP W=.ok (112,x) W
 |n+1,W,x,_=>Z2
def Z98:∀(W:Z3) (x:Zc),(Instr.typeAssert (.iface (WU 7) x) 48 53 xk).run xP W=.ok (.tuple #[.nilIface,.bool xw]) W:=On Z2
def Z1R{h:Hp}(f:h.ok)(j:Yg h=xk){r':Nat}(a:r'<I h.E){s i z pp v:Int}:VC xP 8 xw [ZD h,T4 7 r' s i z pp v]<|.ak [vu 0,ZD<|X6 h 4 r' 0,vi 0]:=
 Dx f j Z0 (λu l=>by simp[Ug]at l;omega) (F:=112) Z2 Z4J (λw G d g k=>(Z1T w G g h f d k a).mono Gw) (.inr<|.inl ⟨rfl,rfl,Z98⟩)
end Vm
end
section
namespace Vm
open Go Go.Proofs
section
def RV(k:Nat)(o:Ob):Ob:= {o with Z:=o.Z+(k:Int)}
def Z8P{ws r:Z9}{old:Bool}{o:Ob}(s:Stands ws old o):Stands (r++ws) old<|RV (I r) o:=by
 obtain⟨a,f⟩:=Zfd s.ie;have e:(o.Z+(I r:Int)).toNat=I r+a:=by rw[f];omega
 have d:o.Z.toNat=a:=by rw[f];rfl
 refine⟨by show 0<=o.Z+(I r:Int);have:=s.ie;omega,s.shape,?_,?_,?_⟩;show o.Z+(I r:Int)+1+o.size<=(I (r++ws):Nat);have:=s.ay;rw[ZfK];omega;have:=s.fk;show Xf (((r++ws).drop<|(o.Z+(I r:Int)).toNat+1).take o.size.toNat) o.gone o.ac 0=xk;rw[e,Zg3,<-Zj3,List.drop_left,<-d];exact this;obtain⟨w,g,h⟩:=s.word;refine⟨w,?_,h⟩;show(r++ws)[(o.Z+(I r:Int)).toNat]?=J w;rw[e,ZfB Z0,ZiF,<-d];exact g
def Oq{ws r:Z9}{old:Bool}:∀ {a:Nat} {l:Zk},Tiles ws old a l->Tiles (r++ws) old (I r+a) (l.map<|RV<|I r)
 |a,[],h=>by
  show I (r++ws)<=I r+a;have:I ws<=a:=h;rw[ZfK];omega
 |a,o::l,⟨g,d,f⟩=>by
  refine⟨by show o.Z+(I r:Int)=((I r+a:Nat):Int);omega,Z8P d,?_⟩;have:=Oq (r:=r) f;rw[show I r+a+1+(RV (I r) o).size.toNat=I r+(a+1+o.size.toNat)by show I r+a+1+o.size.toNat=_;omega];exact this
def Tr(p:Pts)(n:Nat)(m:Int):Pts:= {p with aa:=⟨0,(n:Int),m,xw,0⟩::p.aa.map (RV<|n+1)}
section
variable {g:Hp}{p:Pts}{wd m:Int}{n:Nat}
def yR(wd:Int)(n:Nat)(k:Int):fstL (Zv<|Yt g wd n) k=if k=2 then fstL (Zv g) 2- ((n+1:Nat):Int)else fstL (Zv g) k:=by
 have f:(Zv<|Yt g wd n).aa=(Zv g).aa+((n+1:Nat):Int):=by
  show((I ((wd::List.replicate n 0)++g.aa):Nat):Int)=(I g.aa:Int)+_;simp;omega
 unfold fstL;rw[f];by_cases d:k=1;subst d;rfl;by_cases a:k=2;subst a;show(Zv g).base+(Zv g).to*(Zv g).cap+((Zv g).cap- ((Zv g).aa+((n+1:Nat):Int)))=(Zv g).base+(Zv g).to*(Zv g).cap+((Zv g).cap- (Zv g).aa) - ((n+1:Nat):Int);omega;rw[Zf7 d,Zf7 a,Zf7 a,Zf7 d,Zf7 a];rfl
def KY(k:Int):(Tr p n m).at k=if k=2 then⟨0,(n:Int),m,xw,0⟩::p.aa.map (RV<|n+1)else p.at k:=by
 unfold Tr Pts.at;by_cases d:k=1;subst d;rfl;by_cases a:k=2;subst a;rfl;rw[Zf7 d,Zf7 a,Zf7 a,Zf7 d,Zf7 a]
def MM(k:Int):Zy (Yt g wd n) k=if k=2 then(wd::List.replicate n 0)++g.aa else Zy g k:=by
 unfold Zy Yt;by_cases d:k=1;subst d;rfl;by_cases a:k=2;subst a;rfl;rw[Zf7 d,Zf7 a,Zf7 a,Zf7 d,Zf7 a]
def L0{w i j:Int}(h:Gos g p w i j):Gos (Yt g wd n) (Tr p n m) w i j:=by
 obtain l|⟨k,o,d,f,e⟩:=h;exact .inl l;right;by_cases a:k=2;subst a;refine⟨2,RV (n+1) o,d,?_,?_⟩;rw[KY,Zfc rfl];exact ZfF _<|Zgz f;rw[e];unfold ZJ;rw[yR,Zfc rfl];show _=2*(fstL (Zv g) 2- ((n+1:Nat):Int)+(o.Z+((n+1:Nat):Int)))+1;omega;refine⟨k,o,d,by rw[KY,Zf7 a];exact f,?_⟩;rw[e];unfold ZJ;rw[yR,Zf7 a]
def MN{k:Int}{i:Nat}{w:Int}(h:Xg g p k i w):Xg (Yt g wd n) (Tr p n m) k i w:=by
 unfold Xg at h⊢;show if 2<k then Gos (Yt g wd n) (Tr p n m) w 3 4 else if k=1/\g.Y<=(i:Int)then Gos (Yt g wd n) (Tr p n m) w 1 2\/Gos (Yt g wd n) (Tr p n m) w 3 4 else Gos (Yt g wd n) (Tr p n m) w 1 2;split;rw[Zfc (by assumption)]at h;exact L0 h;rw[Zf7 (by assumption)]at h;by_cases a:k=1/\g.Y<=(i:Int);rw[Zfc a]at h;rw[Zfc a];exact h.imp L0 L0;rw[Zf7 a]at h;rw[Zf7 a];exact L0 h
def Rt.place(r:Rt g p)(D:X5 n m=(wd,0))(Q:(I g.H:Int)+I g.aa+Yh p+(n+1:Nat)<=g.cap):Rt (Yt g wd n)<|Tr p n m:=by
 have x:Yq n m=xk:=by
  unfold X5 at D;split at D;assumption;cases D
 obtain⟨R,S,T,W⟩:=YH.1 x;have G:ZN wd=((n:Int),m,0):=by
  have:=Z9e x;rw[D]at this;exact this
 have f:I (wd::List.replicate n 0)=n+1:=Z1;have F:Stands ((wd::List.replicate n 0)++g.aa) xw ⟨0,(n:Int),m,xw,0⟩:=by
  refine⟨Int.le_refl _,x,?_,?_,⟨wd,rfl,?_⟩⟩;rw[ZfK,f];show(0:Int)+1+(n:Int)<=_;omega
  show Xf ((((wd::List.replicate n 0)++g.aa).drop 1).take n) xw m 0=xk;rw[show((wd::List.replicate n 0)++g.aa).drop 1=List.replicate n 0++g.aa from rfl,ZiT Z1];refine Qf λj w u=>⟨λh=>Zei,λ_=> ?_⟩;rw[ZiD]at u;split at u;cases u;rfl;cases u;rw[Zf7 Z1];exact⟨λh=>Zei,G,rfl⟩
 refine⟨⟨⟨ML r.bj rfl Z0,λk z=> ?_⟩,λk z o l C=> ?_,λk z o l C j u w d=> ?_,?_⟩,r.du,r.ei,r.dn,r.kz,r.rest,λO o l=> ?_,λw d=>L0<|r.E w d⟩;rw[MM,KY];by_cases t:k=2;subst t;rw[Zfc rfl,Zfc rfl];have:=Oq (r:=wd::List.replicate n 0)<|r.al 2 Z0;rw[f]at this;refine⟨rfl,F,?_⟩;show Tiles _ _ (0+1+n) _;rw[show 0+1+n=n+1+0 by omega];exact this;rw[Zf7 t,Zf7 t];exact r.al k z;have t:¬k=2:=Z0;rw[KY,Zf7 t]at l;obtain⟨q,L,B,M⟩:=r.gone k z o l C;exact⟨q,L,by rw[yR,Zf7 Z0];exact B,M⟩;rw[KY]at l;rw[MM]at d;by_cases t:k=2;subst t;rw[Zfc rfl]at l d;obtain rfl|l:=Zfi.1 l;have P:(j:Int)<m:=u;have:((wd::List.replicate n 0)++g.aa)[0+1+j]?=J 0:=by
  rw[ZfI (by rw[f];omega),show 0+1+j=j+1 by omega,ZiC,ZiD,Zfc Z0]
 have e:w=0:=by
  have K:((wd::List.replicate n 0)++g.aa)[0+1+j]?=J w:=d;rw[this]at K;exact(ZgC K).symm
 rw[e];exact DN _ _;obtain⟨y,A,rfl⟩:=Zfh.1 l;obtain⟨a,N⟩:=Zfd ((r.al 2 Z0).az y A).1.ie;have e:(RV (n+1) y).Z.toNat+1+j=(n+1)+(y.Z.toNat+1+j):=by
  show(y.Z+((n+1:Nat):Int)).toNat+1+j=_;rw[N];omega
 rw[e]at d⊢;have H:g.aa[y.Z.toNat+1+j]?=J w:=by
  rw[ZfB (by rw[f];omega),f,ZiF]at d;exact d
 have:=r.ptr 2 Z0 y A C j u w H;have B:Xg (Yt g wd n) (Tr p n m) 2 (y.Z.toNat+1+j) w:=MN this;unfold Xg at B⊢;simpa using B;rw[Zf7 t]at l d;exact MN<|r.ptr k z o l C j u w d;show(I g.H:Int)+((I ((wd::List.replicate n 0)++g.aa):Nat):Int)+(Yh p:Nat)<=g.cap;rw[ZfK,f];omega;rw[yR,Zf7 Z0];exact r.fa O o l
end
end
section
section
variable {h:Hp}{p:Pts}
def Rt.gt(r:Rt h p)(j:Nat){v:Int}(d:Gos h p v 1 2):Rt (X6 h 4 j v) p:=by
 have e:X6 h 4 j v= {h with E:=h.E.set j v}:=rfl;rw[e];have b:=r.toBody.E<|h.E.set j v;refine⟨b,by show I (h.E.set j v)<=16;rw[Zgx];exact r.du,r.ei,r.dn,r.kz,r.rest,r.fa,λw a=> ?_⟩;obtain a|rfl:=Zgm a;exact r.E w a;exact d
def O0{h:Hp}(a:h.ok)(j:Nat){v:Int}(f:ZA v):(X6 h 4 j v).ok:=by
 refine⟨a.base,a.cap,a.to,a.Y,a.H,a.aa,a.an,a.am,?_,a.ft,a.gc,a.ko,a.kf,λx d=> ?_⟩;show I (h.E.set j v)<=_;rw[Zgx];exact a.E;obtain d|rfl:=Zgm (show x∈h.E.set j v from d);exact a.db x d;exact f
def Il:∀ {d a:Z9},(∀x∈d,x= -1)->ZY a d=a
 | [],_,_=>rfl
 |x::d,a,h=>by
  have f:=h x Z1;subst f;simp only[ZY];rw[Zf7 Z0];exact Il λy g=>h y (by simp[g])
def Rt.gx(r:Rt h p)(f:∀w∈h.E,w=0):words (Y0<|vg h)=0:=by
 have a:words (Y0<|vg h)=((order<|vg h).map<|Qk<|vg h).sum:=(Zfc<|Nw r.cn).trans<|jI _;have d:order (vg h)=[]:=by
  unfold order
  rw[Il λx j=>by
   obtain⟨w,g,rfl⟩:=Zfh.1 (show x∈h.E.map (ZW h).ct from j);rw[f w g];rfl]
  rfl
 rw[a,d];rfl
def Z4e{l:Z9}{f:Int->Nat}{x:Int}(h:x∈l):f x<=(l.map f).sum:=by
 induction l with
 |nil=>cases h
 |cons a l d=>
  rw[Zft,ZiE];obtain rfl|h:=Zfi.1 h;omega;have:=d h;omega
def Rt.lx(r:Rt h p){w:Int}(z:w∈h.E)(j:w≠0){q:Nat}(u:q<2){o:Ob}(d:o∈obP h q)(e:w=ZJ (Zv h) ((q:Int)+1) o.Z){n:Nat}(L:o.size=n):n+1<=words (Y0<|vg h):=by
 have g:words (Y0<|vg h)=((order<|vg h).map<|Qk<|vg h).sum:=(Zfc<|Nw r.cn).trans<|jI _;obtain⟨a,M,m,C,D,F,G,H,K⟩:=r.mt (q:=q) Z0 d;have k:(adr w).1=(ZE h q o).ad:=by
  rw[e,Ss r.bj Z0];show _=(Yr (Zv h) ((q:Int)+1) o.Z).1
  rw[Qr r.bj Z0 ⟨Z0,by
   have:q=0\/q=1:=Z0;obtain rfl|rfl:=this;show o.Z< (I h.H:Int);have:I (Zu h 0)=I h.H:=rfl;omega;show o.Z< (I h.aa:Int);have:I (Zu h 1)=I h.aa:=rfl;omega⟩]
 obtain⟨i,A,B⟩:=r.mb (Kt d Z0 Z0) (r.bq u d) j k;have x:((i:Nat):Int)∈(vg h).E:=by
  rw[<-A];exact Zfh.2 ⟨w,z,rfl⟩
 have l:=QW r.cn x Z0;have t:=SG r (q:=q) Z0 d;have y:Qk (vg h) (i:Int)=n+1:=by
  have f:(vg h).nodes[i]?=J (V8 (ZW h)<|ZE h q o):=by
   show((ZW h).ns.map<|V8<|ZW h)[i]?=_;rw[Zfo,B];rfl
  unfold Qk;rw[Zfl,f];simp only[Zfv,Uh,V8,Zfu,Zg0,ZgK,t];have:(ZE h q o).ob=o:=rfl;rw[this];omega
 rw[g,<-y];exact Z4e l
end
end
def Xa(base cap wd:Int)(n:Nat):Hp:=X6 (Yt (Yl base cap 2) wd n) 4 1<|ZJ (Zv<|Yt (Yl base cap 2) wd n) 2 0
def Z2t{base cap m wd:Int}{n:Nat}(l:0<=cap)(h2:cap<=4096)(o:1<=base)(p:base<=9223372036854775808-2*cap)(f:X5 n m=(wd,0))(z:((n+1:Nat):Int)<=cap):
  ∃t,Rt (Xa base cap wd n) t/\Yh t=0/\words (Y0<|vg<|Xa base cap wd n)=n+1/\Rt (X6 (Xa base cap wd n) 4 1 0) t/\words (Y0<|vg<|X6 (Xa base cap wd n) 4 1 0)=0:=by
 have r:=zA (n:=2) l h2 o p Z0;have y:=r.gu rfl;have q:=r.place f (by rw[y];show((0:Nat):Int)+(0:Nat)+(0:Nat)+(n+1:Nat)<=cap;omega);have s:=q.gt 1 (v:=ZJ (Zv<|Yt (Yl base cap 2) wd n) 2 0)<|.inr ⟨2,⟨0,n,m,xw,0⟩,.inr rfl,Zgo,rfl⟩;have h:=s.gu rfl;have a:ZJ (Zv<|Yt (Yl base cap 2) wd n) 2 0≠0:=by
  have:=(Vy q.bj 2).1;unfold ZJ;omega
 have d:(⟨0,n,m,xw,0⟩:Ob)∈obP (Xa base cap wd n) 1:=by
  have:=s.bz (q:=1) Z0;show _∈obP (X6 (Yt (Yl base cap 2) wd n) 4 1<|ZJ (Zv<|Yt (Yl base cap 2) wd n) 2 0) 1;rw[this];exact Zgo
 have j:=s.lx (w:=ZJ (Zv<|Yt (Yl base cap 2) wd n) 2 0) (by show _∈(List.replicate 2 (0:Int)).set 1 _;simp[List.replicate]) a Z0 d rfl (n:=n) rfl;have g:=s.oo;rw[h]at g;have u:(Xa base cap wd n).aa.length=n+1:=by show I ((wd::List.replicate n 0)++[])=n+1;simp
 have x:(Xa base cap wd n).H.length=0:=rfl;refine⟨_,s,h,?_,s.gt 1<|.inl rfl,(s.gt 1<|.inl rfl).gx λw f=> ?_⟩;have:words (Y0<|vg<|Xa base cap wd n)<=n+1:=by
  have k:(words (Y0<|vg<|Xa base cap wd n):Int)<=((Xa base cap wd n).H.length:Int)+(Xa base cap wd n).aa.length+(0:Nat):=g;rw[u,x]at k;omega
 exact Nat.le_antisymm this j;have:w∈((List.replicate 2 (0:Int)).set 1<|ZJ (Zv<|Yt (Yl base cap 2) wd n) 2 0).set 1 0:=f;simpa[List.replicate]using this
def Gc{base cap:Int}{n:Nat}(a:ZA base)(hc:YI cap)(d:n<=16):(Yl base cap n).ok:=by
 refine⟨a,hc,?_,?_,?_,?_,?_,?_,?_,?_,?_,?_,?_,?_⟩;all_goals simp[Yl,YI,ZA]
 all_goals first|omega|(intros;omega)
def Rt.mu{h:Hp}{p:Pts}(r:Rt h p)(hc:h.M=xw){n:Nat}(g:¬(xq h.H:Int)+xq h.aa+(n+1:Nat)<=h.cap):(placeG h p n).cap=h.cap:=by
 have d:=r.gu hc;rw[Z6z (n:=n) r hc (by rw[r.mf,d];simp;omega)];obtain⟨f,b,I,a,t,_⟩:=FZ r hc;rw[<-a]at t;obtain⟨_,S⟩:=t.da<|n+1;refine S.num.2.1.trans ?_;rw[a];unfold Wb;split<;>exact I.ext.cap
def Z2s{base cap m:Int}{n:Nat}(j:0<=cap)(h2:cap<=4096)(k:1<=base)(l:base<=9223372036854775808-2*cap)(g:Yq n m=xk){s i v:Int}:
  (((n+1:Nat):Int)<=cap->VC xP 8 xw [ZD<|Yl base cap 2,T4 1 (1:Nat) s i n m v] (.ak [vu 0,ZD<|Xa base cap (2*((n:Int)+65536*m)) n,vi 0]))/\
  (¬((n+1:Nat):Int)<=cap->VC xP 8 xw [ZD<|Yl base cap 2,T4 1 (1:Nat) s i n m v] (.ak [vu 0,ZD Hp.zero,vi 7])):=by
 have a:X5 n m=(2*((n:Int)+65536*m),0):=by unfold X5;rw[Zfc g]
 have f:n<=255:=by have:=YH.1 g;omega
 have d:(Yl base cap 2).ok:=Gc (by unfold ZA;omega) (by unfold YI;omega) Z0;have r:=zA (n:=2) j h2 k l Z0;have p:=r.gu rfl;obtain⟨q,h,_,_⟩:=DL d r f a;refine⟨λo=> ?_,λo=> ?_⟩;exact Fm d r (r':=1) (by simp[Yl]) f a h (res:=(Xa base cap (2*((n:Int)+65536*m)) n,0))<|.inr ⟨rfl,by unfold YB;rw[p];simp[Yl];omega,rfl⟩;refine Fm d r (r':=1) (by simp[Yl]) f a h (res:=(Hp.zero,7))<|.inl ⟨?_,rfl⟩;have:=r.mu rfl (n:=n) (by simp[Yl];omega);unfold YB;rw[this];simp;show cap<_;omega
def Z59{base cap m wd:Int}{n:Nat}(h2:cap<=4096)(a:0<=cap)(o:ZA base)(d:1<=base)(f:base<=9223372036854775808-2*cap)(j:ZA wd)(t:n<=255)(k:X5 n m=(wd,0))(p:((n+1:Nat):Int)<=cap)(g:(Yl base cap 2).ok):(Xa base cap wd n).ok:=by
 have r:=zA (n:=2) a h2 d f Z0;have l:=r.gu rfl;have q:=r.place k (by rw[l];show((0:Nat):Int)+(0:Nat)+(0:Nat)+(n+1:Nat)<=cap;omega);refine O0 (MJ g j (by show n+1+0<=_;omega)) 1 ?_;have:=Vy q.bj 2;have h:X7 (Zv<|Yt (Yl base cap 2) wd n) 2=((n+1:Nat):Int):=by show((I ((wd::List.replicate n 0)++[]):Nat):Int)=_;simp
 unfold ZJ ZA;rw[h]at this;omega
def Z58{base cap wd:Int}{n:Nat}:(Xa base cap wd n).H=[]/\(Xa base cap wd n).aa.length=n+1/\(Xa base cap wd n).cap=cap/\(Xa base cap wd n).Y=0/\(Xa base cap wd n).M=xw/\(Xa base cap wd n).E.length=2:=
 ⟨rfl,by show I ((wd::List.replicate n 0)++[])=n+1;simp,rfl,rfl,rfl,rfl⟩
def p6:Fn:=⟨7,[0,1,2,6,7,25,32],pQ [pR [(3,pZ),pV 4<|pI 0],pQ [.ax ⟨[.lt 7 []<|pe (.s 0)<|pU 0,.lt 8 []<|.ite (.s 7) pT<|pl (.s 1)<|pI 0,.lt 9 []<|.ite (.s 8) pT<|pj (.s 1)<|pI 4096,.lt 10 []<|.ite (.s 9) pT<|pl (.s 2)<|pI 0],[([(7,xw)],pl (.s 1)<|pI 0),([(8,xw)],pj (.s 1)<|pI 4096),([(9,xw)],pl (.s 2)<|pI 0),([(10,xw)],pj (.s 2)<|pI 16)],[pV 5<|.ite (.s 10) pT<|pj (.s 2)<|pI 16]⟩]<|pw (.s 5)<|pQ [.ax ⟨[],[([],pY)],[(3,pZ),pV 4<|pI 1]⟩] .ret,pi 6 (pj (.s 0)<|pb (pU 9223372036854775808)<|pm (pU 2)<|.conv .u64<|.s 1)<|pQ [.ax ⟨[],[([],pY)],[(3,pZ),pV 4<|pI 9]⟩] .ret,.ax ⟨[],[([],.ag [.one<|.s 0,.one<|.s 1,pI 0,pF,pI 0,pN,pN,pN,pN,.mk (.int .u64 0)<|.s 2])],[(3,.m [.one<|.s 0,.one<|.s 1,pI 0,pF,pI 0,pN,pN,pN,pN,.mk (.int .u64 0)<|.s 2]),pV 4<|pI 0]⟩] .ret,[(3,(.ag 10)),(4,.v)]⟩
def c6:xQ [.fz,.fz,.fz] Try.f6=J p6:=Z2
def Ky(base cap:Int)(n:Int):Hp×Int:=if base=0\/cap<0\/4096<cap\/n<0\/16<n then(Hp.zero,1)else if 9223372036854775808-2*cap<base then(Hp.zero,9)else(Yl base cap n.toNat,0)
def PL{base cap n:Int}(k:ZA base)(hc:YI cap)(p:YI n):VC xP 6 xw [vu base,vi cap,vi n]<|.ak [ZD (Ky base cap n).1,vi (Ky base cap n).2]:=by
 refine Y4 Z0i follows Z2 c6 rfl ?_;unfold Ky;by_cases a:base=0;simp[p6,a,ZD,Hp.zero];by_cases d:cap<0;simp[p6,a,d,ZD,Hp.zero];by_cases f:4096<cap;simp[p6,a,d,f,ZD,Hp.zero];by_cases g:n<0;simp[p6,a,d,f,g,ZD,Hp.zero];by_cases h:16<n;simp[p6,a,d,f,g,h,ZD,Hp.zero];have w1:=Yn cap Z0 Z0;have w2:=Yn (2*cap) Z0 Z0;have w3:=Yn (9223372036854775808-2*cap) Z0 Z0;by_cases j:9223372036854775808-2*cap<base;simp[p6,a,d,f,g,h,j,w1,w2,w3,ZD,Hp.zero];obtain⟨l,o⟩:=k;obtain⟨m,rfl⟩:=Zfd (Z0:0<=n);simp[p6,a,d,f,h,j,w1,w2,w3,ZD,Yl,YJ,show m<=4294967296 by omega]
def p3:Fn:=⟨24,[0,1,2,3,8,9,10,11,12,13,14,15,17,16,18,88,90,19,20,22,21,23,24,25],pQ [pR [pV 4 pF],pC [pK 24 4 []] [pV 5<|.s 24],pC [pK 25 5 [.s 1,pI 300]] [pV 6<|.s 25],pC [pK 26 6 [pa (pU 1)<|.bu .rem (.s 0)<|pU 9223372036854775208,.s 6,pI 2]] [(7,pM (.sz (.ext (.s 26) 0) 10) 10),pV 8<|.ext (.s 26) 1],pC [.call 27 [] (.id 7) xk xw [.mm 7 0 10]] [(9,pM (.sz (.ext (.s 27) 0) 5) 5),pV 10<|.ext (.s 27) 1],pC [pK 28 5 [.s 2,pI 256]] [(11,pM (.ag [.one<|.s 28,pI 0]) 2)],pC [pK 29 5 [.s 3,pa (.m 11 0)<|pI 1]] [(11,.m [.m 11 0,.one<|.s 29])],pC [pK 30 8 [.mm 7 0 10,.ag [pI 1,pI 1,pI 0,pI 0,.ae (.mm 11 0 2) 0,.ae (.mm 11 0 2) 1,pU 0]]] [(12,pM (.sz (.ext (.s 30) 1) 10) 10),pV 13<|.ext (.s 30) 0,pV 14<|.ext (.s 30) 2],pQ [.ax ⟨[.lt 31 []<|pn (.s 8)<|pI 0,.lt 32 []<|.ite (.s 31) pT<|pn (.s 10)<|pI 0,.lt 33 []<|.ite (.s 32) pT<|.un .not<|.ite (pe (.ae (.sz (.ah<|.mm 9 0 5) 5) 0)<|.ae (.sz (.ah<|.ag [pI 0,pI 0,.one<|.s 6,pI 0,pI 0]) 5) 0) (.ite (pe (.ae (.sz (.ah<|.mm 9 0 5) 5) 1)<|.ae (.sz (.ah<|.ag [pI 0,pI 0,.one<|.s 6,pI 0,pI 0]) 5) 1) (.ite (pe (.ae (.sz (.ah<|.mm 9 0 5) 5) 2)<|.ae (.sz (.ah<|.ag [pI 0,pI 0,.one<|.s 6,pI 0,pI 0]) 5) 2) (.ite (pe (.ae (.sz (.ah<|.mm 9 0 5) 5) 3)<|.ae (.sz (.ah<|.ag [pI 0,pI 0,.one<|.s 6,pI 0,pI 0]) 5) 3) (.ite (pe (.ae (.sz (.ah<|.mm 9 0 5) 5) 4)<|.ae (.sz (.ah<|.ag [pI 0,pI 0,.one<|.s 6,pI 0,pI 0]) 5) 4) pT pF) pF) pF) pF) pF,.lt 34 []<|.ite (.s 33) pT<|.fg xk (pe (.s 14)<|pI 0)<|pL (pa (pI 1)<|.m 11 0)<|.s 6,.call 35 [(34,xw)] (.id 9) xw xw [.mm 7 0 10,.mm 11 0 2]],[([(31,xw)],pn (.s 10)<|pI 0),([(32,xw)],.un .not<|.ite (pe (.ae (.sz (.ah<|.mm 9 0 5) 5) 0)<|.ae (.sz (.ah<|.ag [pI 0,pI 0,.one<|.s 6,pI 0,pI 0]) 5) 0) (.ite (pe (.ae (.sz (.ah<|.mm 9 0 5) 5) 1)<|.ae (.sz (.ah<|.ag [pI 0,pI 0,.one<|.s 6,pI 0,pI 0]) 5) 1) (.ite (pe (.ae (.sz (.ah<|.mm 9 0 5) 5) 2)<|.ae (.sz (.ah<|.ag [pI 0,pI 0,.one<|.s 6,pI 0,pI 0]) 5) 2) (.ite (pe (.ae (.sz (.ah<|.mm 9 0 5) 5) 3)<|.ae (.sz (.ah<|.ag [pI 0,pI 0,.one<|.s 6,pI 0,pI 0]) 5) 3) (.ite (pe (.ae (.sz (.ah<|.mm 9 0 5) 5) 4)<|.ae (.sz (.ah<|.ag [pI 0,pI 0,.one<|.s 6,pI 0,pI 0]) 5) 4) pT pF) pF) pF) pF) pF),([(33,xw)],.fg xk (pe (.s 14)<|pI 0)<|pL (pa (pI 1)<|.m 11 0)<|.s 6),([(34,xw)],.fg xk (.s 35)<|pe (.s 14)<|pI 0)],[pV 15<|.ite (.s 34) pT<|.fg xk (.s 35)<|pe (.s 14)<|pI 0]⟩]<|pw (.s 15)<|px [pV 4 pF],pi 16 (pn (.s 14)<|pI 0)<|pQ [.ax ⟨[.lt 36 []<|.s 5],[([(36,xk)],pe (.s 14)<|pI 7)],[pV 4<|.ite (.s 36) (pe (.s 14)<|pI 7) pF]⟩] .ret,pC [.call 37 [] (.id 7) xk xw [.mm 12 0 10]] [(17,pM (.sz (.ext (.s 37) 0) 5) 5),pV 18<|.ext (.s 37) 1],pC [pK 38 8 [.mm 12 0 10,.ag [pI 7,pI 1,pI 0,pI 0,pI 0,pI 0,pU 0]]] [(19,pM (.sz (.ext (.s 38) 1) 10) 10),pV 20<|.ext (.s 38) 0,pV 21<|.ext (.s 38) 2],pC [.call 39 [] (.id 7) xk xw [.mm 19 0 10]] [(22,pM (.sz (.ext (.s 39) 0) 5) 5),pV 23<|.ext (.s 39) 1],.ax ⟨[.lt 40 []<|.s 5,.lt 41 []<|.ite (.s 40) (pe (.s 18)<|pI 0) pF,.lt 42 []<|.ite (.s 41) (.ite (pe (.ae (.sz (.ah<|.mm 17 0 5) 5) 0)<|.ae (.sz (.ah<|.ag [pI 0,pI 0,pb (pb (.s 6)<|pI 1)<|.m 11 0,pa (pI 1)<|.m 11 0,pI 0]) 5) 0) (.ite (pe (.ae (.sz (.ah<|.mm 17 0 5) 5) 1)<|.ae (.sz (.ah<|.ag [pI 0,pI 0,pb (pb (.s 6)<|pI 1)<|.m 11 0,pa (pI 1)<|.m 11 0,pI 0]) 5) 1) (.ite (pe (.ae (.sz (.ah<|.mm 17 0 5) 5) 2)<|.ae (.sz (.ah<|.ag [pI 0,pI 0,pb (pb (.s 6)<|pI 1)<|.m 11 0,pa (pI 1)<|.m 11 0,pI 0]) 5) 2) (.ite (pe (.ae (.sz (.ah<|.mm 17 0 5) 5) 3)<|.ae (.sz (.ah<|.ag [pI 0,pI 0,pb (pb (.s 6)<|pI 1)<|.m 11 0,pa (pI 1)<|.m 11 0,pI 0]) 5) 3) (.ite (pe (.ae (.sz (.ah<|.mm 17 0 5) 5) 4)<|.ae (.sz (.ah<|.ag [pI 0,pI 0,pb (pb (.s 6)<|pI 1)<|.m 11 0,pa (pI 1)<|.m 11 0,pI 0]) 5) 4) pT pF) pF) pF) pF) pF) pF,.lt 43 []<|.ite (.s 42) (pe (.s 21)<|pI 0) pF,.lt 44 []<|.ite (.s 43) (pe (.s 23)<|pI 0) pF],[([(40,xk)],pe (.s 18)<|pI 0),([(41,xk)],.ite (pe (.ae (.sz (.ah<|.mm 17 0 5) 5) 0)<|.ae (.sz (.ah<|.ag [pI 0,pI 0,pb (pb (.s 6)<|pI 1)<|.m 11 0,pa (pI 1)<|.m 11 0,pI 0]) 5) 0) (.ite (pe (.ae (.sz (.ah<|.mm 17 0 5) 5) 1)<|.ae (.sz (.ah<|.ag [pI 0,pI 0,pb (pb (.s 6)<|pI 1)<|.m 11 0,pa (pI 1)<|.m 11 0,pI 0]) 5) 1) (.ite (pe (.ae (.sz (.ah<|.mm 17 0 5) 5) 2)<|.ae (.sz (.ah<|.ag [pI 0,pI 0,pb (pb (.s 6)<|pI 1)<|.m 11 0,pa (pI 1)<|.m 11 0,pI 0]) 5) 2) (.ite (pe (.ae (.sz (.ah<|.mm 17 0 5) 5) 3)<|.ae (.sz (.ah<|.ag [pI 0,pI 0,pb (pb (.s 6)<|pI 1)<|.m 11 0,pa (pI 1)<|.m 11 0,pI 0]) 5) 3) (.ite (pe (.ae (.sz (.ah<|.mm 17 0 5) 5) 4)<|.ae (.sz (.ah<|.ag [pI 0,pI 0,pb (pb (.s 6)<|pI 1)<|.m 11 0,pa (pI 1)<|.m 11 0,pI 0]) 5) 4) pT pF) pF) pF) pF) pF),([(42,xk)],pe (.s 21)<|pI 0),([(43,xk)],pe (.s 23)<|pI 0),([(44,xk)],.ite (pe (.ae (.sz (.ah<|.mm 22 0 5) 5) 0)<|.ae (.sz (.ah<|.ag [pI 0,pI 0,pb (pb (.s 6)<|pI 1)<|.m 11 0,pI 0,pI 0]) 5) 0) (.ite (pe (.ae (.sz (.ah<|.mm 22 0 5) 5) 1)<|.ae (.sz (.ah<|.ag [pI 0,pI 0,pb (pb (.s 6)<|pI 1)<|.m 11 0,pI 0,pI 0]) 5) 1) (.ite (pe (.ae (.sz (.ah<|.mm 22 0 5) 5) 2)<|.ae (.sz (.ah<|.ag [pI 0,pI 0,pb (pb (.s 6)<|pI 1)<|.m 11 0,pI 0,pI 0]) 5) 2) (.ite (pe (.ae (.sz (.ah<|.mm 22 0 5) 5) 3)<|.ae (.sz (.ah<|.ag [pI 0,pI 0,pb (pb (.s 6)<|pI 1)<|.m 11 0,pI 0,pI 0]) 5) 3) (.ite (pe (.ae (.sz (.ah<|.mm 22 0 5) 5) 4)<|.ae (.sz (.ah<|.ag [pI 0,pI 0,pb (pb (.s 6)<|pI 1)<|.m 11 0,pI 0,pI 0]) 5) 4) pT pF) pF) pF) pF) pF)],[pV 4<|.ite (.s 44) (.ite (pe (.ae (.sz (.ah<|.mm 22 0 5) 5) 0)<|.ae (.sz (.ah<|.ag [pI 0,pI 0,pb (pb (.s 6)<|pI 1)<|.m 11 0,pI 0,pI 0]) 5) 0) (.ite (pe (.ae (.sz (.ah<|.mm 22 0 5) 5) 1)<|.ae (.sz (.ah<|.ag [pI 0,pI 0,pb (pb (.s 6)<|pI 1)<|.m 11 0,pI 0,pI 0]) 5) 1) (.ite (pe (.ae (.sz (.ah<|.mm 22 0 5) 5) 2)<|.ae (.sz (.ah<|.ag [pI 0,pI 0,pb (pb (.s 6)<|pI 1)<|.m 11 0,pI 0,pI 0]) 5) 2) (.ite (pe (.ae (.sz (.ah<|.mm 22 0 5) 5) 3)<|.ae (.sz (.ah<|.ag [pI 0,pI 0,pb (pb (.s 6)<|pI 1)<|.m 11 0,pI 0,pI 0]) 5) 3) (.ite (pe (.ae (.sz (.ah<|.mm 22 0 5) 5) 4)<|.ae (.sz (.ah<|.ag [pI 0,pI 0,pb (pb (.s 6)<|pI 1)<|.m 11 0,pI 0,pI 0]) 5) 4) pT pF) pF) pF) pF) pF) pF]⟩] .ret,[(4,.v)]⟩
def c3:WB (Yb Try.prog) fresh sig [.fz,.fz,.fz,.fz] [] Try.f3=J p3:=Z2
def Bn(k r s i z p v:Int):NoM<|T4 k r s i z p v:=.agg _ λc a=>by
 simp only[Zfi,Zgk,ZhA]at a;obtain rfl|rfl|rfl|rfl|rfl|rfl|rfl:=a<;>exact .int _ _
instance fitM17n:FitF (Yb Try.prog) 3:=zm (P:=Try.prog) Try.func3 rfl Z2
def Z4c(A:Rj){b k n m:Int}(hb:ZA b)(hk:YI k)(hn:YI n)(hm:YI m):VC (Yb Try.prog) 3 xw [vu b,vi k,vi n,vi m]<|.bool xk:=by
 refine Y4 (P:=Yb Try.prog) Try.func3 QK Z2 c3 rfl ?_;have F:=BQ (c:=k) (n:=300) Z0;have k1:=BP hk (n:=300) Z0;obtain⟨c,hc⟩:=Zfd F.1;rw[hc]at F k1;have G:=BQ (c:=n) (n:=256) Z0;have Z:=BP hn (n:=256) Z0;obtain⟨a,ha⟩:=Zfd G.1;rw[ha]at G Z;have a0:=BQ (c:=m) (n:=(a:Int)+1) Z0;have k3:=BP hm (n:=(a:Int)+1) Z0;generalize pick m ((a:Int)+1)=q at*;have w1:=Yn (1+b%9223372036854775208) Z0 Z0;rw(occs:=.pos [1]) [<-Zgu hb.1]at w1;have Q:1<=1+b%9223372036854775208/\1+b%9223372036854775208<=9223372036854775208:=Z0;generalize 1+b%9223372036854775208=B at*;have Y:Yq a q=xk:=YH.2 ⟨Z0,Z0,Z0,Z0⟩;have H:X5 a q=(2*((a:Int)+65536*q),0):=by unfold X5;rw[Zfc Y]
 have hu:ZA<|2*((a:Int)+65536*q):=by unfold ZA;omega
 have K:=up (PL (base:=B) (cap:=c) (n:=2) (by unfold ZA;omega) (by unfold YI;omega) (by unfold YI;omega)) (λy hy=>by
  simp only[Zfi,Zgk,ZhA]at hy;obtain rfl|rfl|rfl:=hy<;>exact .int _ _) (Ii _ _)
 have eN:Ky B c 2=(Yl B c 2,0):=by unfold Ky;rw[Zf7 Z0,Zf7 Z0];rfl
 rw[eN]at K;have O:(0:Int)<=c:=Z0;have r:=zA (base:=B) (cap:=c) (n:=2) O Z0 Q.1 Z0 Z0;have X:(Yl B c 2).ok:=Gc (by unfold ZA;omega) (by unfold YI;omega) Z0;have x:=LF A X r;rw[Tv rfl,r.gx λw hw=>by simpa[Yl,List.replicate]using hw]at x;have j:((Yl B c 2).H.length:Int) - (Yl B c 2).Y=0/\(Yl B c 2).cap-V0 (Yl B c 2) ⟨[],[],[],[]⟩=c/\(Yl B c 2).Y- (Yl B c 2).Y=0/\Yh ⟨[],[],[],[]⟩=0:=⟨rfl,by simp[Yl,V0,Yh,Y6],Z0,rfl⟩;rw[j.1,j.2.1,j.2.2.1,j.2.2.2]at x;clear j;obtain⟨t,rt,_,o⟩:=jf X r (n:=a) (m:=q) Y;obtain⟨_,C,l⟩:=r.ng rt;have hF:YB (placeG (Yl B c 2) ⟨[],[],[],[]⟩ a) t (a+1:Nat)=decide ((a:Int)+1<=c):=by
  unfold YB;rw[C];unfold V0 at l;have e:(Yl B c 2).H=[]/\(Yl B c 2).aa=[]/\(Yl B c 2).cap=c:=⟨rfl,rfl,rfl⟩;have M:Yh ⟨[],[],[],[]⟩=0:=rfl;rw[e.1,e.2.1,e.2.2,M]at l;rw[e.2.2];simp only[Zg2]at l;rw[ZhH,decide_eq_true_iff,decide_eq_true_iff];omega
 rw[hF]at o;obtain⟨f1,f2⟩:=Z2s (base:=B) (cap:=c) (m:=q) (n:=a) O Z0 Q.1 Z0 Y (s:=0) (i:=0) (v:=0);have w2:=ZB ((a:Int)+1) Z0 Z0;have w3:=ZB (1+(a:Int)) Z0 Z0;have w4:=ZB ((c:Int) -1) Z0 Z0;have w5:=ZB ((c:Int) -1-a) Z0 Z0;by_cases u:(a:Int)+1<=c;have f:1+(a:Int)<=c:=Z0;have L:=up (f1 u) (Q1 (VZ _)<|Bn _ _ _ _ _ _ _)<|yq _ _ _;obtain⟨p,s1,T,s3,s4,s5⟩:=Z2t (base:=B) (cap:=c) (m:=q) O Z0 Q.1 Z0 H u;have R:=Z59 Z0 O (by unfold ZA;omega) Q.1 Z0 hu Z0 H u X;obtain⟨n1,n2,n3,n4,j,n6⟩:=Z58 (base:=B) (cap:=c) (wd:=2*((a:Int)+65536*q)) (n:=a);have S:=LF A R s1;have k9:=up (Z1R R (Jl.2 ⟨_,s1⟩) (r':=1) (by rw[n6];omega) (s:=0) (i:=0) (z:=0) (pp:=0) (v:=0)) (Q1 (VZ _)<|Bn _ _ _ _ _ _ _)<|yq _ _ _;have D:=O0 R 1 (v:=0) (by unfold ZA;omega);have h:=LF A D s4;rw[Tv j,s3]at S;rw[Tv (show(X6 (Xa B c (2*((a:Int)+65536*q)) a) 4 1 0).M=xw from j),s5]at h;have W:V0 (Xa B c (2*((a:Int)+65536*q)) a) p=(a:Int)+1:=by unfold V0;rw[n1,n2,T];simp
 have M:V0 (X6 (Xa B c (2*((a:Int)+65536*q)) a) 4 1 0) p=(a:Int)+1:=W;rw[W,n1,n3,n4,T]at S;rw[M]at h;have N:(X6 (Xa B c (2*((a:Int)+65536*q)) a) 4 1 0).H=[]/\(X6 (Xa B c (2*((a:Int)+65536*q)) a) 4 1 0).cap=c/\(X6 (Xa B c (2*((a:Int)+65536*q)) a) 4 1 0).Y=0:=⟨rfl,rfl,rfl⟩;rw[N.1,N.2.1,N.2.2,T]at h;clear W M N s1 T s3 s4 s5 R D n1 n2 n3 n4 j n6;generalize X6 (Xa B c (2*((a:Int)+65536*q)) a) 4 1 0=d at*;generalize Xa B c (2*((a:Int)+65536*q)) a=g at*;have d1:(c:Int) - ((a:Int)+1)=c-1-a:=Z0;have d2:(a:Int)+1=1+a:=Z0;rw[decide_eq_true u]at o;simp only[ZD,WM,Tl,T4]at K x L o S k9 h;simp[p3];refine ZC (EW A) Z1 ?_;simp;refine ZC k1 Z1 ?_;simp[w1];refine ZC K Z1 ?_;simp;refine ZC x Z1 ?_;simp;refine ZC Z Z1 ?_;simp[w2];refine ZC k3 Z1 ?_;simp;refine ZC L Z1 ?_;simp[w3,f];refine ZC o Z1 ?_;simp[w3,f];refine ZC S Z1 ?_;simp;refine ZC k9 Z1 ?_;simp;refine ZC h Z1 ?_;simp[w3,w4,w5,d1,d2];omega;have f:¬1+(a:Int)<=c:=Z0;have L:=up (f2 u) (Q1 (VZ _)<|Bn _ _ _ _ _ _ _)<|yq _ _ _;rw[decide_eq_false u]at o;simp only[ZD,WM,Tl,T4]at K x L o;simp[p3];refine ZC (EW A) Z1 ?_;simp;refine ZC k1 Z1 ?_;simp[w1];refine ZC K Z1 ?_;simp;refine ZC x Z1 ?_;simp;refine ZC Z Z1 ?_;simp[w2];refine ZC k3 Z1 ?_;simp;refine ZC L Z1 ?_;simp[w3,f];refine ZC o Z1 ?_;simp[w3,f]
end Vm
end
section
namespace Go.Proofs.Ytekcbanhligfaaa
open Vm Go.ChangeShapes Go.WideShapes Go.ChangeAt Go.RowKit
def measureNew_law(xs:List V)(d:I xs=Try.f3.params.toList.length)(a:∀(i:Nat) (t:TypeId) (x:V),Try.f3.params.toList[i]?=J t->xs[i]?=J x->WP Try.prog 8 t x):
  VC (Yb Try.prog) 3 xw xs (.bool xk):=by
 rw[Try.params3]at d a
 match xs,d with
 | [l,o,p,q],_=>
   obtain⟨b,rfl,f⟩:=Z9d<|a 0 _ l rfl rfl;obtain⟨k,rfl,g⟩:=D5<|a 1 _ o rfl rfl;obtain⟨n,rfl,j⟩:=D5<|a 2 _ p rfl rfl;obtain⟨m,rfl,h⟩:=D5<|a 3 _ q rfl rfl;exact Z4c NP f g j h
def measureNew_lifted(j:Os)(a:j.Started)(H:Type)(enc:TypeId×Value->H):
  ReturnsInLeavingWide {} Try.checked j 3 .any (Rows.measureNewSpec.pre6 enc Try.prog Try.f3 Rows.measureNewRow.domain xw) (Rows.measureNewSpec.post enc Try.prog Try.f3 xw xk xw xw):=by
 refine returnsInLeavingWide_of_change_sized (C:=Try.checked) own a Try.func3
  (ChangeSpec.witness6 (enc:=enc) (C:=Try.checked) xw ⟨#[], #[.int .u64 0,.int .i64 0,.int .i64 0,.int .i64 0],[]⟩ 8 Z2 Z2 Z2 Z2) ?_
 intro W base args g gs d f k _ _ _
 exact Z2I (P:=Try.prog) Z2 (Z4d (P:=Yb Try.prog) (tb:=4) 8 laidOut Z2 Z2 rfl Z2 Try.underlying4 (λH g h=>by
  rw[Try.params3]at h
  match g,h with
  | [_,_,_,_],_=>rfl) measureNew_law H enc W base args g gs d f k)
theorem measureNew_holds:Rows.MeasureNewSaid:=
 OpenClaim.holds_of_wide_leaving 3 Try.f3 rfl rfl rfl rfl rfl rfl rfl ⟨rfl,rfl,rfl,rfl,rfl⟩ rfl rfl rfl rfl rfl Z2 Try.func3 Z2
  (Zhz Z2) (by unfold Func.isWrapper;first|(rw[Zfc Ze5];kernel_rfl)|(rw[Zf7 Ze5];exact⟨rfl,rfl⟩))
  (λf a H d _=>measureNew_lifted f a H d)
#print axioms measureNew_holds
end Go.Proofs.Ytekcbanhligfaaa
end
