/-
  The law ForwardAll holds of the given program, for every input.
-/
import Derived.Test.YtffknkhabklijaaRows
import Derived.Conc.LeavingOf
import Derived.Test.YtffknkhabklijaaSForwardAll6
set_option linter.unusedSimpArgs false
set_option linter.unusedVariables false
set_option linter.defProp false
open Option renaming some→xk,none→xw
open Bool renaming true→xy,false→xh
open List renaming length→P
open Array renaming size→U
open Go.World renaming heap→R
open List renaming length→xq
open Array renaming size→xz
open Go.World renaming heap→xj
set_option maxHeartbeats 1000000
set_option maxRecDepth 100000
def Zfx:=@Nat.add_sub_cancel_left
def Zgl:=@List.flatMap_cons
section
namespace Vm
open Go Go.Proofs
section
def Rf(x:Rw)(c:Bool)(g:Gr)(i:Nat):Pl:=if WG x i c=0 then⟨2,(Y0 x c g i).n2⟩else if WG x i c=1 then⟨1,(Y0 x c g i).n1⟩else⟨0,0⟩
def QC(x:Rw)(c:Bool)(g:Gr)(i:Nat):Pl:=if(decide (0<WG x i c)&&c)=xy then(if Wf x i then⟨4,(Y0 x c g i).n4⟩else⟨3,(Y0 x c g i).n3⟩)else⟨0,0⟩
def BL{x:Rw}{c:Bool}{g:Gr}(d:∀n∈g.nodes,ZI n<=9):∀j,j<=P g.nodes->∀i,i<j->(Y0 x c g j).here[i]?=xk (Rf x c g i)/\(Y0 x c g j).old[i]?=xk (QC x c g i)
 |0,_,i,f=>Z0
 |j+1,l,i,f=>by
  obtain⟨_,_,h,k⟩:=KG (x:=x) (cycle:=c) d j Z0;rw[Y0];simp only[YZ];by_cases a:i<j;have:=BL (x:=x) (c:=c) d j Z0 i a;rw[Zdk Z0,Zdk Z0];exact this;have:i=j:=Z0;subst this;rw[Zd9 Z0,Zd9 Z0,h,k,Zey];exact⟨rfl,rfl⟩
def nk(s:St8)(k:Int):Nat:=if k=1 then s.n1 else if k=2 then s.n2 else if k=3 then s.n3 else s.n4
section
variable {x:Rw}{c:Bool}
def BU(x:Rw):∀n∈(ZS x.nodes x.roots).nodes,ZI n<=9:=λn d=>by
 obtain⟨_,_,a⟩:=jW x.nodes x.roots;have:=a n d;unfold ZI;omega
def SJ(x:Rw)(c:Bool):(Yq x c).g=ZS x.nodes x.roots:=rfl
def Jy{i:Nat}(a:i< (ZS x.nodes x.roots).nodes.length):ZD (Yq x c) i=Rf x c (ZS x.nodes x.roots) i:=by
 unfold ZD;show((Y0 x c (ZS x.nodes x.roots) (ZS x.nodes x.roots).nodes.length).here[i]?).getD _=_;rw[(BL (BU x) _ (ZcR _) i a).1];rfl
def zC{i:Nat}(a:i< (ZS x.nodes x.roots).nodes.length):Y1 (Yq x c) i=QC x c (ZS x.nodes x.roots) i:=by
 unfold Y1;show((Y0 x c (ZS x.nodes x.roots) (ZS x.nodes x.roots).nodes.length).old[i]?).getD _=_;rw[(BL (BU x) _ (ZcR _) i a).2];rfl
def La:∀i,i<=(ZS x.nodes x.roots).nodes.length->∀k:Int,1<=k/\k<=4->P (YV (Yq x c) x k i)=nk (Y0 x c (ZS x.nodes x.roots) i) k
 |0,_,k,f=>by simp[YV,Y0,nk]
 |i+1,p,k,f=>by
  have o:=La i Z0 k f;rw[VG,ZdD,o];have l:ZM (Yq x c) i=((ZS x.nodes x.roots).nodes[i]?).getD default:=rfl;unfold YN;rw[Jy (Z0:i< (ZS x.nodes x.roots).nodes.length),zC (Z0:i< (ZS x.nodes x.roots).nodes.length),l,Y0];generalize ((ZS x.nodes x.roots).nodes[i]?).getD default=n;have a:k=1\/k=2\/k=3\/k=4:=Z0;unfold Rf QC;generalize Y0 x c (ZS x.nodes x.roots) i=s;obtain g|h|⟨j,rfl⟩:=Sd x i c;obtain rfl|rfl|rfl|rfl:=a<;>simp[nk,YZ,g,U3];cases c<;>cases d:Wf x i<;>obtain rfl|rfl|rfl|rfl:=a<;>simp[nk,YZ,h,d,U3,Rc]
  cases d:Wf x i<;>obtain rfl|rfl|rfl|rfl:=a<;>simp[nk,YZ,j,d,U3,Rc]
def Mp(hx:x.ok):Placed (Yq x c) x:=by
 refine⟨(KH hx c).1,λi a=> ?_,λi a=> ?_,λk g=> ?_⟩;rw[SJ]at a;rw[Jy a,zC a];have d:=λk g=>La (x:=x) (c:=c) i Z0 k g;unfold Rf QC;obtain j|h|⟨f,rfl⟩:=Sd x i c;right;simp[j,d 2,nk];right;simp[h,d 1,nk];left;refine⟨by simp[f],?_⟩;cases n:Wf x i;exact⟨3,.inl rfl,by simp[f]⟩;exact⟨4,.inr rfl,by simp[f]⟩;rw[SJ]at a;rw[Jy a,zC a];have d:=λk g=>La (x:=x) (c:=c) i Z0 k g;unfold Rf QC;obtain j|h|⟨f,rfl⟩:=Sd x i c;left;simp[j];cases c;left;simp;right;cases n:Wf x i;simp[h,d 3,nk];simp[h,d 4,nk];right;cases n:Wf x i;simp[f,d 3,nk];simp[f,d 4,nk];rw[SJ,La _ (ZcR _) k g];have l:k=1\/k=2\/k=3\/k=4:=Z0;obtain rfl|rfl|rfl|rfl:=l<;>rfl
end
end
section
def Md(h:Hp){k:Int}(d:1<=k/\k<=4):YR (Zu h) k=P (Zx h k):=by
 have a:k=1\/k=2\/k=3\/k=4:=Z0;obtain rfl|rfl|rfl|rfl:=a<;>rfl
def Z7e{s p:Int}(h:Yx s p=xy):ZP (U6 s p).1=(s,p,0):=by
 have a:=YG.1 h;unfold U6;rw[if_pos h];unfold ZP;grind
theorem Z2f(h:Hp)(p:Pl):U2 (YB h p)=xy:=by
 unfold YB U2;split;rfl;unfold XC;split;rfl;rename_i a;unfold adr;grind
theorem Z2g(b:Bt)(p:Pl)(to tw:Int):U2 (WZ b p to tw)=xy:=by
 unfold WZ;split;rfl;grind [Z2f]
def RM{gone:Bool}{ptrs:Int}:∀ {l:Zf} {i:Nat},(∀(j:Nat) (w:Int),l[j]?=xk w->(gone=xy->w=0)/\(((i+j:Nat):Int)<ptrs->U2 w=xy))->XG l gone ptrs i=xy
 | [],_,_=>rfl
 |w::l,i,h=>by
  obtain⟨f,g⟩:=h 0 w rfl;have d:XG l gone ptrs (i+1)=xy:=RM λj y a=>by
   have:=h (j+1) y a;grind
  rw[XG,d];grind
theorem Mr{b:Bt}{p:Pl}{n:Nd}{tw:Int}{F r:Zf}{old:Bool}(f:p.at_=(P F:Nat))(o:ZI n<=9):Stands (F++XH b p n tw++r) old ⟨p.at_,(P n.ptrs:Int)+P n.data,P n.ptrs,xh,0⟩:=by
 have a:Yx ((P n.ptrs:Int)+P n.data) (P n.ptrs)=xy:=by
  unfold ZI at o;exact YG.2 Z0
 have d:(F++XH b p n tw++r)[P F]?=xk (Jx n):=by
  rw[ZdB,Zd9 (ZcR _),Zey];rfl
 have t:=Z7e a;refine⟨ZbU,a,?_,?_,Jx n,ZbU,?_⟩;grind [U3,ZI,List.length_append];simp only[f,Zda];have e:((F++XH b p n tw++r).drop (P F+1)).take ((P n.ptrs:Int)+P n.data).toNat=XF b p p.at_.toNat n.ptrs tw++n.data:=by
  have k:((P n.ptrs:Int)+P n.data).toNat=P (XF b p p.at_.toNat n.ptrs tw++n.data):=by simp[XF];omega
  rw[k,ZdB,ZfO,Zeq Z0,Zfx,ZdJ];have l:(XH b p n tw++r).drop 1=(XF b p p.at_.toNat n.ptrs tw++n.data)++r:=rfl;rw[l,ZfH]
 rw[e];refine RM λj w d=>⟨Z1,λg=> ?_⟩;have h:j<P n.ptrs:=by simpa using g
 rw[Zdk (by simp_all[XF])]at d;simp only[XF,Zdb,ZcO]at d;obtain⟨q,_,rfl⟩:=d;grind [Z2g];simp_all[Zd0,Zdu,NU,Jx,trivial]
def Z6O{b:Bt}{p o:Pl}{n:Nd}{F r:Zf}(a:o.at_=(P F:Nat))(q:ZI n<=9)(l:(adr (YB b.h p)).2=0):Stands (F++Vl b p n++r) xy ⟨o.at_,(P n.ptrs:Int)+P n.data,P n.ptrs,xy,(adr (YB b.h p)).1⟩:=by
 have d:Yx ((P n.ptrs:Int)+P n.data) (P n.ptrs)=xy:=by
  unfold ZI at q;exact YG.2 Z0
 have f:(F++Vl b p n++r)[P F]?=xk (YB b.h p):=by
  rw[ZdB,Zd9 (ZcR _),Zey];rfl
 refine⟨by show 0<=o.at_;omega,d,?_,?_,_,by rw[a];simpa using f,?_⟩;have:=Rc b p n;unfold ZI at this;simp only[ZdD,this,a];omega;simp only[a,Zda];have e:((F++Vl b p n++r).drop (P F+1)).take ((P n.ptrs:Int)+P n.data).toNat=List.replicate (ZI n-1) 0:=by
  have g:((P n.ptrs:Int)+P n.data).toNat=P (List.replicate (ZI n-1) (0:Int)):=by simp[ZI];omega
  rw[g,ZdB,ZfO,Zeq Z0,Zfx,ZdJ];have k:(Vl b p n++r).drop 1=List.replicate (ZI n-1) 0++r:=rfl;rw[k,ZfH]
 rw[e];refine RM λj w f=> ?_;have:=(List.mem_replicate.1 (ZcT f)).2;subst this;exact⟨λ_=>rfl,λ_=>rfl⟩;simp only[Zdv];exact⟨trivial,l,trivial⟩
def X8(b:Bt)(k:Int)(i:Nat):List Ob:=
 if(ZD b i).part=k then [⟨(ZD b i).at_,((ZM b i).ptrs.length:Int)+(ZM b i).data.length,(ZM b i).ptrs.length,xh,0⟩]
 else if(Y1 b i).part=k then(if(ZD b i).part=0 then [⟨(Y1 b i).at_,((ZM b i).ptrs.length:Int)+(ZM b i).data.length,(ZM b i).ptrs.length,xh,0⟩]
  else [⟨(Y1 b i).at_,((ZM b i).ptrs.length:Int)+(ZM b i).data.length,(ZM b i).ptrs.length,xy,(adr (YB b.h (ZD b i))).1⟩])
 else []
def obs(b:Bt)(k:Int):List Ob:=(List.range (P b.g.nodes)).flatMap (X8 b k)
section
variable {b:Bt}{x:Rw}
def Placed.nine(a:Placed b x)(d:∀n∈b.g.nodes,ZI n<=9){i:Nat}(f:i<P b.g.nodes):ZI (ZM b i)<=9:=by
 simp_all[ZM,ZcM,Zd3]
def Placed.len(a:Placed b x){k:Int}(d:1<=k/\k<=4):YR (Zu b.h) k=(P (YV b x k (P b.g.nodes)):Nat):=by
 rw[Md b.h d,a.zero k d];simp
def Placed.here_in(a:Placed b x){i:Nat}(f:i<P b.g.nodes)(k:(ZD b i).part≠0):((ZD b i).part=1\/(ZD b i).part=2)/\(ZD b i).at_=(P (YV b x (ZD b i).part i):Nat)/\(ZD b i).at_+ZI (ZM b i)<=YR (Zu b.h) (ZD b i).part:=by
 obtain⟨h,_⟩|⟨j,d⟩:=a.here i f;simp_all;refine⟨j,d,?_⟩;have:=Bh b x (ZD b i).part f;rw[a.len Z0,d];have e:YN b x (ZD b i).part i=XH b (ZD b i) (ZM b i) (IntKind.i64.wrap (x.slack+i)):=by unfold YN;rw[if_pos rfl]
 grind [U3]
def Placed.old_in(a:Placed b x){i:Nat}(d:i<P b.g.nodes)(o:(Y1 b i).part≠0):((Y1 b i).part=3\/(Y1 b i).part=4)/\(Y1 b i).at_=(P (YV b x (Y1 b i).part i):Nat)/\(ZD b i).part≠2/\(Y1 b i).at_+ZI (ZM b i)<=YR (Zu b.h) (Y1 b i).part:=by
 obtain h|⟨k,f,l⟩:=a.old i d;simp_all;refine⟨k,f,l,?_⟩;have:=Bh b x (Y1 b i).part d;rw[a.len Z0,f];have n:(ZD b i).part=0\/(ZD b i).part=1:=by
  by_cases j:(ZD b i).part=0;omega;have:=(a.here_in d j).1;omega
 have e:P (YN b x (Y1 b i).part i)=ZI (ZM b i):=by
  unfold YN;rw[if_neg Z0,if_pos rfl];split;grind [U3];exact Rc _ _ _
 omega
def Placed.ref_here(a:Placed b x)(f:ZG (Zu b.h)=xy){i:Nat}(j:i<P b.g.nodes)(d:(ZD b i).part≠0):YB b.h (ZD b i)=Y2 (Zu b.h) (ZD b i).part (ZD b i).at_:=by
 obtain⟨k,l,n⟩:=a.here_in j d;have o:1<=ZI (ZM b i):=by grind [ZI]
 unfold YB;rw[if_neg d,S8 f Z0 ⟨Z0,Z0⟩];have:=WH f (ZD b i).part;unfold XC Y2;grind
def Placed.ref_old(a:Placed b x)(f:ZG (Zu b.h)=xy){i:Nat}(j:i<P b.g.nodes)(d:(Y1 b i).part≠0):YB b.h (Y1 b i)=Y2 (Zu b.h) (Y1 b i).part (Y1 b i).at_:=by
 obtain⟨k,l,_,n⟩:=a.old_in j d;have o:1<=ZI (ZM b i):=by grind [ZI]
 unfold YB;rw[if_neg d,S8 f Z0 ⟨Z0,Z0⟩];have:=WH f (Y1 b i).part;unfold XC Y2;grind
def Gp(a:Placed b x)(z:ZG (Zu b.h)=xy)(C:∀n∈b.g.nodes,ZI n<=9){k:Int}(F:1<=k/\k<=4):∀(m i:Nat),i+m=P b.g.nodes->Tiles (YV b x k (P b.g.nodes)) (decide (2<k)) (P (YV b x k i)) ((List.range' i m).flatMap (X8 b k))
 |0,i,D=>by
  have:i=P b.g.nodes:=Z0;subst this;exact ZcR _
 |m+1,i,D=>by
  have t:=Gp a z C F m (i+1) Z0;have d:i<P b.g.nodes:=Z0;have w:=a.nine C d;obtain⟨r,A⟩:=Jd b x k (Z0:i+1<=P b.g.nodes);rw[List.range'_succ,Zgl];have B:=VG b x k i;by_cases f:(ZD b i).part=k;have u:YN b x k i=XH b (ZD b i) (ZM b i) (IntKind.i64.wrap (x.slack+i)):=by unfold YN;rw[if_pos f]
  have q:X8 b k i=[⟨(ZD b i).at_,((ZM b i).ptrs.length:Int)+(ZM b i).data.length,(ZM b i).ptrs.length,xh,0⟩]:=by unfold X8;rw[if_pos f]
  obtain⟨_,j,_⟩:=a.here_in d Z0;rw[f]at j;rw[q];refine⟨j,?_,?_⟩;grind [Mr];rw[B,u,ZdD,U3]at t;have:(((ZM b i).ptrs.length:Int)+(ZM b i).data.length).toNat=ZI (ZM b i) -1:=by grind [ZI]
  simp only[this];rw[show P (YV b x k i)+1+(ZI (ZM b i) -1)=P (YV b x k i)+ZI (ZM b i)by grind [ZI]];exact t;by_cases l:(Y1 b i).part=k;obtain⟨G,j,H,I⟩:=a.old_in d Z0;have y:2<k:=Z0;rw[l]at j;have p:P (YV b x k (i+1))=P (YV b x k i)+1+(((ZM b i).ptrs.length:Int)+(ZM b i).data.length).toNat:=by
   have e:P (YN b x k i)=ZI (ZM b i):=by
    unfold YN;rw[if_neg f,if_pos l];split;grind [U3];exact Rc _ _ _
   rw[B,ZdD,e];unfold ZI;omega
  rw[p]at t;by_cases o:(ZD b i).part=0;have u:YN b x k i=XH b (Y1 b i) (ZM b i) 0:=by unfold YN;rw[if_neg f,if_pos l,if_pos o]
  have q:X8 b k i=[⟨(Y1 b i).at_,((ZM b i).ptrs.length:Int)+(ZM b i).data.length,(ZM b i).ptrs.length,xh,0⟩]:=by unfold X8;rw[if_neg f,if_pos l,if_pos o]
  rw[q];refine⟨j,?_,t⟩;grind [Mr];have u:YN b x k i=Vl b (ZD b i) (ZM b i):=by unfold YN;rw[if_neg f,if_pos l,if_neg o]
  have q:X8 b k i=[⟨(Y1 b i).at_,((ZM b i).ptrs.length:Int)+(ZM b i).data.length,(ZM b i).ptrs.length,xy,(adr (YB b.h (ZD b i))).1⟩]:=by unfold X8;rw[if_neg f,if_pos l,if_neg o]
  rw[q];refine⟨j,?_,t⟩;rw[A,B,u,decide_eq_true y];refine Z6O j w ?_;obtain⟨J,K,_⟩:=a.here_in d o;rw[a.ref_here z d o,UM z Z0];simp_all[YN,if_neg,X8,ZdJ,Zei]
def Z3B(a:Placed b x)(j:ZG (Zu b.h)=xy)(f:∀n∈b.g.nodes,ZI n<=9){k:Int}(d:1<=k/\k<=4):Tiles (Zx (Yp x b) k) (decide (2<k)) 0 (obs b k):=by
 rw[DT a d];have:=Gp a j f d (P b.g.nodes) 0 Z0;unfold obs;rw[List.range_eq_range'];exact this
def Qu{k:Int}{o:Ob}:o∈obs b k↔ ∃i,i<P b.g.nodes/\o∈X8 b k i:=by
 grind [obs]
end
end
section
structure Made (b:Bt) (x:Rw):Prop where
 pl:Placed b x
 lay:ZG (Zu b.h)=xy
 nine:∀n∈b.g.nodes,ZI n<=9
 cyc:b.h.cycle=xy->∀i,i<P b.g.nodes->(ZD b i).part=1->(Y1 b i).part≠0
 scan:0<=b.h.scan/\b.h.scan<=P b.h.low/\(if b.h.cycle then b.h.scan<(P b.h.low) else b.h.scan=P b.h.low/\b.h.old=[]/\b.h.far=[])
 room:(P b.h.low:Int)+P b.h.high+((Yt (obs b 3)+Yt (obs b 4):Nat):Int)<=b.h.cap
 fit:YD b.h.scan
def RC(b:Bt):Pts:=⟨obs b 1,obs b 2,obs b 3,obs b 4⟩
theorem B2(b:Bt){k:Int}(d:1<=k/\k<=4):(RC b).at k=obs b k:=by
 have a:k=1\/k=2\/k=3\/k=4:=Z0;obtain rfl|rfl|rfl|rfl:=a<;>rfl
section
variable {b:Bt}{x:Rw}
def Made.fill(m:Made b x):(Yp x b).ok/\Zu (Yp x b)=Zu b.h/\(Yp x b).scan=b.h.scan/\(Yp x b).cycle=b.h.cycle:=DS m.pl.ok m.fit
def Made.tiles(m:Made b x){k:Int}(a:1<=k/\k<=4):Tiles (Zx (Yp x b) k) (decide (2<k)) 0 (obs b k):=Z3B m.pl m.lay m.nine a
def Made.start(m:Made b x){k a:Int}(f:1<=k/\k<=4)(d:0<=a/\a<YR (Zu b.h) k):YS (Yp x b) k a=fstL (Zu b.h) k+a:=by
 unfold YS;rw[m.fill.2.1,S8 m.lay f d]
def yF(n:Nd):1<=ZI n:=by grind [ZI]
def Made.ob_here(m:Made b x){i:Nat}(a:i<P b.g.nodes)(d:(ZD b i).part≠0):∃o∈obs b (ZD b i).part,o.at_=(ZD b i).at_/\o.size=((ZM b i).ptrs.length:Int)+(ZM b i).data.length/\o.ptrs=(ZM b i).ptrs.length/\o.gone=xh:=
 ⟨_,Qu.2 ⟨i,a,by unfold X8;rw[if_pos rfl];exact .head _⟩,rfl,rfl,rfl,rfl⟩
def Made.ob_old(m:Made b x){i:Nat}(f:i<P b.g.nodes)(h:(Y1 b i).part≠0):∃o∈obs b (Y1 b i).part,o.at_=(Y1 b i).at_:=by
 obtain⟨j,k,l,n⟩:=m.pl.old_in f h;have a:¬(ZD b i).part=(Y1 b i).part:=by
  by_cases d:(ZD b i).part=0;omega;have:=(m.pl.here_in f d).1;omega
 by_cases d:(ZD b i).part=0;exact⟨_,Qu.2 ⟨i,f,by unfold X8;rw[if_neg a,if_pos rfl,if_pos d];exact .head _⟩,rfl⟩;exact⟨_,Qu.2 ⟨i,f,by unfold X8;rw[if_neg a,if_pos rfl,if_neg d];exact .head _⟩,rfl⟩
def Made.to_here(m:Made b x){i:Nat}(d:i<P b.g.nodes):Xo (Yp x b) (RC b) (YB b.h (ZD b i)) 1 2=xy:=by
 by_cases a:(ZD b i).part=0;simp_all[YB,ZD,if_pos,Xo];obtain⟨k,l,n⟩:=m.pl.here_in d a;have p:=yF (ZM b i);obtain⟨o,j,f,_⟩:=m.ob_here d a;rw[m.pl.ref_here m.lay d a];unfold Xo;rw[UM m.lay Z0];have:(Yu (Yp x b) (ZD b i).part (obs b (ZD b i).part) (fstL (Zu b.h) (ZD b i).part+(ZD b i).at_)).isSome=xy:=by
  refine qk.2 ⟨o,j,?_⟩;rw[f,m.start Z0 ⟨Z0,Z0⟩]
 grind [B2]
def Made.to_old(m:Made b x){i:Nat}(d:i<P b.g.nodes):Xo (Yp x b) (RC b) (YB b.h (Y1 b i)) 3 4=xy:=by
 by_cases a:(Y1 b i).part=0;simp_all[YB,Y1,if_pos,Xo];obtain⟨k,l,_,n⟩:=m.pl.old_in d a;have p:=yF (ZM b i);obtain⟨o,j,f⟩:=m.ob_old d a;rw[m.pl.ref_old m.lay d a];unfold Xo;rw[UM m.lay Z0];have:(Yu (Yp x b) (Y1 b i).part (obs b (Y1 b i).part) (fstL (Zu b.h) (Y1 b i).part+(Y1 b i).at_)).isSome=xy:=by
  refine qk.2 ⟨o,j,?_⟩;rw[f,m.start Z0 ⟨Z0,Z0⟩]
 grind [B2]
def Made.same_at(m:Made b x){k:Int}(j:1<=k/\k<=4){o q:Ob}(f:o∈obs b k)(g:q∈obs b k)(h:q.at_=o.at_):q=o:=by
 have d:=m.tiles j;obtain a|a|a:=d.apart q g o f;exact a;have:=YG.1 (d.stands q g).1.shape;omega;have:=YG.1 (d.stands o f).1.shape;omega
def Made.ob_in(m:Made b x){k:Int}(d:1<=k/\k<=4){o:Ob}(f:o∈obs b k):0<=o.at_/\o.at_<YR (Zu b.h) k:=by
 have a:=((m.tiles d).stands o f).1;have g:=YG.1 a.shape;have j:=a.fits;have l:=a.nat;have:YR (Zu b.h) k=P (Zx (Yp x b) k):=by rw[<-m.fill.2.1,Md _ d]
 omega
def Made.find(m:Made b x){k:Int}(a:1<=k/\k<=4){o:Ob}(d:o∈obs b k):Yu (Yp x b) k (obs b k) (fstL (Zu b.h) k+o.at_)=xk o:=by
 rw[<-m.start a (m.ob_in a d)];refine Da d λq f e=>m.same_at a d f ?_;rw[m.start a (m.ob_in a d),m.start a (m.ob_in a f)]at e;omega
def Z2S{k:Int}{i:Nat}{o:Ob}(h:o∈X8 b k i)(a:o.gone=xy):¬(ZD b i).part=k/\(Y1 b i).part=k/\¬(ZD b i).part=0/\o=⟨(Y1 b i).at_,((ZM b i).ptrs.length:Int)+(ZM b i).data.length,(ZM b i).ptrs.length,xy,(adr (YB b.h (ZD b i))).1⟩:=by
 grind [X8]
def Made.gone(m:Made b x){k:Int}(y:3<=k/\k<=4):RX (Yp x b) (obs b 1) (obs b k):=by
 intro o n j;obtain⟨i,d,g⟩:=Qu.1 n;obtain⟨u,w,f,rfl⟩:=Z2S g j;obtain⟨z,A,B⟩:=m.pl.here_in d f;have l:=(m.pl.old_in d Z0).2.2.1;have a:(ZD b i).part=1:=Z0;obtain⟨q,h,p,r,t,_⟩:=m.ob_here d f;rw[a]at h;refine⟨q,?_,r,t⟩;simp only;rw[m.pl.ref_here m.lay d f,UM m.lay Z0,a,<-p];exact m.find Z0 h
def Made.parts(m:Made b x):Xh (Yp x b)=xk (RC b):=
 HT (m.tiles (k:=1) Z0) (m.tiles (k:=2) Z0) (m.tiles (k:=3) Z0) (m.tiles (k:=4) Z0) (m.gone Z0) (m.gone Z0)
def My(l r:Zo)(a:Int):Xs (l++r) a=Xs l a+Xs r a:=by simp[Xs]
def MA(b:Bt)(k:Int)(j:Nat)(a:Int):Xs (X8 b k j) a=if ¬(ZD b j).part=k/\(Y1 b j).part=k/\¬(ZD b j).part=0/\(adr (YB b.h (ZD b j))).1=a then 1 else 0:=by
 unfold X8;by_cases d:(ZD b j).part=k;simp_all[if_pos,if_neg,Xs];rw[if_neg d];by_cases f:(Y1 b j).part=k;rw[if_pos f];by_cases g:(ZD b j).part=0;simp_all[if_pos,if_neg,Xs];rw[if_neg g];by_cases l:(adr (YB b.h (ZD b j))).1=a;simp_all[if_pos,Xs];simp_all[if_neg,Xs];simp_all[if_neg,Xs]
def Made.once(m:Made b x)(hc:b.h.cycle=xy){i:Nat}(n:i<P b.g.nodes)(q:(ZD b i).part=1):UF (RC b) (fstL (Zu b.h) 1+(ZD b i).at_)=1:=by
 have key:∀j,j<=P b.g.nodes->Xs ((List.range j).flatMap (X8 b 3)) (fstL (Zu b.h) 1+(ZD b i).at_)+Xs ((List.range j).flatMap (X8 b 4)) (fstL (Zu b.h) 1+(ZD b i).at_)=if i<j then 1 else 0:=by
  intro j;induction j with
  |zero=>grind [Xs]
  |succ j t=>
   intro G;have t:=t Z0;have a:j<P b.g.nodes:=Z0;rw[ZeW,ZeB,ZeB,My,My];simp only[Zgl,List.flatMap_nil,Zei];have p:Xs (X8 b 3 j) (fstL (Zu b.h) 1+(ZD b i).at_)+Xs (X8 b 4 j) (fstL (Zu b.h) 1+(ZD b i).at_)=if j=i then 1 else 0:=by
    rw[MA,MA];by_cases l:(ZD b j).part=0;grind;obtain⟨H,C,I⟩:=m.pl.here_in a l;by_cases d:(ZD b j).part=1;have y:=m.cyc hc j a d;obtain⟨v1,_⟩:=m.pl.old_in a y;have B:(adr (YB b.h (ZD b j))).1=fstL (Zu b.h) 1+(ZD b j).at_:=by rw[m.pl.ref_here m.lay a l,UM m.lay Z0,d]
    have heq:(fstL (Zu b.h) 1+(ZD b j).at_=fstL (Zu b.h) 1+(ZD b i).at_)↔j=i:=by
     constructor;intro e;obtain⟨w1,w2,w3⟩:=m.pl.here_in n Z0;rw[d]at C;rw[q]at w2;have z:=yF (ZM b i);have A:=yF (ZM b j);have D:P (YN b x 1 i)=ZI (ZM b i):=by unfold YN;rw[if_pos q];exact U3 _ _ _ _
     have F:P (YN b x 1 j)=ZI (ZM b j):=by unfold YN;rw[if_pos d];exact U3 _ _ _ _
     by_cases w:j<i;obtain⟨r,k⟩:=Jd b x 1 (Z0:j+1<=i);rw[VG]at k;grind;by_cases u:i<j;obtain⟨r,k⟩:=Jd b x 1 (Z0:i+1<=j);rw[VG]at k;grind;omega;simp_all
    grind;have f:(ZD b j).part=2:=Z0;have o:(Y1 b j).part=0:=by
     by_cases h:(Y1 b j).part=0;exact h;exact absurd f (m.pl.old_in a h).2.2.1
    grind
   grind
 have:=key (P b.g.nodes) (ZcR _);rw[if_pos n]at this;exact this
end
end
section
section
variable {b:Bt}{x:Rw}
def Made.word(m:Made b x){k:Int}(a:1<=k/\k<=4){i t:Nat}(d:i<P b.g.nodes)(h:t< P (YN b x k i)):(Zx (Yp x b) k)[P (YV b x k i)+t]?=(YN b x k i)[t]? :=by
 rw[DT m.pl a];obtain⟨r,f⟩:=Jd b x k (Z0:i+1<=P b.g.nodes);simp_all[VG,ZdB,Zd9,Zfx,Zdk]
def Fm{p:Pl}{n:Nd}{tw:Int}{j:Nat}(a:j<P n.ptrs):∃q∈n.ptrs,(XH b p n tw)[1+j]?=xk (WZ b ⟨p.part,((p.at_.toNat+1+j:Nat):Int)⟩ q (IntKind.i64.wrap (tw+j))):=by
 refine⟨n.ptrs[j],Zd3 a,?_⟩;simp_all[XH,ZfL,Zfu,Zdk,XF]
theorem qY(h:Hp)(p:Pts)(k j:Int):Xo h p 0 k j=xy:=ZcG
def Made.ptr_ok(m:Made b x)(r:∀n∈b.g.nodes,∀q∈n.ptrs,-1<=q/\q< (P b.g.nodes:Int)){i:Nat}(y:i<P b.g.nodes){k:Int}{p:Pl}(o:p.part=k){a:Nat}{d tw:Int}(f:d∈(ZM b i).ptrs)(u:((Zx (Yp x b) k)[a]?).getD 0=WZ b ⟨p.part,(a:Int)⟩ d tw):VQ (Yp x b) (RC b) k a=xy:=by
 have w:=r (ZM b i) (by simp_all[ZM,ZcM,Zd3]) d f;unfold VQ;simp only[u];unfold WZ;rw[o];by_cases l:d<0;simp_all[if_pos,qY];obtain⟨t,rfl⟩:=Zd7 (Z0:0<=d);have j:t<P b.g.nodes:=Z0;rw[if_neg l];have g1:=m.to_here (i:=t) j;have g2:=m.to_old (i:=t) j;unfold ZD at g1;unfold Y1 at g2;simp only[Zda];by_cases h:2<k;simp_all;rw[if_neg h,if_neg h];rw[m.fill.2.2.1];grind
def Made.ptrs(m:Made b x)(C:∀n∈b.g.nodes,∀q∈n.ptrs,-1<=q/\q< (P b.g.nodes:Int)){k:Int}(u:1<=k/\k<=4):Wk (Yp x b) (RC b) k=xy:=by
 unfold Wk;rw[B2 b u,ZcW];intro o D;obtain⟨i,d,a⟩:=Qu.1 D;unfold zq;rw[ZcW];intro j h;rw[ZeS]at h;unfold X8 at a;split at a;rename_i f;simp at a;subst a;simp only[Zda]at h;obtain⟨_,B,_⟩:=m.pl.here_in d Z0;rw[f]at B;have r:YN b x k i=XH b (ZD b i) (ZM b i) (IntKind.i64.wrap (x.slack+i)):=by unfold YN;rw[if_pos f]
 obtain⟨q,z,A⟩:=Fm (b:=b) (p:=ZD b i) (tw:=IntKind.i64.wrap (x.slack+i)) h;have w:=m.word u d (t:=1+j) ZbT;rw[r,A]at w;simp only;refine m.ptr_ok C d f (tw:=IntKind.i64.wrap (IntKind.i64.wrap (x.slack+i)+j)) z ?_;grind;rename_i f;split at a;rename_i l;obtain⟨_,B,_⟩:=m.pl.old_in d Z0;rw[l]at B;split at a;rename_i y;simp at a;subst a;simp only[Zda]at h;have r:YN b x k i=XH b (Y1 b i) (ZM b i) 0:=by unfold YN;rw[if_neg f,if_pos l,if_pos y]
 obtain⟨q,z,A⟩:=Fm (b:=b) (p:=Y1 b i) (tw:=0) h;have w:=m.word u d (t:=1+j) ZbT;rw[r,A]at w;simp only;refine m.ptr_ok C d l (tw:=IntKind.i64.wrap (0+j)) z ?_;grind;rename_i y;simp at a;subst a;simp only[Zda]at h;have r:YN b x k i=Vl b (ZD b i) (ZM b i):=by unfold YN;rw[if_neg f,if_pos l,if_neg y]
 have w:=m.word u d (t:=1+j) (by grind [Rc,ZI]);have F:(Vl b (ZD b i) (ZM b i))[1+j]?=xk 0:=by
  unfold Vl;rw[ZfL 1 j,Zfu,List.getElem?_replicate,if_pos (by grind [ZI])]
 grind [VQ,Int.toNat_natCast,YV,qY];grind
theorem Made.right(m:Made b x)(z:∀n∈b.g.nodes,∀q∈n.ptrs,-1<=q/\q< (P b.g.nodes:Int)):XE (Yp x b)=xy:=by
 have j:=m.fill.2.1;have a:(Yp x b).low.length=P b.h.low:=by have:=ZdT Ly.low j;simp only[Zu]at this;omega
 have d:(Yp x b).high.length=P b.h.high:=by have:=ZdT Ly.high j;simp only[Zu]at this;omega
 have u:(Yp x b).old.length=P b.h.old:=by have:=ZdT Ly.old j;simp only[Zu]at this;omega
 have p:(Yp x b).far.length=P b.h.far:=by have:=ZdT Ly.far j;simp only[Zu]at this;omega
 have l:(Yp x b).cap=b.h.cap:=ZdT Ly.cap j;refine IJ ?_ m.parts ?_;unfold T7;have M:=m.scan;have y:=m.pl.ok.rl;have K:(Yp x b).roots.length<=5:=by simp only[Yp,Zdz];exact y
 rw[j,m.lay,m.fill.2.2.1,m.fill.2.2.2,a,u,p];grind;unfold TT;simp only[ZcP,Zd8];refine⟨⟨⟨⟨⟨⟨?_,?_⟩,m.ptrs z Z0⟩,m.ptrs z Z0⟩,m.ptrs z Z0⟩,m.ptrs z Z0⟩,?_⟩;rw[m.fill.2.2.2];cases I:b.h.cycle;rfl;simp only[Zfs,Zfe,ZcW];intro o G;obtain⟨i,F,f⟩:=Qu.1 G;have D:(ZD b i).part=1/\o.at_=(ZD b i).at_:=by
  unfold X8 at f;split at f;simp_all;split at f;rename_i L;have:=(m.pl.old_in F Z0).1;omega;grind
 have A:=m.ob_in (k:=1) Z0 G;unfold SK;rw[m.start Z0 A,D.2,Zd8];exact m.once I F D.1;rw[ZcW];intro w H;simp only[Yp,Zd1]at H;obtain⟨r,J,rfl⟩:=H;have y:=m.pl.ok.rts r J;by_cases C:0<=r;rw[if_pos C];have B:=JK (x:=x) m.pl.ok (P b.g.nodes) (ZcR _);rw[Bc B];obtain⟨t,rfl⟩:=Zd7 C;exact m.to_here (i:=t) Z0;simp_all[if_neg,qY];rw[a,d,l];exact m.room
end
end
section
def Nf(l r:Zo):Yt (l++r)=Yt l+Yt r:=by simp[Yt]
section
variable {x:Rw}{c:Bool}
def Z7J{b:Bt}(f:Placed b x){i:Nat}(p:i<P b.g.nodes):Yt (X8 b 3 i)+Yt (X8 b 4 i)=if(ZD b i).part=0 then ZI (ZM b i)else 0:=by
 have q:((1:Nat)+(((ZM b i).ptrs.length:Int)+(ZM b i).data.length).toNat)=ZI (ZM b i):=by unfold ZI;omega
 obtain⟨l,k,a,d⟩|⟨l,_⟩:=f.here i p;have j:(ZD b i).part=0:=by rw[l]
 rw[if_pos j];obtain rfl|rfl:=a<;>simp[X8,j,d,Yt,WF,q];have h:¬(ZD b i).part=0:=Z0;have n:¬(ZD b i).part=3:=Z0;have o:¬(ZD b i).part=4:=Z0;have:∀k:Int,¬(ZD b i).part=k->Yt (X8 b k i)=0:=λk a=>by
  unfold X8;rw[if_neg a,if_neg h];split<;>simp[Yt,WF]
 rw[if_neg h,this 3 n,this 4 o]
def Nj(hx:x.ok):∀j,j<=(ZS x.nodes x.roots).nodes.length->Yt ((List.range j).flatMap (X8 (Yq x c) 3))+Yt ((List.range j).flatMap (X8 (Yq x c) 4))=(Y0 x c (ZS x.nodes x.roots) j).wt
 |0,_=>rfl
 |j+1,g=>by
  have h:=Nj hx j Z0;have a:=Z7J (Mp (c:=c) hx) (i:=j) (by rw[SJ];omega);rw[Jy Z0]at a;have f:ZM (Yq x c) j=((ZS x.nodes x.roots).nodes[j]?).getD default:=rfl;rw[f]at a;rw[ZeW,ZeB,ZeB,Nf,Nf,Y0];simp only[Zgl,List.flatMap_nil,Zei];generalize ((ZS x.nodes x.roots).nodes[j]?).getD default=n at*;unfold Rf at a;simp only[YZ];obtain d|d|⟨d,rfl⟩:=Sd x j c;simp[d]at a⊢;omega;simp[d]at a⊢;omega;simp[d]at a⊢;omega
def Z2Z(x:Rw)(c:Bool):∀n∈(Yq x c).g.nodes,∀q∈n.ptrs,-1<=q/\q< ((Yq x c).g.nodes.length:Int):=by
 rw[SJ];exact FU x.nodes x.roots
def Gc(hc:c=xh):∀j,(Y0 x c (ZS x.nodes x.roots) j).n3=0/\(Y0 x c (ZS x.nodes x.roots) j).n4=0
 |0=>⟨rfl,rfl⟩
 |j+1=>by
  have:=Gc hc j;subst hc;simpa[Y0,YZ]using this
def FO(hx:x.ok)(hc:c=xy->(Yq x xy).h.low.length≠0):Made (Yq x c) x:=by
 obtain⟨k1,y,z⟩:=KH hx c;refine⟨Mp hx,z,?_,?_,?_,?_,y⟩;rw[SJ];exact BU x;intro a i l j;have k:c=xy:=a;subst k;rw[SJ]at l;rw[Jy l]at j;rw[zC l];unfold Rf at j;unfold QC;obtain f|f|⟨f,_⟩:=Sd x i xy;simp[f]at j;simp[f];cases Wf x i<;>simp;simp[f]at j;have d:(Yq x c).h.low.length=(Y0 x c (ZS x.nodes x.roots) (ZS x.nodes x.roots).nodes.length).n1:=by simp[Yq]
 cases c;obtain⟨p,q⟩:=Gc (x:=x) (c:=xh) rfl (ZS x.nodes x.roots).nodes.length;rw[d];have o:(Yq x xh).h.scan=((Y0 x xh (ZS x.nodes x.roots) (ZS x.nodes x.roots).nodes.length).n1:Int):=by simp[Yq]
 have a:(Yq x xh).h.cycle=xh:=rfl;rw[o,a];simp only[Zd0,Zdu];refine⟨Z0,Z0,trivial,?_,?_⟩<;>simp[Yq,p,q];have f:=hc rfl;rw[d]at f;rw[d];have o:(Yq x xy).h.scan=pick x.scan (Y0 x xy (ZS x.nodes x.roots) (ZS x.nodes x.roots).nodes.length).n1:=by
  simp only[Yq];rw[if_pos ⟨trivial,Z0⟩]
 have a:(Yq x xy).h.cycle=xy:=rfl;have u:=Tc (c:=x.scan) (n:=((Y0 x xy (ZS x.nodes x.roots) (ZS x.nodes x.roots).nodes.length).n1:Int)) Z0;rw[o,a];simp only[Zdv];omega;have w:=Nj (c:=c) hx (ZS x.nodes x.roots).nodes.length (ZcR _);have t:(Yq x c).h.low.length=(Y0 x c (ZS x.nodes x.roots) (ZS x.nodes x.roots).nodes.length).n1:=by simp[Yq]
 have r:(Yq x c).h.high.length=(Y0 x c (ZS x.nodes x.roots) (ZS x.nodes x.roots).nodes.length).n2:=by simp[Yq]
 have g:(Yq x c).h.cap=max (((Y0 x c (ZS x.nodes x.roots) (ZS x.nodes x.roots).nodes.length).n1:Int)+(Y0 x c (ZS x.nodes x.roots) (ZS x.nodes x.roots).nodes.length).n2+(Y0 x c (ZS x.nodes x.roots) (ZS x.nodes x.roots).nodes.length).wt) (((Y0 x c (ZS x.nodes x.roots) (ZS x.nodes x.roots).nodes.length).n3:Int)+(Y0 x c (ZS x.nodes x.roots) (ZS x.nodes x.roots).nodes.length).n4)+pick x.slack 12:=rfl;have u:=Tc (c:=x.slack) (n:=12) Z0;unfold obs;rw[SJ,w,t,r,g];omega
def Z0V(hx:x.ok):∃c,Uo x=Yp x (Yq x c)/\Made (Yq x c) x:=by
 unfold Uo;by_cases h:(Yq x xy).h.low.length=0;rw[if_pos h];exact⟨xh,rfl,FO hx Z1⟩;rw[if_neg h];exact⟨xy,rfl,FO hx λ_=>h⟩
def Z0X(hx:x.ok):XE (Uo x)=xy:=by
 obtain⟨c,h,m⟩:=Z0V hx;rw[h];exact m.right (Z2Z x c)
end
end
section
def Z3m(l:List Nd):NoM (.sl (l.map Yf)):=by
 have h:=A9 ⟨l,[]⟩;unfold Yd at h;cases h with
 |agg _ h=>exact h _ Z1
def Z3o(x:Rw):NoM (XY x):=.agg _ λc a=>by
 simp only[Zd6,ZdS,Zf8]at a;obtain rfl|rfl|rfl|rfl|rfl|rfl|rfl:=a;all_goals first|exact .int _ _|exact Z3m _|exact Z3l _
def NG{x:Rw}(hx:x.ok):VC (Yo Try.prog) 16 xh [XY x] (ZL (Uo x)):=up (NH hx) (zj (Z3o x)) (Sv _)
def Nr{h:Hp}{p:Pts}(a:h.ok)(r:Rt h p):VC (Yo Try.prog) 25 xh [ZL h] (.bool xy):=by
 have:=up (Cq a) (zj (Sv h)) (.bool _);rwa[r.right]at this
def Z3n(l:Zo):NoM (.sl (l.map ZH)):=.sl _ λc a=>by
 have:∀l:Zo,∀c∈flat (l.map ZH),NoM c:=by
  intro l;induction l with
  |nil=>intro c a;cases a
  |cons o l d=>
   intro c a;simp only[Zdc,Z0u,Zdd]at a;obtain a|a:=a;simp[ZH]at a;obtain rfl|rfl|rfl|rfl|rfl:=a<;>first|exact .int _ _|exact .bool _
   exact d c a
 exact this l c a
def Np{h:Hp}(d:h.ok){k:Int}:VC (Yo Try.prog) 27 xh [ZL h,vi k] (.tup [.sl ((Vq h k).1.map ZH),vi (Vq h k).2]):=up (Cp d) (zk (Sv h) (.int _ _)) (.tup _ λc a=>by
 simp only[Zd6,ZdS,Zf8]at a;obtain rfl|rfl:=a;exact Z3n _;exact .int _ _)
def Cr{h:Hp}(a:h.ok):VC (Yo Try.prog) 22 xh [ZL h] (vi (QV h)):=up (Nt a) (zj (Sv h)) (.int _ _)
section
variable {h:Hp}{p:Pts}
def Rt.vg_right(r:Rt h p):Vm.right (vg h)=xy:=r.view_right r.nroots r.roots
def Rt.ofG(r:Rt h p):ofG h=(XO (vg h),0):=if_pos ⟨r.right,r.vg_right⟩
end
instance fitViewLive:FitF (Yo Try.prog) 4:=R5 (P:=Try.prog) Try.func4 rfl Z2
end
def yI{gone:Bool}{ptrs:Int}:∀ {l:Zf} {i:Nat},XG l gone ptrs i=xy->∀(j:Nat) (w:Int),l[j]?=xk w->(gone=xy->w=0)/\(((i+j:Nat):Int)<ptrs->U2 w=xy)
 | [],_,_,j,w,a=>by simp at a
 |y::l,i,d,j,w,a=>by
  simp only[XG,ZcP]at d;cases j with
  |zero=>
   simp at a;subst a;obtain⟨⟨f,g⟩,_⟩:=d;refine⟨λh=> ?_,λk=> ?_⟩;rw[h]at f;simpa using f;simpa[show(i:Int)<ptrs by omega]using g
  |succ j=>
   have:=yI d.2 j w (by simpa using a);rw[show i+1+j=i+(j+1)by omega]at this;exact this
def Stands.congr{ws a:Zf}{old:Bool}{o:Ob}(s:Stands ws old o)(n:P a=P ws)(k:a[o.at_.toNat]?=ws[o.at_.toNat]?)
  (g:∀j:Nat,(j:Int)<o.size->a[o.at_.toNat+1+j]?=ws[o.at_.toNat+1+j]? \/(o.gone=xh/\o.ptrs<=j)):Stands a old o:=by
 refine⟨s.nat,s.shape,by rw[n];exact s.fits,RM λj w f=> ?_,by rw[k];exact s.word⟩;have d:j<o.size.toNat:=by
  have:=(ZcN.1 f).1;simp at this;omega
 rw[ZdO d,Zdo]at f;obtain g|⟨l,p⟩:=g j Z0;rw[g]at f;refine yI s.slots j w ?_;rw[ZdO d,Zdo];exact f;exact⟨λh=>(by rw[l]at h;cases h),λh=>Z0⟩
section
section
variable {h:Hp}{p:Pts}
def Lw(r:Rt h p){q g:Nat}(l:q<4)(f:g<4){o k:Ob}(j:o∈obP h q)(d:k∈obP h g)(a:q≠g\/o.at_≠k.at_):(Ym h q o).ad≠(Ym h g k).ad:=by
 intro e;rw[Sl r l j,Sl r f d]at e;rw[r.obQ l]at j;rw[r.obQ f]at d;obtain⟨t,n⟩:=r.toTld.inj Z0 Z0 j d (by unfold Y2;omega);obtain a|a:=a;omega;rw[n]at a;exact a rfl
def Ej(r:Rt h p):∀n q,q+n<=4->(Xc h n q).Pairwise λf g=>f.ad≠g.ad
 |0,q,_=>.nil
 |n+1,q,A=>by
  simp only[Xc];refine List.pairwise_append.2 ⟨?_,Ej r n (q+1) Z0,λf t g u=> ?_⟩;rw[List.pairwise_map];have d:=(r.tiles ((q:Int)+1) Z0).pairwise;rw[<-r.obQ Z0]at d;exact d.imp_of_mem λj l w=>Lw r Z0 Z0 j l (.inr Z0);obtain⟨o,x,rfl⟩:=Zd1.1 t;obtain⟨k,B,y,z,a,rfl⟩:=Tr u;exact Lw r Z0 Z0 x a (.inl Z0)
def Z3u(r:Rt h p){i j:Nat}{f g:Fo}(q:(Yi h).ns[i]?=xk f)(t:(Yi h).ns[j]?=xk g)(e:f.ad=g.ad):i=j:=by
 have d:(Yi h).ns.Pairwise λf g=>f.ad≠g.ad:=by
  rw[C7];exact(Ej r 4 0 Z0).filter _
 have d:=List.pairwise_iff_getElem.1 d;obtain⟨k,l⟩:=ZcN.1 q;obtain⟨n,o⟩:=ZcN.1 t;obtain a|a|a:=Nat.lt_trichotomy j i;exact(d j i n k a (by rw[l,o,e])).elim;exact a.symm;exact(d i j k n a (by rw[l,o,e])).elim
end
end
section
def SF(h:Hp)(w:Int):Int:=(ZX (Yi h).tm (adr w).1).getD (adr w).1
def MD(h:Hp){w:Int}(a:w≠0):(Yi h).toA w=(ZX (Yi h).nm (SF h w)).getD 0:=by
 unfold Vw.toA SF;rw[if_neg a]
section
variable {h g:Hp}{p q:Pts}
def IN(r:Rt h p){f:Fo}(j:f∈Xc h 4 0)(k:f.ob.gone=xh){w:Int}(d:(adr w).1=f.ad):SF h w=f.ad:=by
 have:ZX (Yi h).tm f.ad=xw:=by
  cases l:ZX (Yi h).tm f.ad with
  |none=>rfl
  |some t=>
   obtain⟨x,k1,a,n,_⟩:=(S3 h).t1 _ _ l;rw[Jv r k1 j n,k]at a;cases a
 unfold SF;rw[d,this,Zgv]
def Bk(r:Rt h p){f:Fo}(a:f∈Xc h 4 0)(k:f.ob.gone=xy){w:Int}(j:(adr w).1=f.ad):SF h w=f.ob.target:=by
 obtain⟨t,e⟩:=ZdQ.1 ((S3 h).t2 f a k);obtain⟨x,k1,n,l,d⟩:=(S3 h).t1 _ _ e;rw[Jv r k1 a l]at d;unfold SF;rw[j,e,Zdg,d]
def RT{α:Type}(R:α->α->Prop):List α->List α->Prop
 | [],[]=>True
 |a::l,b::m=>R a b/\RT R l m
 |_,_=>False
def RZ(h g:Hp)(τ:Int->Int)(w w':Int):Prop:=(w=0/\w'=0)\/(w≠0/\w'≠0/\∃f∈(Yi h).ns,f.ad=SF h w/\SF g w'=τ f.ad)
def Cs(h g:Hp)(τ:Int->Int)(f a:Fo):Prop:=a.ad=τ f.ad/\a.ob.ptrs=f.ob.ptrs/\a.sl.drop f.ob.ptrs.toNat=f.sl.drop f.ob.ptrs.toNat/\RT (RZ h g τ) (f.sl.take f.ob.ptrs.toNat) (a.sl.take f.ob.ptrs.toNat)
def Su(h g:Hp)(τ:Int->Int)(i:Int):Int:=if 0<=i then(((Yi h).ns[i.toNat]?).bind λf=>ZX (Yi g).nm (τ f.ad)).getD 0 else i
def Z76(r:Rt h p){τ:Int->Int}{w w':Int}(t:RZ h g τ w w'):(Yi g).toA w'=Su h g τ ((Yi h).toA w):=by
 obtain⟨rfl,rfl⟩|⟨k,l,f,n,d,j⟩:=t;simp[Vw.toA,Su];obtain⟨a,o⟩:=U5.1 n;obtain⟨i,k1,u⟩:=r.to_nm a o;rw[MD h k,MD g l,<-d,j,k1];simp[Su,u]
def jP(r:Rt h p){τ:Int->Int}:∀ {l f:Zf},RT (RZ h g τ) l f->f.map (Yi g).toA=(l.map (Yi h).toA).map (Su h g τ)
 | [],[],_=>rfl
 |a::l,b::m,d=>by rw[Zdc,Zdc,Zdc,Z76 r d.1,jP r d.2]
 | [],_::_,d=>d.elim
 |_::_,[],d=>d.elim
def Z7m(r:Rt h p)(s:Rt g q)(τ:Int->Int)(N:∀f∈(Yi h).ns,∃a∈(Yi g).ns,Cs h g τ f a)
  (t:∀f∈(Yi h).ns,∀a∈(Yi h).ns,τ f.ad=τ a.ad->f.ad=a.ad) (B:RT (RZ h g τ) h.roots g.roots):XO (vg g)=XO (vg h):=by
 have key:∀x:Int,x∈order (vg h)->∃(i n:Nat) (f a:Fo),x=i/\(Yi h).ns[i]?=xk f/\(Yi g).ns[n]?=xk a/\Su h g τ x=n/\Cs h g τ f a:=by
  intro x l;obtain⟨R,W⟩:=(Al r.vg_right).2 x l;have G:(vg h).nodes.length=(Yi h).ns.length:=by simp[vg,Vw.gr]
  have F:x.toNat< (Yi h).ns.length:=Z0;have D:=ZcM F;obtain⟨a,z,d⟩:=N _ (Zd3 F);generalize (Yi h).ns[x.toNat]=f at*;obtain⟨A,M⟩:=U5.1 z;obtain⟨n,k1,Q⟩:=s.to_nm A M;refine⟨x.toNat,n,f,a,Z0,D,Q,?_,d⟩;unfold Su;rw[if_pos R,D,ZcV,<-d.1,k1];rfl
 refine(PY r.vg_right s.vg_right (Su h g τ) (by simp[Su]) (λx l y O e=> ?_) (λx l=> ?_) (jP r B) λx l=> ?_).2;obtain⟨i,n,f,a,rfl,o,u,w,C⟩:=key x l;obtain⟨j,m,k,U,rfl,H,I,T,P⟩:=key y O;have:n=m:=Z0;subst this;rw[u]at I;cases I;have:=Z3u r o H (t f (ZcT o) k (ZcT H) (C.1.symm.trans P.1));omega;obtain⟨i,n,f,a,rfl,o,u,w,C⟩:=key x l;omega;obtain⟨i,n,f,a,rfl,o,u,w,S,J,K,L⟩:=key x l;rw[w];simp only[vg,Vw.gr,outs,Zdb,Zda,o,u,Zd4,Zdg,Ut,J,K,jP r L]
def qb{α:Type}{R:α->α->Prop}:∀ {l:List α},(∀a∈l,R a a)->RT R l l
 | [],_=>trivial
 |a::l,h=>⟨h a Z1,qb λx d=>h x (by simp[d])⟩
def J5(r:Rt h p){j:Nat}(a:j<4){x:Ob}(hx:x∈p.at ((j:Int)+1)):(Ym h j x).ad=fstL (Zu h) ((j:Int)+1)+x.at_:=Sl r a (by rw[r.obQ a];exact hx)
def Ty(r:Rt h p){j:Nat}(a:j<4){x:Ob}(hx:x∈p.at ((j:Int)+1)):Ym h j x∈Xc h 4 0:=za (by rw[r.obQ a];exact hx) Z0 Z0
end
end
section
section
variable {h:Hp}{p:Pts}
def Body.fwd_here(r:Body h p){k:Int}(d:1<=k/\k<=2){o:Ob}(f:o∈p.at k):Vm.fwd h (Y2 (Zu h) k o.at_)=(Y2 (Zu h) k o.at_,h,0):=by
 obtain⟨a,n,m,g,_,_,j,_⟩:=r.toTld.ob Z0 f;exact Vm.fwd_here r.lay d ⟨Z0,Z0⟩
def Body.fwd_gone(r:Body h p){k:Int}(q:3<=k/\k<=4){o:Ob}(g:o∈p.at k)(l:o.gone=xy):Vm.fwd h (Y2 (Zu h) k o.at_)=(2*o.target+1,h,0):=by
 obtain⟨a,n,m,f,_,_,t,_⟩:=r.toTld.ob Z0 g;obtain⟨u,j,d⟩:=((r.tiles k Z0).stands o g).1.word;rw[if_pos l]at d;rw[f,Zda]at j;rw[f,Vm.fwd_gone r.lay q j d.2.1,N4 d.2.1 d.2.2.symm]
def Body.fwd_wait(r:Body h p){k:Int}(t:3<=k/\k<=4){o:Ob}(f:o∈p.at k)(q:o.gone=xh){a n:Nat}(j:o.at_=a)(l:o.size=n):
  Vm.fwd h (Y2 (Zu h) k o.at_)=(Y2 (Zu h) 1 (P h.low),Ye h k a (n+1),0)/\((n+1:Nat):Int)<=Xl (Zu h):=by
 obtain⟨z,y,m,A,B,_,C,_⟩:=r.toTld.ob Z0 f;have:z=a:=Z0;subst this;have:y=n:=Z0;subst this;obtain⟨u,x,d⟩:=((r.tiles k Z0).stands o f).1.word;rw[if_neg (by simp[q])]at d;rw[j,Zda]at x;have D:=r.room;have g:=Z7q t f;unfold WF at g;rw[q,l]at g;simp at g;have e:Xl (Zu h)=h.cap-P h.low-P h.high:=by unfold Xl;rw[if_pos r.lay];rfl
 have w:((y+1:Nat):Int)<=Xl (Zu h):=Z0;rw[j];exact⟨Vm.fwd_wait r.lay t x (d.1 (decide_eq_true Z0)) (by rw[d.2.1,l]) C w,w⟩
end
def A2(h:Hp){k:Int}(d:3<=k/\k<=4)(a n:Nat):(Ye h k a n).low=h.low++((Zx h k).take (a+n)).drop a/\(Ye h k a n).high=h.high/\Zx (Ye h k a n) k=(zr (Zx h k) a n).set a (Y2 (Zu h) 1 (P h.low))/\Zx (Ye h k a n) (7-k)=Zx h (7-k)/\
  (Ye h k a n).roots=h.roots/\(Ye h k a n).scan=h.scan/\(Ye h k a n).cycle=h.cycle/\(Ye h k a n).cap=h.cap/\(Ye h k a n).base=h.base/\(Ye h k a n).to=h.to:=by
 have:k=3\/k=4:=Z0;obtain rfl|rfl:=this<;>exact⟨rfl,rfl,rfl,rfl,rfl,rfl,rfl,rfl,rfl,rfl⟩
end
section
def Nn{ws:Zf}{a:Nat}:∀ {n j:Nat},j<n->a+n<=P ws->(zr ws a n)[a+j]?=xk 0
 |0,_,h,_=>Z0
 |n+1,j,h,d=>by
  rw[zr];by_cases e:j=n;subst e;rw[Zf4 (by rw[yW];omega)];rw[Zen Z0];exact Nn Z0 Z0
def Stands.app{ws r:Zf}{old:Bool}{o:Ob}(s:Stands ws old o):Stands (ws++r) old o:=by
 have l:=YG.1 s.shape;have g:=s.fits;have k:=s.nat;have f:(ws++r)[o.at_.toNat]?=ws[o.at_.toNat]? :=Zdk Z0;refine⟨s.nat,s.shape,ZbV,RM λj w d=> ?_,by rw[f];exact s.word⟩;have a:j<o.size.toNat:=by
  have:=(ZcN.1 d).1;simp at this;omega
 rw[ZdO a,Zdo,Zdk Z0]at d;refine yI s.slots j w ?_;simp_all
def Tiles.append{ws r:Zf}{old:Bool}:∀ {a:Nat} {l d:Zo},Tiles ws old a l->a<=P ws->Tiles (ws++r) old (P ws) d->Tiles (ws++r) old a (l++d)
 |a,[],d,h,g,f=>by
  have:P ws<=a:=h;have:a=P ws:=Z0;subst this;exact f
 |a,o::l,d,h,g,f=>by
  have k:=YG.1 h.2.1.shape;have j:=h.2.1.fits;have e:=h.1;exact⟨h.1,h.2.1.app,Tiles.append h.2.2 Z0 f⟩
theorem Tiles.map{ws d:Zf}{old:Bool}{f:Ob->Ob}(g:∀o,(f o).at_=o.at_/\(f o).size=o.size)(j:P d=P ws):∀ {a:Nat} {l:Zo},Tiles ws old a l->(∀o∈l,Stands d old (f o))->Tiles d old a (l.map f)
 |a,[],h,_=>by show P d<=a;rw[j];exact h
 |a,o::l,h,k=>⟨by rw[(g o).1];exact h.1,k o (.head _),by rw[(g o).2];exact Tiles.map g j h.2.2 λx n=>k x (.tail _ n)⟩
def WI(a t:Int)(q:Ob):Ob:=if q.at_=a then {q with gone:=xy,target:=t}else q
theorem Qj(a t:Int)(q:Ob):(WI a t q).at_=q.at_/\(WI a t q).size=q.size/\(WI a t q).ptrs=q.ptrs:=by
 unfold WI;grind
theorem UW{a t:Int}{q:Ob}(h:q.at_≠a):WI a t q=q:=if_neg h
theorem Un{a t:Int}{q:Ob}(h:q.at_=a):WI a t q= {q with gone:=xy,target:=t}:=if_pos h
def Pts.mv(p:Pts)(k:Int)(o:Ob)(L:Nat)(t:Int):Pts:=⟨p.low++[⟨L,o.size,o.ptrs,xh,0⟩],p.high,if k=3 then p.old.map (WI o.at_ t)else p.old,if k=3 then p.far else p.far.map (WI o.at_ t)⟩
section
variable {h:Hp}{p:Pts}
def JP{k:Int}(a:3<=k/\k<=4)(o:Ob)(L:Nat)(t:Int):(p.mv k o L t).at 1=p.low++[⟨L,o.size,o.ptrs,xh,0⟩]/\(p.mv k o L t).at 2=p.high/\(p.mv k o L t).at k=(p.at k).map (WI o.at_ t)/\(p.mv k o L t).at (7-k)=p.at (7-k):=by
 have:k=3\/k=4:=Z0;obtain rfl|rfl:=this<;>exact⟨rfl,rfl,rfl,rfl⟩
def Z3d{k:Int}(d:3<=k/\k<=4){o:Ob}{L:Nat}{t:Int}{j:Int}(w:1<=j/\j<=4){q:Ob}(x:q∈p.at j):∃a∈(p.mv k o L t).at j,a.at_=q.at_/\a.size=q.size/\a.ptrs=q.ptrs/\(a.gone=xh->a=q)/\(j<3->a=q):=by
 obtain⟨l,n,r,u⟩:=JP (p:=p) d o L t;by_cases f:j=1;subst f;exact⟨q,ZbU,rfl,rfl,rfl,λ_=>rfl,λ_=>rfl⟩;by_cases g:j=2;subst g;exact⟨q,ZbU,rfl,rfl,rfl,λ_=>rfl,λ_=>rfl⟩;by_cases y:j=k;grind [WI,List.mem_map_of_mem,Qj,Un,UW];grind
def Z3c{g:Hp}{k:Int}(f:3<=k/\k<=4){o:Ob}{L:Nat}{t:Int}(r:∀j b,Y2 (Zu g) j b=Y2 (Zu h) j b){w i j:Int}(x:1<=i/\i<=4)(y:1<=j/\j<=4)(d:Xu h p w i j):Xu g (p.mv k o L t) w i j:=by
 obtain rfl|⟨m,q,l,n,rfl⟩:=d;exact .inl rfl;obtain⟨u,a,e,_⟩:=Z3d (p:=p) f (o:=o) (L:=L) (t:=t) (j:=m) Z0 n;exact .inr ⟨m,u,l,a,by rw[r,e]⟩
def Ni{l:Zo}{o:Ob}{t:Int}(d:l.Pairwise λx y=>x.at_<y.at_)(a:o∈l)(j:o.gone=xh):Yt (l.map (WI o.at_ t))+(1+o.size.toNat)=Yt l:=by
 induction l with
 |nil=>simp at a
 |cons x l g=>
  rw[Zgd]at d;simp only[Yt,Zdc,List.sum_cons]at g⊢;obtain rfl|a:=Zd6.1 a
  .have:l.map (WI o.at_ t)=l:=by
    conv=>rhs;rw[<-List.map_id l]
    refine Zes λy f=>UW ?_;have:=d.1 y f;omega
   rw[this,Un rfl];grind [WF]
  grind [UW]
def Body.move(r:Body h p)(b5:h.scan<=xq h.low){k:Int}(G:3<=k/\k<=4){o:Ob}(N:o∈p.at k)(Y:o.gone=xh){a n:Nat}(X:o.at_=a)(L:o.size=n):
  Body (Ye h k a (n+1)) (p.mv k o (xq h.low) (fstL (Zu h) 1+xq h.low)):=by
 obtain⟨B,D,m,a6,a8,em,I,b2,b1⟩:=r.toTld.ob (k:=k) Z0 N;have:B=a:=Z0;subst this;have:D=n:=Z0;subst this;obtain⟨_,hm⟩:=r.fwd_wait G N Y X L;obtain⟨m1,m2,m3,m4,m5,m6,m7,m8,m9,b7⟩:=A2 h G B (D+1);have W:=A0 G (g:=h) I;have mr:=Z36 r.lay G I hm;have hr:=Z5l G I;have hw:∀ {j:Int} {b:Nat},3<=j/\j<=4->(j≠k\/b<B\/B+(D+1)<=b)->(Zx (Ye h k B (D+1)) j)[b]?=(Zx h j)[b]? :=λC hb=>A3 G Z0 C hb;have M:∀ {j:Int},3<=j/\j<=4->xq (Zx (Ye h k B (D+1)) j)=xq (Zx h j):=λC=>A1 G C;have P:fstL (Zu (Ye h k B (D+1))) 1=fstL (Zu h) 1:=by rw[W];rfl
 have T:∀i,i<D+1->(((Zx h k).take (B+(D+1))).drop B)[i]?=(Zx h k)[B+i]? :=λi z=>by
  simp_all
 have a3:xq (((Zx h k).take (B+(D+1))).drop B)=D+1:=ZbV;obtain⟨e1,e2,e3,e4⟩:=JP (p:=p) G o (xq h.low) (fstL (Zu h) 1+xq h.low);have H:=((r.tiles k Z0).stands o N).1;obtain⟨u,hu,hc⟩:=H.word;rw[if_neg (by simp[Y])]at hc;rw[X,Zda]at hu;generalize b0:Ye h k B (D+1)=g at*;generalize a5:((Zx h k).take (B+(D+1))).drop B=ws at*;have a0:∀q∈p.at k,q.at_≠o.at_->∀i:Nat,(i:Int)<=q.size->q.at_.toNat+i<B\/B+(D+1)<=q.at_.toNat+i:=by
  intro q d Q i z;obtain⟨b,l,_,eb,el,_⟩:=r.toTld.ob (k:=k) Z0 d;rcases(r.tiles k Z0).apart q d o N with e|e|e;simp_all;left;omega;omega
 have F:∀q∈p.at k,q.at_≠o.at_->∀i:Nat,(i:Int)<=q.size->(Zx g k)[q.at_.toNat+i]?=(Zx h k)[q.at_.toNat+i]? :=λq d Q i z=>hw G (.inr (a0 q d Q i z));have Z:∀b,(Zx g (7-k))[b]?=(Zx h (7-k))[b]? :=λb=>hw Z0 (.inl Z0);have R:Stands (h.low++ws) xh ⟨xq h.low,o.size,o.ptrs,xh,0⟩:=by
  refine⟨Z1,H.shape,ZbV,RM λj w C=>⟨Z1,λS=> ?_⟩,u,?_,?_⟩;have J:j<D:=by
   have:=(ZcN.1 C).1;simp[L]at this;omega
  simp only[L,Zda]at C;rw[ZdO J,Zdo,Zd9 Z0,show xq h.low+1+j-xq h.low=1+j by omega,T _ Z0]at C;refine(yI H.slots j w ?_).2 S;rw[X,L,Zda,Zda,ZdO J,Zdo,<-C,Ze6];simp only[Zda];grind;grind
 have a4:=WH r.lay 1;refine⟨⟨mr,λj C=> ?_⟩,λj C q d A=> ?_,λj C q d A i z w f=> ?_,?_⟩;by_cases j1:j=1;subst j1;rw[e1];simp only[QG,m1];exact(r.tiles 1 Z0).append (ZdZ _) ⟨rfl,R,by show xq (h.low++ws)<=_;simp[L,a3];omega⟩;by_cases j2:j=2;subst j2;rw[e2];simp only[zQ,m2];exact r.tiles 2 Z0;by_cases U:j=k;subst U;rw[e3];refine(r.tiles j Z0).map (λq=>⟨(Qj _ _ q).1,(Qj _ _ q).2.1⟩) (M G) λq d=> ?_;by_cases e:q.at_=o.at_;have:q=o:=r.toTld.same_at Z0 N d e;subst this;rw[Un rfl];refine⟨H.nat,H.shape,ZbT,RM λi w z=> ?_,Y2 (Zu h) 1 (xq h.low),?_,?_⟩;have J:i<D:=by
  have:=(ZcN.1 z).1;simp[L]at this;omega
 simp only[X,L,Zda]at z;rw[ZdO J,Zdo,m3,Zen Z0,Ze6,Nn Z0 I]at z;cases z;exact⟨λ_=>rfl,λ_=>rfl⟩;grind [Int.toNat_natCast,List.getElem?_set_self,yW];simp only[Zdv];rw[UM r.lay Z0];grind;rw[UW e];refine((r.tiles j Z0).stands q d).1.congr (M G) (by simpa using F q d e 0 (by have:=YG.1 ((r.tiles j Z0).stands q d).1.shape;omega)) λi z=>.inl ?_;rw[Ze6];exact F q d e (1+i) Z0;have:j=7-k:=Z0;subst this;rw[e4,m4];exact r.tiles (7-k) Z0;by_cases U:j=k;subst U;rw[e3,Zd1]at d;obtain⟨x,O,rfl⟩:=d;by_cases e:x.at_=o.at_;have:x=o:=r.toTld.same_at Z0 N O e;subst this;rw[Un rfl];exact⟨_,ZeN _ (.head _),by rw[P],rfl,rfl⟩;rw[UW e]at A⊢;obtain⟨y,hy,y1,y2,y3⟩:=r.gone j C x O A;exact⟨y,Ze8 _ hy,Z0,y2,y3⟩;have:j=7-k:=Z0;subst this;rw[e4]at d;obtain⟨y,hy,y1,y2,y3⟩:=r.gone _ C q d A;exact⟨y,Ze8 _ hy,Z0,y2,y3⟩;have a9:∀ {w i j:Int},1<=i/\i<=4->1<=j/\j<=4->Xu h p w i j->Xu g (p.mv k o (xq h.low) (fstL (Zu h) 1+xq h.low)) w i j:=λz C=>Z3c G hr z C;have K:∀ {j:Int} {i:Nat} {w:Int},VV h p j i w->VV g (p.mv k o (xq h.low) (fstL (Zu h) 1+xq h.low)) j i w:=λ{j i w} S=>by
  unfold VV at S⊢;rw[m6];by_cases c1:2<j;grind;rw[if_neg c1]at S⊢;by_cases c2:j=1/\h.scan<=i;grind;rw[if_neg c2]at S⊢;grind
 by_cases j1:j=1;subst j1;rw[e1]at d;obtain d|d:=Zdd.1 d;obtain⟨b,l,l',eb,el,a7,a1,_⟩:=r.toTld.ob (k:=1) Z0 d;simp only[QG]at a1 f;rw[m1,Zdk Z0]at f;exact K (r.ptr 1 Z0 q d A i z w f);simp at d;subst d;simp only at z f⊢;simp only[Zda,QG,m1]at f⊢;rw[Zd9 Z0,show xq h.low+1+i-xq h.low=1+i by omega,T _ Z0]at f;have:=r.ptr k Z0 o N Y i z w (by grind [Int.toNat_natCast,Nat.add_assoc]);unfold VV at this⊢;rw[if_pos Z0]at this;rw[if_neg Z0,if_pos ⟨rfl,Z0⟩];grind;by_cases j2:j=2;subst j2;rw[e2]at d;simp only[zQ,m2]at f;exact K (r.ptr 2 Z0 q d A i z w f);by_cases U:j=k;subst U;rw[e3,Zd1]at d;obtain⟨x,O,rfl⟩:=d;by_cases e:x.at_=o.at_;grind [Un];rw[UW e]at A z f⊢;have b3:=(YG.1 ((r.tiles j Z0).stands x O).1.shape).2.2.2;rw[Ze6,F x O e (1+i) Z0,<-Ze6]at f;exact K (r.ptr j C x O A i z w f);have:j=7-k:=Z0;subst this;rw[e4]at d;rw[m4]at f;exact K (r.ptr _ C q d A i z w f);have b4:=r.room;have b6:W1 (p.mv k o (xq h.low) (fstL (Zu h) 1+xq h.low))+(1+D)=W1 p:=by
  have h1:=(r.tiles k Z0).pairwise;have:=Ni (t:=fstL (Zu h) 1+xq h.low) h1 N Y;rw[L,Zda]at this;unfold W1;have a2:k=3\/k=4:=Z0;obtain rfl|rfl:=a2;simp only[Pts.at3]at this;simp only[Pts.mv,Zdv];omega;simp only[Pts.at4]at this;simp only[Pts.mv,show ¬(4:Int)=3 by omega,Zdu];omega
 grind
end
end
section
def J4(h:Hp)(p:Pts):Prop:=∀o∈p.low,UF p (fstL (Zu h) 1+o.at_)=1
section
variable {h g:Hp}{p q:Pts}
def Z73{l:Zo}{o:Ob}{t b:Int}(d:l.Pairwise λx y=>x.at_<y.at_)(a:o∈l)(j:o.gone=xh):Xs (l.map (WI o.at_ t)) b=Xs l b+if t=b then 1 else 0:=by
 induction l with
 |nil=>simp at a
 |cons x l k=>
  rw[Zgd]at d;have e:∀(y:Ob) (r:Zo),Xs (y::r) b=(if y.gone=xy/\y.target=b then 1 else 0)+Xs r b:=λy r=>by
   unfold Xs;grind
  rw[Zdc,e,e];obtain rfl|a:=Zd6.1 a
  .have:l.map (WI o.at_ t)=l:=by
    conv=>rhs;rw[<-List.map_id l]
    refine Zes λy f=>UW ?_;have:=d.1 y f;omega
   rw[this,Un rfl];grind
  grind [UW]
def Z74(r:Body h p){b:Int}(t:P h.low<=b):UF p (fstL (Zu h) 1+b)=0:=by
 have key:∀k:Int,3<=k/\k<=4->Xs (p.at k) (fstL (Zu h) 1+b)=0:=λk d=>by
  unfold Xs;rw[Zev,Zgx];intro o f a;simp only[ZcP,Zd8]at a;obtain⟨y,j,e,_⟩:=r.gone k d o f a.1;have:=r.toTld.low_at j;omega
 have l:=key 3 Z0;have n:=key 4 Z0;simp_all[Pts.at3,Pts.at4,UF]
def Z72(r:Body h p){k:Int}(l:3<=k/\k<=4){o:Ob}(j:o∈p.at k)(f:o.gone=xh){L:Nat}{t b:Int}:UF (p.mv k o L t) b=UF p b+if t=b then 1 else 0:=by
 have d:=Z73 (t:=t) (b:=b) (r.tiles k Z0).pairwise j f;unfold UF;have a:k=3\/k=4:=Z0;obtain rfl|rfl:=a;simp only[Pts.at3]at d;simp only[Pts.mv,Zdv];omega;simp only[Pts.at4]at d;simp only[Pts.mv,show ¬(4:Int)=3 by omega,Zdu];omega
structure Ext (h:Hp) (p:Pts) (g:Hp) (q:Pts):Prop where
 low:∃ws,g.low=h.low++ws
 high:g.high=h.high
 base:g.base=h.base
 cap:g.cap=h.cap
 tos:g.to=h.to
 cycle:g.cycle=h.cycle
 scan:g.scan=h.scan
 roots:g.roots=h.roots
 oldL:P g.old=P h.old
 farL:P g.far=P h.far
 obsL:∃r,q.low=p.low++r
 obsH:q.high=p.high
 obsO:∀k:Int,3<=k/\k<=4->(q.at k).map (λo=>(o.at_,o.size,o.ptrs))=(p.at k).map (λo=>(o.at_,o.size,o.ptrs))
 gone:∀k:Int,3<=k/\k<=4->∀(i:Nat) (o o':Ob),(p.at k)[i]?=xk o->(q.at k)[i]?=xk o'->(o.gone=xy->o'=o)/\(o'.gone=xh->o'=o/\∀j:Nat,(j:Int)<=o.size->(Zx g k)[o.at_.toNat+j]?=(Zx h k)[o.at_.toNat+j]?)
 room:(P g.low:Int)+W1 q=P h.low+W1 p
def Ext.refl(h:Hp)(p:Pts):Ext h p h p:=
 ⟨⟨[],Z1⟩,rfl,rfl,rfl,rfl,rfl,rfl,rfl,rfl,rfl,⟨[],Z1⟩,rfl,λ_ _=>rfl,λk f i o j a d=>ZbU,rfl⟩
theorem Ext.trans{f:Hp}{s:Pts}(a:Ext h p g q)(b:Ext g q f s):Ext h p f s:=by
 obtain⟨w1,y⟩:=a.low;obtain⟨w2,z⟩:=b.low;obtain⟨H,A⟩:=a.obsL;obtain⟨I,B⟩:=b.obsL;refine⟨⟨w1++w2,by rw[z,y,ZdB]⟩,b.high.trans a.high,b.base.trans a.base,b.cap.trans a.cap,b.tos.trans a.tos,b.cycle.trans a.cycle,b.scan.trans a.scan,b.roots.trans a.roots,b.oldL.trans a.oldL,b.farL.trans a.farL,⟨H++I,by rw[B,A,ZdB]⟩,b.obsH.trans a.obsH,λk d=>(b.obsO k d).trans (a.obsO k d),λk d i o r t C=> ?_,b.room.trans a.room⟩;have K:P (q.at k)=P (p.at k):=by have:=ZdT List.length (a.obsO k d);simpa using this
 have J:=(ZcN.1 t).1;have n:(q.at k)[i]?=xk ((q.at k)[i]'Z0):=ZcM _;generalize (q.at k)[i]'Z0=w at n;obtain⟨x,c2⟩:=a.gone k d i o w t n;obtain⟨d1,d2⟩:=b.gone k d i w r n C;refine⟨λl=> ?_,λl=> ?_⟩;have:=x l;subst this;exact d1 l;obtain⟨k1,D⟩:=d2 l;subst k1;obtain⟨F,G⟩:=c2 l;subst F;exact⟨rfl,λj u=>(D j u).trans (G j u)⟩
def Ext.fst(e:Ext h p g q)(k a:Int)(d:k=1\/k=3\/k=4\/k=2):Y2 (Zu g) k a=Y2 (Zu h) k a:=by
 unfold Y2 fstL Zu;simp only[e.base,e.cap,e.tos,e.high,e.farL]
def Ext.mem(e:Ext h p g q){j:Int}(l:1<=j/\j<=4){o:Ob}(f:o∈p.at j):∃a∈q.at j,a.at_=o.at_/\a.size=o.size/\a.ptrs=o.ptrs:=by
 have d:j=1\/j=2\/j=3\/j=4:=Z0;obtain rfl|rfl|k:=d;obtain⟨r,n⟩:=e.obsL;exact⟨o,ZbU,rfl,rfl,rfl⟩;exact⟨o,by show o∈q.high;rw[e.obsH];exact f,rfl,rfl,rfl⟩;have:=e.obsO j Z0;grind [List.mem_map_of_mem,Prod.mk.injEq]
def Ext.gos(e:Ext h p g q){w i j:Int}(t:1<=i/\i<=4)(u:1<=j/\j<=4)(l:Xu h p w i j):Xu g q w i j:=by
 obtain rfl|⟨m,o,f,n,rfl⟩:=l;exact .inl rfl;have a:1<=m/\m<=4:=by obtain rfl|rfl:=f<;>assumption
 obtain⟨r,d,k,_⟩:=e.mem a n;exact .inr ⟨m,r,f,d,by rw[e.fst _ _ Z0,k]⟩
theorem Body.ext(r:Body h p)(T:h.scan<=xq h.low){k:Int}(f:3<=k/\k<=4){o:Ob}(y:o∈p.at k)(H:o.gone=xh){a n:Nat}(ea:o.at_=a)(P:o.size=n):
  Ext h p (Ye h k a (n+1)) (p.mv k o (xq h.low) (fstL (Zu h) 1+xq h.low)):=by
 obtain⟨u,z,m,O,Q,em,B,S,R⟩:=r.toTld.ob (k:=k) Z0 y;have:u=a:=Z0;subst this;have:z=n:=Z0;subst this;obtain⟨X,Y,m3,m4,Z,m6,m7,m8,m9,F⟩:=A2 h f u (z+1);obtain⟨L,M,N,e4⟩:=JP (p:=p) f o (xq h.low) (fstL (Zu h) 1+xq h.low);have U:(Ye h k u (z+1)).old.length=xq h.old:=A1 (j:=3) f Z0;have W:(Ye h k u (z+1)).far.length=xq h.far:=A1 (j:=4) f Z0;refine⟨⟨_,X⟩,Y,m9,m8,F,m7,m6,Z,U,W,⟨_,L⟩,M,λj I=> ?_,λj I i x x' w A=> ?_,?_⟩;by_cases K:j=k;simp_all[Zfc,Zes,Qj,fstL,Zu,Function.comp];have:j=7-k:=Z0;simp_all;by_cases K:j=k;subst K;rw[N,Zdb,w]at A;simp at A;subst A;have d:=ZcT w;by_cases e:x.at_=o.at_;have:x=o:=r.toTld.same_at Z0 y d e;subst this;rw[Un rfl];exact⟨λh=>(by rw[H]at h;cases h),λh=>Zc4⟩;rw[UW e];refine⟨λ_=>rfl,λ_=>⟨rfl,λi hi=>A3 f Z0 I (.inr ?_)⟩⟩;obtain⟨b,l,_,eb,el,_⟩:=r.toTld.ob (k:=j) Z0 d;rcases(r.tiles j Z0).apart x d o y with G|G|G;simp_all;left;omega;omega;have:j=7-k:=Z0;simp_all;have w:=(r.tiles k Z0).pairwise;have D:=Ni (t:=fstL (Zu h) 1+xq h.low) w y H;rw[P,Zda]at D;have J:=Z35 f B;unfold W1;have C:k=3\/k=4:=Z0;obtain rfl|rfl:=C;simp only[Pts.at3]at D;simp only[Pts.mv,Zdv];omega;simp only[Pts.at4]at D;simp only[Pts.mv,show ¬(4:Int)=3 by omega,Zdu];omega
def Gw(r:Body h p)(f:J4 h p)(j:h.scan<=P h.low){k:Int}(t:3<=k/\k<=4){o:Ob}(u:o∈p.at k)(l:o.gone=xh){a n:Nat}(w:o.at_=a)(y:o.size=n):
  J4 (Ye h k a (n+1)) (p.mv k o (P h.low) (fstL (Zu h) 1+P h.low)):=by
 have e:=r.ext j t u l w y;have z:fstL (Zu (Ye h k a (n+1))) 1=fstL (Zu h) 1:=by
  have:=e.fst 1 0 (.inl rfl);unfold Y2 at this;omega
 intro x d;rw[Z72 r t u l,z];obtain d|d:=Zdd.1 d;have:=r.toTld.low_at d;rw[f x d,if_neg Z0];simp_all[Z74,Int.le_refl]
def NO(g:Hp)(q:Pts)(w v:Int):Prop:=(w=0/\v=0)\/∃k o,(k=3\/k=4)/\o∈q.at k/\w=Y2 (Zu g) k o.at_/\o.gone=xy/\v=2*o.target+1
structure FwdTo (h:Hp) (p:Pts) (w v:Int) (g:Hp) (q:Pts):Prop where
 fwd:fwd h w=(v,g,0)
 body:Body g q
 once:J4 h p->J4 g q
 ext:Ext h p g q
 tgo:Xu g q v 1 2
 zero:v=0↔w=0
 res:(Xu h p w 1 2/\v=w/\g=h/\q=p)\/NO g q w v
 how:(g=h/\q=p)\/∃(k:Int) (o:Ob) (a n:Nat),(3<=k/\k<=4)/\o∈p.at k/\o.gone=xh/\o.at_=a/\o.size=n/\g=Ye h k a (n+1)/\q=p.mv k o (P h.low) (fstL (Zu h) 1+P h.low)/\v=Y2 (Zu h) 1 (P h.low)
def Body.forward(r:Body h p)(l:h.scan<=P h.low){w:Int}(K:Xu h p w 1 2\/Xu h p w 3 4):∃v g q,FwdTo h p w v g q:=by
 by_cases C:w=0;subst C;exact⟨0,h,p,Z0H r.lay,r,id,.refl h p,.inl rfl,Z1,.inr (.inl ⟨rfl,rfl⟩),.inl ⟨rfl,rfl⟩⟩;have B:∃k o,1<=k/\k<=4/\o∈p.at k/\w=Y2 (Zu h) k o.at_:=by
  obtain(G|⟨k,o,f,d,e⟩)|(G|⟨k,o,f,d,e⟩):=K;omega;grind;omega;grind
 obtain⟨k,o,k1,M,d,rfl⟩:=B;by_cases H:k<=2;exact⟨_,h,p,r.fwd_here ⟨k1,H⟩ d,r,id,.refl h p,.inr ⟨k,o,Z0,d,rfl⟩,ZeA,.inl ⟨.inr ⟨k,o,Z0,d,rfl⟩,rfl,rfl,rfl⟩,.inl ⟨rfl,rfl⟩⟩;have f:3<=k/\k<=4:=Z0;cases j:o.gone;obtain⟨a,n,m,t,u,em,I,_⟩:=r.toTld.ob ⟨k1,M⟩ d;obtain⟨F,_⟩:=r.fwd_wait f d j t u;have e:=r.ext l f d j t u;have b:=r.move l f d j t u;have x:(⟨P h.low,o.size,o.ptrs,xh,0⟩:Ob)∈(p.mv k o (P h.low) (fstL (Zu h) 1+P h.low)).low:=ZeN _ (.head _);have A:Y2 (Zu h) 1 (P h.low)=Y2 (Zu (Ye h k a (n+1))) 1 (P h.low):=(e.fst 1 _ (.inl rfl)).symm;exact⟨_,_,_,F,b,λz=>Gw r z l f d j t u,e,.inr ⟨1,_,.inl rfl,x,A⟩,iff_of_false (Km r.lay Z0) C,.inr (.inr ⟨k,_,Z0,by rw[(JP f o _ _).2.2.1];exact Zf0 d,by rw[e.fst _ _ Z0,(Qj _ _ _).1],by rw[Un rfl],by rw[Un rfl];rfl⟩),.inr ⟨k,o,a,n,f,d,j,t,u,rfl,rfl,rfl⟩⟩;obtain⟨y,D,e,_⟩:=r.gone k f o d j;have J:2*o.target+1=Y2 (Zu h) 1 y.at_:=by unfold Y2;omega
 have L:=r.toTld.low_at D;refine⟨_,h,p,r.fwd_gone f d j,r,id,.refl h p,.inr ⟨1,y,.inl rfl,D,J⟩,?_,.inr (.inr ⟨k,o,Z0,d,rfl,j,rfl⟩),.inl ⟨rfl,rfl⟩⟩;omega
end
end
section
section
variable {h g:Hp}{p q:Pts}
def Z0j(r:Rt h p)(hc:h.cycle=xy)(b:Body g q)(f:J4 g q)(e:Ext h p g q):Rt g q:=by
 obtain⟨n,a⟩:=e.low;have l:P h.low<=P g.low:=by rw[a,ZdD];omega
 have j:=r.scanL;have k:=r.cyc hc;refine⟨b,by rw[e.roots];exact r.nroots,by rw[e.scan];exact r.scan0,by rw[e.scan];omega,λ_=>by rw[e.scan];omega,λd=> ?_,λ_=>f,λw a=> ?_⟩;rw[e.cycle,hc]at d;cases d;rw[e.roots]at a;exact e.gos Z0 Z0 (r.roots w a)
def Ext.fstL(e:Ext h p g q){j:Int}(a:1<=j/\j<=4):Vm.fstL (Zu g) j=Vm.fstL (Zu h) j:=by
 have:=e.fst j 0 Z0;grind [Y2]
def Z38(r:Rt h p)(hc:h.cycle=xy){k:Int}(hk:3<=k/\k<=4){o:Ob}(T:o∈p.at k)(hg:o.gone=xh){a n:Nat}(ea:o.at_=a)(en:o.size=n):
  Rt (Ye h k a (n+1)) (p.mv k o (xq h.low) (Vm.fstL (Zu h) 1+xq h.low))/\XO (vg (Ye h k a (n+1)))=XO (vg h):=by
 have e:=r.toBody.ext r.scanL hk T hg ea en;have s:=Z0j r hc (r.toBody.move r.scanL hk T hg ea en) (Gw r.toBody (r.once hc) r.scanL hk T hg ea en) e;obtain⟨m1,m2,m3,m4,m5,_⟩:=A2 h hk a (n+1);obtain⟨c1,c2,c3,c4⟩:=JP (p:=p) hk o (xq h.low) (Vm.fstL (Zu h) 1+xq h.low);refine⟨s,?_⟩;obtain⟨C,rfl,Y⟩:∃C:Nat,k=(C:Int)+1/\C<4:=⟨(k-1).toNat,Z0,Z0⟩;obtain⟨M,O,m,d0,d5,em,d6,e0,d9⟩:=r.toTld.ob Z0 T;have:M=a:=Z0;subst this;have:O=n:=Z0;subst this;have S:(⟨xq h.low,o.size,o.ptrs,xh,0⟩:Ob)∈(p.mv ((C:Int)+1) o (xq h.low) (Vm.fstL (Zu h) 1+xq h.low)).at (((0:Nat):Int)+1):=by
  show _∈(p.mv _ _ _ _).at 1;rw[c1];exact ZeN _ (.head _)
 have b1:WI o.at_ (Vm.fstL (Zu h) 1+xq h.low) o∈(p.mv ((C:Int)+1) o (xq h.low) (Vm.fstL (Zu h) 1+xq h.low)).at ((C:Int)+1):=by
  rw[c3];exact Zf0 T
 have J:∀(j:Nat) (x:Ob),j<4->x∈p.at ((j:Int)+1)->(j≠C\/x≠o)->x∈(p.mv ((C:Int)+1) o (xq h.low) (Vm.fstL (Zu h) 1+xq h.low)).at ((j:Int)+1):=by
  intro j x I D l;by_cases N:j=0;subst N;show _∈(p.mv _ _ _ _).at 1;rw[c1];exact Ze8 _ D;by_cases h1:j=1;subst h1;show _∈(p.mv _ _ _ _).at 2;rw[c2];exact D;by_cases L:j=C;subst L;rw[c3];refine Zd1.2 ⟨x,D,UW λe=> ?_⟩;obtain l|l:=l;exact l rfl;exact l (r.toTld.same_at Z0 T D e);have e7:(j:Int)+1=7- ((C:Int)+1):=Z0;rw[e7]at D⊢;rw[c4];exact D
 generalize hq:p.mv ((C:Int)+1) o (xq h.low) (Vm.fstL (Zu h) 1+xq h.low)=q at*;have Q:∀(j:Nat) (x x':Ob),j<4->x∈p.at ((j:Int)+1)->x'∈q.at ((j:Int)+1)->x'.at_=x.at_->(Ym (Ye h ((C:Int)+1) M (O+1)) j x').ad=(Ym h j x).ad:=by
  intro j x x' I D G e';rw[J5 s I G,J5 r I D,e.fstL Z0,e']
 have hA:=J5 r Y T;have hB:=J5 s Z0 S;rw[e.fstL Z0]at hB;obtain⟨A,P⟩:∃A,A=(Ym h C o).ad:=⟨_,rfl⟩;obtain⟨B,a9⟩:∃B,B=Vm.fstL (Zu h) 1+xq h.low:=⟨_,rfl⟩;have a8:(Ym (Ye h ((C:Int)+1) M (O+1)) 0 ⟨xq h.low,o.size,o.ptrs,xh,0⟩).ad=B:=by rw[hB,a9];rfl
 have R:∀(j:Nat) (x:Ob),j<4->x∈p.at ((j:Int)+1)->(j≠C\/x≠o)->(Ym h j x).ad≠A:=by
  intro j x I D l;rw[P];refine Lw r I Y (by rw[r.obQ I];exact D) (by rw[r.obQ Y];exact T) ?_;obtain l|l:=l;exact .inl l;by_cases L:j=C;subst L;exact .inr λe=>l (r.toTld.same_at Z0 T D e);exact .inl L
 have a2:∀(j:Nat) (x:Ob),j<4->x∈p.at ((j:Int)+1)->(j≠C\/x≠o)->(Ym h j x).ad≠B:=by
  intro j x I D l;have G:=J j x I D l;rw[<-Q j x x I D G rfl,<-a8];refine Lw s I Z0 (by rw[s.obQ I];exact G) (by rw[s.obQ Z0];exact S) ?_;by_cases N:j=0;subst N;obtain⟨b,_,_,eb,_,_,hb,_⟩:=r.toTld.ob (k:=((0:Nat):Int)+1) Z0 D;have:Zx h (((0:Nat):Int)+1)=h.low:=rfl;rw[this]at hb;exact .inr (by show x.at_≠(xq h.low:Int);omega);exact .inl N
 have hw:∀(j:Nat) (x:Ob),j<4->x∈p.at ((j:Int)+1)->(j≠C\/x≠o)->(Ym (Ye h ((C:Int)+1) M (O+1)) j x).sl=(Ym h j x).sl:=by
  intro j x I D l;obtain⟨b,c,_,eb,ec,_,hb,_⟩:=r.toTld.ob Z0 D;simp only[Ym];rw[<-TN _ I,<-TN _ I];have e1:(x.at_+1).toNat=b+1:=Z0;have e2:x.size.toNat=c:=Z0;rw[e1,e2];have a7:∀i:Nat,i<b+1+c->b+1<=i->(Zx (Ye h ((C:Int)+1) M (O+1)) ((j:Int)+1))[i]?=(Zx h ((j:Int)+1))[i]? :=by
   intro i X d7;by_cases N:j=0;subst N;show(Ye h ((C:Int)+1) M (O+1)).low[i]?=h.low[i]?;have:Zx h (((0:Nat):Int)+1)=h.low:=rfl;rw[this]at hb;rw[m1,Zdk Z0];by_cases h1:j=1;subst h1;show(Ye h ((C:Int)+1) M (O+1)).high[i]?=h.high[i]?;rw[m2];refine A3 hk Z0 Z0 ?_;by_cases L:j=C;subst L;rcases(r.tiles ((j:Int)+1) Z0).apart x D o T with e|e|e;obtain l|l:=l;exact(l rfl).elim;exact(l e).elim;exact .inr (.inl Z0);exact .inr (.inr Z0);exact .inl Z0
  refine ZfD λi=> ?_;simp only[Zdq,Zdo];split;exact a7 _ Z0 Z0;rfl
 have b5:(Ym (Ye h ((C:Int)+1) M (O+1)) 0 ⟨xq h.low,o.size,o.ptrs,xh,0⟩).sl=(Ym h C o).sl:=by
  simp only[Ym];rw[<-TN _ Z0,<-TN _ Y];show(((Ye h ((C:Int)+1) M (O+1)).low).drop _).take _=_;rw[m1,show((xq h.low:Int)+1).toNat=xq h.low+1 by omega,show(o.at_+1).toNat=M+1 by omega,show o.size.toNat=O by omega,ZfO,ZfB Z0,ZdJ,show xq h.low+1-xq h.low=1 by omega,List.drop_drop,List.drop_take,List.take_take];congr 1;omega
 have a3:∀w i j:Int,(1<=i/\i<=4)->(1<=j/\j<=4)->Xu h p w i j->RZ h (Ye h ((C:Int)+1) M (O+1)) (λx=>if x=A then B else x) w w:=by
  intro w i j X I hG;by_cases N:w=0;exact .inl ⟨N,N⟩;obtain⟨z,y,K,_,U,_,ha⟩:=r.gos X I hG N;rw[r.obQ K]at U;refine .inr ⟨N,N,?_⟩;cases H:y.gone;refine⟨Ym h z y,U5.2 ⟨Ty r K U,H⟩,(IN r (Ty r K U) H ha).symm,?_⟩;by_cases a0:z=C/\y=o;obtain⟨rfl,rfl⟩:=a0;dsimp only;rw[if_pos P.symm];have:=Bk s (Ty s K b1) (by show(WI _ _ _).gone=xy;rw[Un rfl]) (w:=w) (by rw[ha,Q z y _ K T b1 (Qj _ _ _).1]);rw[this];show(WI _ _ _).target=B;rw[Un rfl,a9];have l:z≠C\/y≠o:=by
   by_cases F:z=C;exact .inr λe=>a0 ⟨F,e⟩;exact .inl F
  dsimp only;rw[if_neg (R z y K U l)];have W:=J z y K U l;have e':=Q z y y K U W rfl;rw[<-e'];exact IN s (Ty s K W) H (by rw[ha,e']);have e4:2<=z:=by
   by_cases hl:z<2;have:=r.live12 hl (by rw[r.obQ K];exact U);rw[this]at H;cases H;omega
  obtain⟨t,ht,h4,_⟩:=r.gone ((z:Int)+1) Z0 y U H;have Z:t∈p.at (((0:Nat):Int)+1):=ht;have c6:t.gone=xh:=r.live12 (q:=0) Z0 (by rw[r.obQ Z0];exact Z);have b3:(Ym h 0 t).ad=y.target:=by rw[J5 r Z0 Z,h4];rfl
  have a0:y≠o:=λe=>by rw[e,hg]at H;cases H
  refine⟨Ym h 0 t,U5.2 ⟨Ty r Z0 Z,c6⟩,?_,?_⟩;rw[Bk r (Ty r K U) H ha,b3];rfl;dsimp only;rw[if_neg (R 0 t Z0 Z (.inl Z0)),b3];have W:=J z y K U (.inr a0);rw[Bk s (Ty s K W) H (by rw[ha,Q z y y K U W rfl])];rfl
 refine Z7m r s (λx=>if x=A then B else x) (λf hf=> ?_) (λf hf f' b9 he=> ?_) ?_;obtain⟨a4,a5⟩:=U5.1 hf;obtain⟨j,x,_,I,D,rfl⟩:=Tr a4;have c7:=D;rw[r.obQ Z0]at D;obtain⟨b,c,d,eb,ec,ed,hb,_⟩:=r.toTld.ob Z0 D;have a1:RT (RZ h (Ye h ((C:Int)+1) M (O+1)) (λx=>if x=A then B else x)) ((Ym h j x).sl.take (Ym h j x).ob.ptrs.toNat) ((Ym h j x).sl.take (Ym h j x).ob.ptrs.toNat):=qb λw a6=>by
  obtain⟨i,X⟩:=Zde a6;have b2:=(ZcN.1 X).1;rw[Ze3]at b2;have c0:(Ym h j x).ob.ptrs=x.ptrs:=rfl;rw[c0]at X b2;rw[ZdO Z0]at X;have e3:=qT r Z0 c7;have b4:(Zx h ((j:Int)+1))[x.at_.toNat+1+i]?=xk w:=by
   rw[TN h Z0];simp only[Ym]at X;rw[ZdO Z0,Zdo]at X;rw[<-X];congr 1;omega
  obtain⟨u,v,hu,hv,hG⟩:=Id (r.ptr ((j:Int)+1) Z0 x D a5 i Z0 w b4);exact a3 w u v hu hv hG
 by_cases b6:j=C/\x=o;obtain⟨rfl,rfl⟩:=b6;refine⟨Ym _ 0 ⟨xq h.low,x.size,x.ptrs,xh,0⟩,U5.2 ⟨Ty s Z0 S,rfl⟩,?_,rfl,by rw[b5],by rw[b5];exact a1⟩;dsimp only;rw[if_pos P.symm,a8];have l:j≠C\/x≠o:=by
  by_cases F:j=C;exact .inr λe=>b6 ⟨F,e⟩;exact .inl F
 have G:=J j x Z0 D l;refine⟨Ym _ j x,U5.2 ⟨Ty s Z0 G,a5⟩,?_,rfl,by rw[hw j x Z0 D l],by rw[hw j x Z0 D l];exact a1⟩;dsimp only;rw[if_neg (R j x Z0 D l),Q j x x Z0 D G rfl];obtain⟨a4,a5⟩:=U5.1 hf;obtain⟨b0,c9⟩:=U5.1 b9;obtain⟨j,x,_,I,D,rfl⟩:=Tr a4;obtain⟨j',x',_,d8,G,rfl⟩:=Tr b0;rw[r.obQ Z0]at D G
 have b7:(Ym h j x).ad≠A->(Ym h j x).ad≠B:=λhn=>a2 j x Z0 D (by
  by_cases F:j=C;subst F;exact .inr λe=>hn (by rw[e,P]);exact .inl F)
 have b8:(Ym h j' x').ad≠A->(Ym h j' x').ad≠B:=λhn=>a2 j' x' Z0 G (by
  by_cases F:j'=C;subst F;exact .inr λe=>hn (by rw[e,P]);exact .inl F)
 split at he<;>split at he;rename_i h1 h2;rw[h1,h2];rename_i h1 h2;exact(b8 h2 he.symm).elim;rename_i h1 h2;exact(b7 h1 he).elim;exact he;rw[m5];exact qb λw a6=>a3 w 1 2 Z0 Z0 (r.roots w a6)
def Z0J(r:Rt h p){w:Int}(A:Xu h p w 1 2\/Xu h p w 3 4):∃v g q,FwdTo h p w v g q/\Rt g q/\XO (vg g)=XO (vg h):=by
 obtain⟨v,g,q,f⟩:=r.toBody.forward r.scanL A;refine⟨v,g,q,f,?_⟩;obtain⟨rfl,rfl⟩|⟨k,o,a,n,y,j,x,t,u,rfl,rfl,_⟩:=f.how;exact⟨r,rfl⟩;have d:h.cycle=xy:=by
  cases d:h.cycle;obtain⟨_,B,C⟩:=r.rest d;have l:=r.tiles k Z0;have z:Zx h k=[]:=by
   have:k=3\/k=4:=Z0;obtain rfl|rfl:=this;exact B;exact C
  rw[z]at l;rw[l.nil]at j;cases j;rfl
 exact Z38 r d y j x t u
end
end
section
section
variable {h g:Hp}{p q:Pts}
structure AllI (h:Hp) (p:Pts) (D:Int->Nat->Prop) (g:Hp) (q:Pts):Prop where
 rt:Rt g q
 ext:Ext h p g q
 view:XO (vg g)=XO (vg h)
 gone:∀(k:Int) (i:Nat),3<=k/\k<=4->D k i->∀o,(q.at k)[i]?=xk o->o.gone=xy
def Ext.same(e:Ext h p g q){k:Int}(f:3<=k/\k<=4){i:Nat}{o d:Ob}(j:(p.at k)[i]?=xk o)(a:(q.at k)[i]?=xk d):d.at_=o.at_:=by
 have:=ZdT (λl=>l[i]?) (e.obsO k f);simp only[Zdb,j,a,Zd4,ZcL,ZcZ]at this;exact this.1
def Ext.len(e:Ext h p g q){k:Int}(a:3<=k/\k<=4):P (q.at k)=P (p.at k):=by
 have:=ZdT List.length (e.obsO k a);simpa using this
def AllI.step{D:Int->Nat->Prop}(I:AllI h p D g q){k:Int}(C:3<=k/\k<=4){i:Nat}{o:Ob}(K:(p.at k)[i]?=xk o){D':Int->Nat->Prop}(N:∀d l,D' d l->D d l\/(d=k/\l=i)):
  ∃v z G,fwd g (Y2 (Zu h) k o.at_)=(v,z,0)/\AllI h p D' z G:=by
 have Y:=I.ext.len C;have Q:=(ZcN.1 K).1;have j:(q.at k)[i]?=xk ((q.at k)[i]'Z0):=ZcM _;generalize (q.at k)[i]'Z0=A at j;have L:=I.ext.same C K j;have T:Y2 (Zu h) k o.at_=Y2 (Zu g) k A.at_:=by rw[L];exact(I.ext.fst k _ Z0).symm
 rw[T];have t:=ZcT j;obtain⟨v,z,G,f,s,S⟩:=Z0J I.rt (w:=Y2 (Zu g) k A.at_) (.inr (.inr ⟨k,A,Z0,t,rfl⟩));refine⟨v,z,G,f.fwd,s,I.ext.trans f.ext,S.trans I.view,λd l n O W r=> ?_⟩;have R:=f.ext.len n;have J:=(ZcN.1 r).1;have a:(q.at d)[l]?=xk ((q.at d)[l]'Z0):=ZcM _;generalize (q.at d)[l]'Z0=x at a;obtain H|⟨rfl,rfl⟩:=N d l O;rw[(f.ext.gone d n l x W a r).1 (I.gone d l n H x a)];exact I.gone d l n H x a;rw[j]at a;cases a;have M:=f.ext.same C j r;have u:Y2 (Zu g) d A.at_≠0:=I.rt.toTld.ne0 Z0 t;obtain⟨B|⟨U,x,F,a,y⟩,_⟩|⟨B,_⟩|⟨U,x,F,a,y,P,_⟩:=f.res;exact absurd B u;obtain⟨X,_⟩:=I.rt.toTld.inj Z0 Z0 t a y;omega;exact absurd B u;rw[<-f.ext.fst d _ Z0,<-M]at y;obtain⟨rfl,rfl⟩:=s.toTld.inj Z0 Z0 (ZcT r) a y;exact P
def AllI.mono{D D':Int->Nat->Prop}(I:AllI h p D g q)(f:∀(k:Int) (i:Nat),3<=k/\k<=4->i< P (p.at k)->D' k i->D k i):AllI h p D' g q:=
 ⟨I.rt,I.ext,I.view,λk i a j o d=>I.gone k i a (f k i a (by rw[<-I.ext.len a];exact(ZcN.1 d).1) j) o d⟩
def AllI.end{D:Int->Nat->Prop}(I:AllI h p D g q)(l:∀(k:Int) (i:Nat),3<=k/\k<=4->i< P (p.at k)->D k i):W1 q=0/\P g.low=P h.low+W1 p:=by
 have z:∀k,3<=k/\k<=4->Yt (q.at k)=0:=λk a=>by
  unfold Yt;refine Z6Z λo n=> ?_;obtain⟨i,d⟩:=Zde n;have:=I.gone k i a (l k i a (by have:=(ZcN.1 d).1;rw[I.ext.len a]at this;exact this)) o d;simp[WF,this]
 have f:=z 3 Z0;have j:=z 4 Z0;have r:=I.ext.room;have:W1 q=0:=by
  simp only[Pts.at3,Pts.at4]at f j;simp only[W1];omega
 exact⟨this,Z0⟩
end
end
end Vm
end
section
namespace Vm
open Go
open Go.Proofs
def p3:Fn:=⟨13,[0,1,2,3,6,7,8,9,10,11,12,13,14],
pQ [pR [(3,pS 0 7),pV 4 pF],pC [pK 13 13 []] [pV 5 (.s 13)],pR [(6,pM (.mm 3 0 7) 7)],pR [(6,.m [.m 6 0,.m 6 1,.m 6 2,.one (.s 1),.m 6 4,.m 6 5,.m 6 6])],pC [pK 14 14 [.s 2,pI 5]] [(6,.m [.m 6 0,.m 6 1,.m 6 2,.m 6 3,.bin .add (.m 3 4) (.bin .mul (pI 2) (.s 14)),.m 6 5,.m 6 6])],pR [(6,.m [.m 6 0,.m 6 1,.m 6 2,.m 6 3,.m 6 4,.m 6 5,.bin .add (.m 3 6) (pI 1)])],pC [pK 15 16 [.mm 3 0 7],pK 16 15 [.s 15]] [(7,pM (.sz (.ext (.s 16) 0) 2) 2),pV 8 (.ext (.s 16) 1)],pC [pK 17 16 [.mm 6 0 7],pK 18 15 [.s 17]] [(9,pM (.sz (.ext (.s 18) 0) 2) 2),pV 10 (.ext (.s 18) 1)],pC [pK 19 17 [.mm 7 0 2]] [(11,pM (.sz (.ext (.s 19) 0) 2) 2),pV 12 (.ext (.s 19) 1)],.reg ⟨[.lt 20 [] (.s 5),.lt 21 [] (.ite (.s 20) (.bin .eql (.s 8) (pI 0)) pF),.lt 22 [] (.ite (.s 21) (.bin .eql (.s 10) (pI 0)) pF),.lt 23 [] (.ite (.s 22) (.bin .eql (.s 12) (pI 0)) pF),.call 24 [(23,xy)] (.id 18) xh xh [.mm 7 0 2,.mm 9 0 2],.lt 25 [] (.ite (.s 23) (.s 24) pF),.call 26 [(25,xy)] (.id 18) xh xh [.mm 7 0 2,.mm 11 0 2],.lt 27 [] (.ite (.s 25) (.s 26) pF),.call 28 [(27,xy)] (.id 19) xh xh [.mm 7 0 2],.lt 29 [] (.ite (.s 27) (.s 28) pF),.call 30 [(29,xy)] (.id 16) xh xh [.mm 3 0 7],.call 31 [(29,xy)] (.id 20) xh xh [.s 30],.call 32 [(29,xy)] (.id 21) xh xh [.mm 7 0 2]],[([(20,xy)],.bin .eql (.s 8) (pI 0)),([(21,xy)],.bin .eql (.s 10) (pI 0)),([(22,xy)],.bin .eql (.s 12) (pI 0)),([(29,xy)],.bin .eql (.s 31) (.s 32))],[pV 4 (.ite (.s 29) (.bin .eql (.s 31) (.s 32)) pF)]⟩] .ret,[(4,.v)]⟩
def c3:ZK (Yo Try.prog) fresh sig [.fz,.fz,.fz] [] Try.f3=xk p3:=Z2
def p5:Fn:=⟨14,[0,1,2,3,4,10,11,12,13,14,15,16,17,18],
pQ [pR [pV 5 pF],pC [pK 14 13 []] [pV 6 (.s 14)],pC [pK 15 23 [.s 0,.s 1]] [(7,pS 15 2)],.reg ⟨[pK 16 14 [.s 3,pI 2],pK 17 14 [.bin .quo (.s 3) (pI 2),pI 2],pK 18 14 [.s 4,pI 9]],[([],.ag [.one (.s 0),.one (.s 1),.lit [.bin .add (.bin .mul (pI 3) (.s 16)) (.s 17)],.one (.s 2),.one (.s 18),.one (.s 4),.one (.s 4)])],[(8,.m [.one (.s 0),.one (.s 1),.lit [.bin .add (.bin .mul (pI 3) (.s 16)) (.s 17)],.one (.s 2),.one (.s 18),.one (.s 4),.one (.s 4)])]⟩,pC [pK 19 16 [.mm 8 0 7]] [(9,pS 19 10)],pC [pK 20 15 [.mm 9 0 10]] [(10,pM (.sz (.ext (.s 20) 0) 2) 2),pV 11 (.ext (.s 20) 1)],pC [pK 21 17 [.mm 7 0 2]] [(12,pM (.sz (.ext (.s 21) 0) 2) 2),pV 13 (.ext (.s 21) 1)],.reg ⟨[.lt 22 [] (.s 6),.lt 23 [] (.ite (.s 22) (.bin .eql (.s 11) (pI 0)) pF),.lt 24 [] (.ite (.s 23) (.bin .eql (.s 13) (pI 0)) pF),.call 25 [(24,xy)] (.id 24) xh xh [.mm 10 0 2,.mm 7 0 2],.lt 26 [] (.ite (.s 24) (.s 25) pF),.call 27 [(26,xy)] (.id 18) xh xh [.mm 10 0 2,.mm 12 0 2],.lt 28 [] (.ite (.s 26) (.s 27) pF),.call 29 [(28,xy)] (.id 25) xh xh [.mm 9 0 10]],[([(22,xy)],.bin .eql (.s 11) (pI 0)),([(23,xy)],.bin .eql (.s 13) (pI 0))],[pV 5 (.ite (.s 28) (.s 29) pF)]⟩] .ret,[(5,.v)]⟩
def c5:ZK (Yo Try.prog) fresh sig [.fz,.fz,.fz,.fz,.fz] [] Try.f5=xk p5:=Z2
end Vm
end
section
namespace Vm
open Go Go.Proofs
instance fitPick12:FitF (Yo Try.prog) 14:=R5 (P:=Try.prog) Try.func14 rfl Z2
instance fitPlaces:FitF (Yo Try.prog) 3:=R5 (P:=Try.prog) Try.func3 rfl Z2
instance fitRest:FitF (Yo Try.prog) 5:=R5 (P:=Try.prog) Try.func5 rfl Z2
end Vm
end
section
namespace Vm
open Go
open Go.Proofs
def Hf:Fn:=⟨20,[0,1,3,2,4,6,5,7,9,8,10,12,11,13,15,14,16,18,17,19],
pQ [pR [pV 0 pF],.reg ⟨[],[([],.ag [pU 10,pI 5,pI 1,pF,pI 0,pN,pN,.lit [pU 2,pU 6],pN,pN])],[(1,.m [pU 10,pI 5,pI 1,pF,pI 0,pN,pN,.lit [pU 2,pU 6],pN,pN])]⟩,pC [pK 20 33 [.mm 1 0 10,pU 21]] [(2,pM (.sz (.ext (.s 20) 1) 10) 10),pV 3 (.fl (.ext (.s 20) 0)),pV 4 (.fl (.ext (.s 20) 2))],pC [pK 21 33 [.mm 2 0 10,pU 21]] [(5,pM (.sz (.ext (.s 21) 1) 10) 10),pV 6 (.ext (.s 21) 0),pV 7 (.ext (.s 21) 2)],pC [pK 22 33 [.mm 1 0 10,pU 25]] [(8,pM (.sz (.ext (.s 22) 1) 10) 10),pV 9 (.ext (.s 22) 0),pV 10 (.ext (.s 22) 2)],pC [pK 23 33 [.mm 1 0 10,pU 4]] [(11,pM (.sz (.ext (.s 23) 1) 10) 10),pV 12 (.ext (.s 23) 0),pV 13 (.ext (.s 23) 2)],pC [pK 24 33 [pY,pU 0]] [(14,pM (.sz (.ext (.s 24) 1) 10) 10),pV 15 (.ext (.s 24) 0),pV 16 (.ext (.s 24) 2)],pC [pK 25 33 [.mm 1 0 10,pU 0]] [(17,pM (.sz (.ext (.s 25) 1) 10) 10),pV 18 (.ext (.s 25) 0),pV 19 (.ext (.s 25) 2)],.reg ⟨[.lt 26 [] (.bin .eql (.s 4) (pI 0)),.lt 27 [] (.ite (.s 26) (.bin .eql (.s 3) (pU 31)) pF),.call 28 [(27,xy)] (.id 40) xh xh [.mm 2 0 10,.ag [pU 10,pI 5,pI 1,pF,pI 0,.lit [pU 2,pU 6],pN,.lit [pU 31,pU 0],pN,pN]],.lt 29 [] (.ite (.s 27) (.s 28) pF),.lt 30 [] (.ite (.s 29) (.bin .eql (.s 7) (pI 0)) pF),.lt 31 [] (.ite (.s 30) (.bin .eql (.s 6) (pU 31)) pF),.call 32 [(31,xy)] (.id 40) xh xh [.mm 5 0 10,.mm 2 0 10],.lt 33 [] (.ite (.s 31) (.s 32) pF),.lt 34 [] (.ite (.s 33) (.bin .eql (.s 10) (pI 6)) pF),.lt 35 [] (.ite (.s 34) (.bin .eql (.s 13) (pI 3)) pF),.lt 36 [] (.ite (.s 35) (.bin .eql (.s 16) (pI 1)) pF),.lt 37 [] (.ite (.s 36) (.bin .eql (.s 18) (pU 0)) pF),.lt 38 [] (.ite (.s 37) (.bin .eql (.s 19) (pI 0)) pF),.call 39 [(38,xy)] (.id 61) xh xh [.mm 2 0 10,pU 31],.lt 40 [] (.ite (.s 38) (.s 39) pF),.call 41 [(40,xy)] (.id 61) xh xh [.mm 2 0 10,pU 21],.lt 42 [] (.ite (.s 40) (.un .not (.s 41)) pF),.call 43 [(42,xy)] (.id 61) xh xh [.mm 1 0 10,pU 0]],[([(26,xy)],.bin .eql (.s 3) (pU 31)),([(29,xy)],.bin .eql (.s 7) (pI 0)),([(30,xy)],.bin .eql (.s 6) (pU 31)),([(33,xy)],.bin .eql (.s 10) (pI 6)),([(34,xy)],.bin .eql (.s 13) (pI 3)),([(35,xy)],.bin .eql (.s 16) (pI 1)),([(36,xy)],.bin .eql (.s 18) (pU 0)),([(37,xy)],.bin .eql (.s 19) (pI 0)),([(40,xy)],.un .not (.s 41))],[pV 0 (.ite (.s 42) (.s 43) pF)]⟩] .ret,[(0,.v)]⟩
def Pd:ZK Sol.prog fresh sig [] [] Try.f30=xk Hf:=Z2
def Hr:Fn:=⟨7,[0,1,2,4,6,5,7],
pQ [pR [(2,pS 0 10),pV 3 pF],pC [pK 7 33 [.mm 2 0 10,.s 1]] [(4,pM (.sz (.ext (.s 7) 1) 10) 10),pV 5 (.ext (.s 7) 0),pV 6 (.ext (.s 7) 2)],.reg ⟨[.lt 8 [] (.bin .eql (.s 6) (pI 0))],[([(8,xy)],.bin .eql (.s 5) (.s 1))],[pV 3 (.ite (.s 8) (.bin .eql (.s 5) (.s 1)) pF)]⟩] .ret,[(3,.v)]⟩
def Pv:ZK Sol.prog fresh sig [.fz,.fz] [] Try.f61=xk Hr:=Z2
end Vm
end
section
namespace Vm
open Go Go.Proofs
def yY(f:RW){h:Hp}(g:h.ok){w:Int}(j:ZA w):VC Sol.prog 61 xh [ZL h,vu w] (.bool (Jw h w)):=by
 refine ZV Sol.func61 follows Z2 Pv rfl ?_;unfold Jw;simp[Hr];refine Zy (f h w g j) ZcB ?_;by_cases a:(fwd h w).2.2=0;by_cases d:(fwd h w).1=w;simp[Sm,a,d];simp[Sm,a,d];simp[Sm,a]
def VH:Hp:=⟨10,5,1,xh,0,[],[],[2,6],[],[]⟩
def UR:Hp:=⟨10,5,1,xh,0,[2,6],[],[31,0],[],[]⟩
def Jm:VH.ok:=by
 refine⟨?_,?_,?_,?_,?_,?_,?_,?_,?_,?_,?_,?_,?_,?_⟩<;>simp[VH,ZA,YD]
def Lp:UR.ok:=by
 refine⟨?_,?_,?_,?_,?_,?_,?_,?_,?_,?_,?_,?_,?_,?_⟩<;>simp[UR,ZA,YD]
def Oa(a:RW):VC Sol.prog 30 xh [] (.bool xy):=by
 refine ZV Sol.func30 follows Z2 Pd rfl ?_;have p:fwd VH 21=(31,UR,0):=ZbW;have q:fwd UR 21=(31,UR,0):=ZbW;have r:fwd VH 25=(0,Hp.zero,6):=ZbW;have t:fwd VH 4=(0,Hp.zero,3):=ZbW;have u:fwd Hp.zero 0=(0,Hp.zero,1):=ZbW;have x:fwd VH 0=(0,VH,0):=ZbW;have g1:Jw UR 31=xy:=ZbW;have g2:Jw UR 21=xh:=ZbW;have y:Jw VH 0=xy:=ZbW;have d:=a VH 21 Jm Zcy;have f:=a UR 21 Lp Zcy;have g:=a VH 25 Jm Zcy;have h:=a VH 4 Jm Zcy;have j:=a Hp.zero 0 Hp.zero_ok Zcy;have k:=a VH 0 Jm Zcy;rw[p]at d;rw[q]at f;rw[r]at g;rw[t]at h;rw[u]at j;rw[x]at k;have k1:=yY a Lp (w:=31) Zcy;have l:=yY a Lp (w:=21) Zcy;have n:=yY a Jm (w:=0) Zcy;rw[g1]at k1;rw[g2]at l;rw[y]at n;have o:=Z67 (b:=UR) Lp;simp[VH,UR,Hp.zero,ZL,Sm]at d f g h j k k1 l n o;simp[Hf];refine Zy d Z1 ?_;simp;refine Zy f Z1 ?_;simp;refine Zy g Z1 ?_;simp;refine Zy h Z1 ?_;simp;refine Zy j Z1 ?_;simp;refine Zy k Z1 ?_;simp;refine Zy o Z1 ?_;simp;refine Zy o Z1 ?_;simp;refine Zy k1 Z1 ?_;simp;refine Zy l Z1 ?_;simp;refine Zy n Z1 ?_;simp
@[simp]theorem Z9S(h:Hp):VL (ZL h) 0 10=xk (ZL h):=rfl
end Vm
end
section

end
section
namespace Vm
open Go Go.Proofs
def Z3k(x:Int×Hp×Int):NoM (Sm x):=.tup _ λc a=>by
 simp only[Zd6,ZdS,Zf8]at a;obtain rfl|rfl|rfl:=a;exact .int _ _;exact Sv _;exact .int _ _
def ND(a:RW){h:Hp}{w:Int}(d:h.ok)(f:ZA w):VC (Yo Try.prog) 33 xh [ZL h,vu w] (Sm (fwd h w)):=up (a h w d f) (zk (Sv h) (.int _ _)) (Z3k _)
def O9(a:RW):VC (Yo Try.prog) 30 xh [] (.bool xy):=up (Oa a) (λx d=>by cases d) (.bool _)
end Vm
end
section
namespace Vm
open Go
open Go.Proofs
def p8:Fn:=⟨32,[0,1,2,4,5,6,7,8,33,9,10,38,42,41,43,12,40,13,14,53,15,57,16,66,17,18,20,19,21,99,22,23],
pQ [pR [(2,pS 0 7),pV 3 pF],pC [pK 32 30 []] [pV 4 (.s 32)],pC [pK 33 16 [.mm 2 0 7]] [(5,pS 33 10)],pC [pK 34 15 [.mm 5 0 10]] [(6,pM (.sz (.ext (.s 34) 0) 2) 2),pV 7 (.ext (.s 34) 1)],pQ [pR [pV 8 (.bin .neq (.s 7) (pI 0))]] (.cond (.s 8) (pQ [pR [pV 3 pF]] .ret) .skip),pR [(9,pM (.mm 5 0 10) 10)],pR [pV 10 (.lit [pI 3,pI 4])],pQ [pR [pV 11 (.bin .eql (.bin .rem (.s 1) (pI 2)) (pI 0))]] (.cond (.s 11) (pR [pV 10 (.lit [pI 4,pI 3])]) .skip),pQ [pR [pV 12 (pI 0),pV 13 (.len (.s 10)),pV 16 (.s 10)]] (.block 0 (.loop [0,1,2,3,4,5,6,7,8,9,10,11,12,13,16] (pQ [pR [pV 14 (.bin .lss (.s 12) (.s 13))],.cond (.s 14) .skip (.exit 0),.block 1 (pQ [pR [pV 15 (.fld (.idx (.s 16) (.s 12) 1) 0)],pC [pK 35 27 [.mm 5 0 10,.s 15]] [pV 17 (.ext (.s 35) 0),pV 18 (.ext (.s 35) 1)],pQ [pR [pV 19 (.bin .neq (.s 18) (pI 0))]] (.cond (.s 19) (pQ [pR [pV 3 pF]] .ret) .skip),pR [pV 20 (pI 0)]] (.block 2 (.loop [0,1,2,3,4,5,6,7,8,9,10,11,12,13,14,15,16,17,18,19,20] (pQ [pQ [pR [pV 21 (.bin .lss (.s 20) (.len (.s 17)))]] (.cond (.s 21) .skip (.exit 2)),.block 3 (pQ [pR [(22,pM (.flds (.idx (.s 17) (.s 20) 5) 0 5) 5)],pQ [pR [pV 23 (.bin .eql (.bin .rem (.s 1) (pI 3)) (pI 0))]] (.cond (.s 23) (pR [(22,pM (.flds (.idx (.s 17) (.bin .sub (.bin .sub (.len (.s 17)) (pI 1)) (.s 20)) 5) 0 5) 5)]) .skip),pC [pK 36 32 [.mm 5 0 10],pK 37 31 [.s 36,.ag [.one (.s 15),.m 22 0]]] [pV 24 (.ext (.s 37) 0),pV 25 (.ext (.s 37) 1)],pC [pK 38 33 [.mm 9 0 10,.bin .add (.bin .mul (pU 2) (.s 24)) (pU 1)]] [(26,pM (.sz (.ext (.s 38) 1) 10) 10),pV 27 (.ext (.s 38) 0),pV 28 (.ext (.s 38) 2)],pQ [.reg ⟨[.lt 39 [] (.bin .neq (.s 25) (pI 0))],[([(39,xh)],.bin .neq (.s 28) (pI 0))],[pV 29 (.ite (.s 39) pT (.bin .neq (.s 28) (pI 0)))]⟩] (.cond (.s 29) (pQ [pR [pV 3 pF]] .ret) .skip)] (pR [(9,pM (.mm 26 0 10) 10)]))] (pR [pV 20 (.bin .add (.s 20) (pI 1))])))))] (pR [pV 12 (.bin .add (.s 12) (pI 1))])))),pC [pK 40 15 [.mm 9 0 10]] [(30,pM (.sz (.ext (.s 40) 0) 2) 2),pV 31 (.ext (.s 40) 1)],.reg ⟨[.lt 41 [] (.s 4),.lt 42 [] (.ite (.s 41) (.bin .eql (.s 31) (pI 0)) pF),.call 43 [(42,xy)] (.id 22) xh xh [.mm 9 0 10],.lt 44 [] (.ite (.s 42) (.bin .eql (.s 43) (pI 0)) pF),.call 45 [(44,xy)] (.id 18) xh xh [.mm 6 0 2,.mm 30 0 2],.lt 46 [] (.ite (.s 44) (.s 45) pF),.call 47 [(46,xy)] (.id 22) xh xh [.mm 5 0 10],.lt 48 [] (.ite (.s 46) (.bin .eql (.len (.m 9 5)) (.bin .add (.len (.m 5 5)) (.s 47))) pF),.call 49 [(48,xy)] (.id 25) xh xh [.mm 9 0 10]],[([(41,xy)],.bin .eql (.s 31) (pI 0)),([(42,xy)],.bin .eql (.s 43) (pI 0)),([(46,xy)],.bin .eql (.len (.m 9 5)) (.bin .add (.len (.m 5 5)) (.s 47)))],[pV 3 (.ite (.s 48) (.s 49) pF)]⟩] .ret,[(3,.v)]⟩
def c8:ZK (Yo Try.prog) fresh sig [.fz,.fz] [] Try.f8=xk p8:=Z2
end Vm
end
section
namespace Vm
open Go Go.Proofs
def Gd(l:Ly):NoM (YI l):=.agg _ λc a=>by
 simp only[Zd6,ZdS,Zf8]at a;obtain rfl|rfl|rfl|rfl|rfl|rfl|rfl:=a<;>exact .int _ _
def Z5h{h:Hp}:VC (Yo Try.prog) 32 xh [ZL h] (YI (Zu h)):=up Iw (zj (Sv h)) (Gd _)
def Z5f{l:Ly}(d:l.fits){part at_:Int}:VC (Yo Try.prog) 31 xh [YI l,.agg [vi part,vi at_]] (.tup [vu (ZY l part at_).1,vi (ZY l part at_).2]):=up (Iu d) (zk (Gd l) (.agg _ λc a=>by
 simp only[Zd6,ZdS,Zf8]at a;obtain rfl|rfl:=a<;>exact .int _ _)) (.tup _ λc a=>by
 simp only[Zd6,ZdS,Zf8]at a;obtain rfl|rfl:=a<;>exact .int _ _)
def Ud(t:Int)(n i:Nat):Nat:=if t.tmod 3=0 then n-1-i else i
def MF{t:Int}{n i:Nat}(h:i<n):Ud t n i<n:=by unfold Ud;split<;>omega
def Z77{t:Int}{n j:Nat}(h:j<n):∃i,i<n/\j=Ud t n i:=⟨Ud t n j,MF h,by unfold Ud;split<;>omega⟩
def Ux(t:Int):List Int:=if t.tmod 2=0 then [4,3]else [3,4]
def Z4N(t:Int):(∀k∈Ux t,3<=k/\k<=4)/\P (Ux t)=2:=by unfold Ux;split<;>simp
def Z4M(t:Int)(k:Int)(a:3<=k/\k<=4):∃j,j<2/\(Ux t)[j]?=xk k:=by
 have:k=3\/k=4:=Z0;unfold Ux;obtain rfl|rfl:=this<;>split;exact⟨1,Z0,rfl⟩;exact⟨0,Z0,rfl⟩;exact⟨0,Z0,rfl⟩;exact⟨1,Z0,rfl⟩
instance fitAll:FitF (Yo Try.prog) 8:=R5 (P:=Try.prog) Try.func8 rfl Z2
def Z2k(hF:RW){x:Rw}(hx:x.ok){d:Int}(S:YD d):VC (Yo Try.prog) 8 xh [XY x,vi d] (.bool xy):=by
 refine ZV (P:=Yo Try.prog) Try.func8 Eh Z2 c8 rfl ?_;simp[p8];refine Zy (O9 hF) Z1 ?_;simp;have kh:=NG hx;unfold XY at kh;refine Zy kh Z1 ?_;obtain⟨u,hl,a4⟩:=Z0W hx;obtain⟨p,r⟩:=II.1 (Z0X hx);generalize Uo x=h at*;have U:=Cy u;rw[r.ofG]at U;simp only[ZL,Yd]at U;simp;refine Zy U Z1 ?_;simp;have e1:d.tmod 2=0->[V.int IntKind.i64 4,V.int IntKind.i64 3]=(Ux d).map vi:=λh=>by simp[Ux,h]
 have e2:¬d.tmod 2=0->[V.int IntKind.i64 3,V.int IntKind.i64 4]=(Ux d).map vi:=λh=>by simp[Ux,h]
 obtain⟨hP,A⟩:=Z4N d;have M:=Z4M d;have a1:xq (Ux d)=2:=A;have z1:=u.low;have w0:=Z7p (HU u r.parts);by_cases z:d.tmod 2=0;all_goals
  simp[z];first
  |rw[e1 z]
  |rw[e2 z]
  generalize Ux d=P at*;clear e1 e2 z;refine Nc 12 2 (λi (g:Hp)=>[(9,.m (UX g)),(12,.v (vi i))]) (λi g=>g.ok/\∃q,AllI h p (λk _=>∃j,j<i/\P[j]?=xk k) g q) h (by simp[UX]) (λi x=>Z1) ⟨u,p,r,.refl h p,rfl,λk i _ H=>by obtain⟨j,Q,_⟩:=H;omega⟩ ?_;rintro i g hi ⟨T,q,I⟩;by_cases N:i<2;case neg=>
   have:i=2:=Z0;subst this;obtain⟨n1,n2⟩:=I.end λk j X Q=>by
    obtain⟨t,y,L⟩:=M k X;exact⟨t,Z0,L⟩
   have C:=Cy T;rw[I.rt.ofG,I.view]at C;have D:=Cr T;rw[I.rt.wait,n1]at D;have F:=NP (a:=XO (vg h)) (b:=XO (vg h)) (PZ (ofOk u r.right).sm.gr r.vg_right);have w:=Cr u;rw[r.wait]at w;have f7:=Nr T I.rt;have w1:=Zz ((xq h.low:Int)+W1 p) Z0 Z0;simp only[ZL,Yd]at C D F w f7;simp[UX];refine Zy C Z1 ?_;simp;refine Zy D Z1 ?_;simp;refine Zy F Z1 ?_;simp;refine Zy w Z1 ?_;simp[w1,n2];refine Zy f7 Z1 ?_;simp
  case pos=>
   have K:P[i]?=xk P[i]:=ZcM Z0;have X:=hP _ (Zd3 (by omega:i<xq P));generalize P[i]=k at*;have C:=Np u (k:=k);rw[r.objs Z0]at C;simp only[ZL]at C;have O:(i:Int)<2:=Z0;have w1:=Zz ((i:Int)+1) Z0 Z0;simp[O,N,A,K,Yb K];refine Zy C Z1 ?_;simp;refine Nc 20 (xq (p.at k)) (λm (e:Hp)=>[(9,.m (UX e)),(20,.v (vi m))]) (λm e=>e.ok/\∃q',AllI h p (λB j=>(∃t,t<i/\P[t]?=xk B)\/(B=k/\∃t,t<m/\j=Ud d (xq (p.at k)) t)) e q') g (by simp[UX]) (λi x=>Z1) ⟨T,q,I.mono λB j _ _ H=> ?_⟩ ?_;obtain y|⟨_,t,y,_⟩:=H;exact y;omega;rintro m e a2 ⟨Z,q',J⟩;by_cases z:m< xq (p.at k);case neg=>
    have:m=xq (p.at k):=Z0;subst this;simp[w1,N];refine⟨e,⟨Z,q',J.mono λB j _ Q H=> ?_⟩,by simp[UX]⟩;obtain⟨t,y,L⟩:=H;by_cases S:t<i;exact .inl ⟨t,S,L⟩;have:t=i:=Z0;subst this;rw[K]at L;cases L;exact .inr ⟨rfl,Z77 Q⟩
   case pos=>
    have a3:=(HU u r.parts).len k;have Q:=MF (t:=d) z;have l:(p.at k)[m]?=xk (p.at k)[m]:=ZcM z;have f:(p.at k)[Ud d (xq (p.at k)) m]?=xk (p.at k)[Ud d (xq (p.at k)) m]:=ZcM Q;generalize (p.at k)[m]=o0 at*;generalize (p.at k)[Ud d (xq (p.at k)) m]=o at*;obtain⟨a,n,_,ea,en,_,a0,_⟩:=r.toTld.ob Z0 (ZcT f);have ad:=S8 r.lay (k:=k) (a:=o.at_) Z0 (by rw[UD Z0];omega);have rg:=CM _ u.lay k o.at_;rw[ad]at rg;simp only at rg;have hu:ZA (Y2 (Zu h) k o.at_):=by unfold Y2 ZA;omega
    obtain⟨v,e',q2,W,J'⟩:=J.step X f (D':=λB j=>(∃t,t<i/\P[t]?=xk B)\/(B=k/\∃t,t<m+1/\j=Ud d (xq (p.at k)) t)) λB j H=>by
     obtain y|⟨y,t,L,G⟩:=H;exact .inl (.inl y);by_cases S:t<m;exact .inl (.inr ⟨y,t,S,G⟩);have:t=m:=Z0;subst this;exact .inr ⟨y,G⟩
    have D:=Z5h (h:=h);have F:=Z5f u.lay (part:=k) (at_:=o.at_);rw[ad]at F;have w:=ND hF Z hu;have Y:=Z0I Z hu;rw[W]at w Y;have u1:=ZT (2*(fstL (Zu h) k+o.at_)) Z0 Z0;have u2:=ZT (2*(fstL (Zu h) k+o.at_)+1) Z0 Z0;have hr:Y2 (Zu h) k o.at_=2*(fstL (Zu h) k+o.at_)+1:=rfl;rw[hr]at w;have R:(m:Int)< xq (p.at k):=Z0;have w2:=Zz ((m:Int)+1) Z0 Z0;have w3:=Zz ((xq (p.at k):Int) -1) Z0 Z0;have w4:=Zz ((xq (p.at k)-1-m:Nat):Int) Z0 Z0;have hc:(xq (p.at k):Int) -1-m=((xq (p.at k)-1-m:Nat):Int):=Z0;simp only[ZL,YI,Sm]at D F w;by_cases G:d.tmod 3=0;rw[show Ud d (xq (p.at k)) m=xq (p.at k)-1-m from if_pos G]at f;simp[z,R,l,Yb l,G,w3,w4,hc,f,Yb f];refine Zy D Z1 ?_;simp;refine Zy F Z1 ?_;simp[u1,u2,UX];refine Zy w Z1 ?_;simp[w2];exact⟨e',⟨Y.1,q2,J'⟩,by simp[UX]⟩;rw[show Ud d (xq (p.at k)) m=m from if_neg G,l]at f;cases f;simp[z,R,l,Yb l,G];refine Zy D Z1 ?_;simp;refine Zy F Z1 ?_;simp[u1,u2,UX];refine Zy w Z1 ?_;simp[w2];exact⟨e',⟨Y.1,q2,J'⟩,by simp[UX]⟩
end Vm
end
section
namespace Go.Proofs.Ytffknkhabklijaa
open Vm Go.ChangeShapes Go.WideShapes Go.ChangeAt Go.RowKit
def forwardAll_law(xs:List V)(d:P xs=Try.f8.params.toList.length)(a:∀(i:Nat) (t:TypeId) (x:V),Try.f8.params.toList[i]?=xk t->xs[i]?=xk x->Xe Try.prog 8 t x):
  VC (Yo Try.prog) 8 xh xs (.bool xy):=by
 rw[Try.params8]at d a
 match xs,d with
 | [h,j],_=>
   obtain⟨x,rfl,g⟩:=Z7a (a 0 _ h rfl rfl);obtain⟨s,rfl,f⟩:=KN (a 1 _ j rfl rfl);exact Z2k Z0G g f
def forwardAll_lifted(j:Os)(a:j.Started)(H:Type)(enc:TypeId×Value->H):
  ReturnsInLeavingWide {} Try.checked j 8 .any (Rows.forwardAllSpec.pre6 enc Try.prog Try.f8 Rows.forwardAllRow.domain xh) (Rows.forwardAllSpec.post enc Try.prog Try.f8 xh xy xh xh):=by
 refine returnsInLeavingWide_of_change_sized (C:=Try.checked) own a Try.func8
  (ChangeSpec.witness6 (enc:=enc) (C:=Try.checked) xh ⟨#[], #[.agg #[.slice xw 0 0,.slice xw 0 0,.slice xw 0 0,.int .u64 0,.int .i64 0,.int .i64 0,.int .i64 0],.int .i64 0],[]⟩ 8 Z2 Z2 Z2 Z2) ?_
 intro W base args g gs d f k _ _ _
 exact Z0R (P:=Try.prog) Z2 (Z2l (P:=Yo Try.prog) (tb:=4) 8 laidOut Z2 Z2 rfl Z2 Try.underlying4 (λH g h=>by
  rw[Try.params8]at h
  match g,h with
  | [_,_],_=>rfl) forwardAll_law H enc W base args g gs d f k)
theorem forwardAll_holds:Rows.ForwardAllSaid:=
 OpenClaim.holds_of_wide_leaving 8 Try.f8 rfl rfl rfl rfl rfl rfl rfl ⟨rfl,rfl,rfl,rfl,rfl⟩ rfl rfl rfl rfl rfl Z2 Try.func8 Z2
  (Zfh Z2) (by unfold Func.isWrapper;first|(rw[if_pos ZbW];kernel_rfl)|(rw[if_neg ZbW];exact⟨rfl,rfl⟩))
  (λf a H d _=>forwardAll_lifted f a H d)
#print axioms forwardAll_holds
end Go.Proofs.Ytffknkhabklijaa
end
