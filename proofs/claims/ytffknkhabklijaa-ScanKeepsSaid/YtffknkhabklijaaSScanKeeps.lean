/-
  The law ScanKeeps holds of the given program, for every input.
-/
import Derived.Deep.DeepCutAuto
import Derived.Laws.EntriesVeiled
import Derived.Conc.SmallLaws
import Derived.Test.YtffknkhabklijaaRows
import Derived.Conc.LeavingOf
import Derived.Test.YtffknkhabklijaaSScanKeeps6
set_option linter.unusedSimpArgs false
set_option linter.unusedVariables false
set_option linter.defProp false
open Option renaming some→xk,none→xw
open Bool renaming true→xy,false→xh
open List renaming length→P
open Array renaming size→U
open Go.World renaming heap→R
open List renaming length→xq
open Array renaming size→xz
open Go.World renaming heap→xj
set_option maxHeartbeats 40000000
set_option maxRecDepth 100000
theorem Zdh{p:Prop}(h:p:=by simp[results,Try.results97,go_sem]):p:=h
theorem ZdA{p:Prop}(h:p:=by cases e;omega):p:=h
theorem ZcM{p:Prop}(h:p:=by decide+kernel):p:=h
theorem Zd3{p:Prop}(h:p:=by have:=f.c2;rw[A.out.1,A.out.2.1,A.out.2.2.1,A.out.2.2.2]at this;grind [cell_of_row]):p:=h
theorem Zdt{p:Prop}(h:p:=by obtain⟨y,_,rfl⟩:=List.mem_map.1 d;rfl):p:=h
def ZhR:=@Nat.le_of_eq
def Zhv:=@Go.grownBy_keeps
def ZgX:=@List.take_append_of_le_length
def Zi2:=@Bool.and_true
def ZhJ:=@Int.natCast_add
def ZhX:=@Go.KeepsFrom.refl
def Zgk:=@List.all_eq_false
section
namespace Vm
open Go Go.Proofs Go.RowKit
def Z5i{w2:Z4}{b:Nat}{T:Zg}{k l n o p q r t u w:Ze}(x:w2.heap[b]?=xk (.cells #[k,l,n,o,p,q,r,t,u,w] T (0,0)))(v0 v1 a d v4 f v6 g h j:Ze):((((((((((w2.setCell ⟨b,0,xw⟩ v0).setCell ⟨b,1,xw⟩ v1).setCell ⟨b,2,xw⟩ a).setCell ⟨b,3,xw⟩ d).setCell ⟨b,4,xw⟩ v4).setCell ⟨b,5,xw⟩ f).setCell ⟨b,6,xw⟩ v6).setCell ⟨b,7,xw⟩ g).setCell ⟨b,8,xw⟩ h).setCell ⟨b,9,xw⟩ j).heap[b]?=xk (.cells #[v0,v1,a,d,v4,f,v6,g,h,j] T (0,0)):=by
 simp[World.setCell,Zep,x]
def YN(h:Hp)(x:Z9):Array Value:=#[.int .u64 h.base,.int .i64 h.cap,.int .i64 h.to,.bool h.cycle,.int .i64 h.scan,x 0,x 1,x 2,x 3,x 4]
def KI{W:Z4}{G:Z3}{l:Z8}{y:Ze}(h:Rd W G (.sl (l.map vu)) y){k:Nat}{u:Int}(j:l[k]?=xk u):∃b o cap,y=.slice (xk ⟨b,o,xw⟩) (P l) cap/\W.cell? ⟨b,o+k,xw⟩=xk (.int .u64 u)/\G b:=by
 have g:=(ZdH.1 j).1;generalize a:l.map vu=L at h;cases h with
 |nil=>simp at a;subst a;simp at g
 |sl _ b o cap w vs x z n p q r=>
  have d:P L=P l:=by rw[<-a,Zek]
  have f:w=1:=by
   have:=(p (vu u) (by rw[<-a];exact Zfw (ZdO j))).1;simpa using this.symm
  subst f;refine⟨b,o,cap,by rw[d],?_,n⟩;rw[q k Z0];have t:(flat L)[k]?=xk (vu u):=by rw[<-a,LT,Ze1,j];rfl
  rw[SP (r k _ t)]
end Vm
end
section
namespace Vm
open Go Go.Proofs
section
def WC(l:Zj)(i:Int):Bool:=l.any λo=>decide (o.at_<i)&&decide (i<=o.at_+o.ptrs)
def YW(g:Hp):Hp:=if g.scan=(P g.low) then {g with cycle:=xh,old:=[],far:=[]}else g
def Ws(h:Hp):Hp:=
 YW (if WC (ZM h.low [] xh).1 h.scan=xy then
  {(fwd h ((h.low[h.scan.toNat]?).getD 0)).2.1 with low:=(fwd h ((h.low[h.scan.toNat]?).getD 0)).2.1.low.set h.scan.toNat (fwd h ((h.low[h.scan.toNat]?).getD 0)).1,scan:=h.scan+1}
 else {h with scan:=h.scan+1})
def Yb(h:Hp):Nat->Hp
 |0=>h
 |k+1=>if h.cycle then Yb (Ws h) k else h
section
variable {h g:Hp}{p q:Pts}
def Rz{l:Zj}{i:Int}:WC l i=xy↔ ∃o∈l,o.at_<i/\i<=o.at_+o.ptrs:=by
 unfold WC;simp
def Rt.walk(r:Rt h p):ZM h.low [] xh=(p.low,0):=by
 have t:=r.tiles 1 Z0;simp only[Vz,Pts.at1]at t;refine La t ?_;unfold Vr;have:p.low.filter (λo=>o.gone)=[]:=by
  rw[ZgH];intro o a;rw[t.no_gone o a];simp
 rw[this];rfl
def Z2A(t:Tld h p){w:Int}(f:Gos h p w 1 2):Vv w=xy:=by
 unfold Vv;obtain a|⟨k,_,_,_,o,_,d,_⟩:=f.odd t Z0 Z0;simp[a];simp[d]
def Body.set_low(b:Body g q){i:Nat}(hs:g.scan=i)(J:i<xq g.low){v:Int}(L:Gos g q v 1 2)(I:WC q.low i=xy):Body {g with low:=g.low.set i v,scan:=(i:Int)+1} q:=by
 obtain⟨o,K,Y,Z⟩:=Rz.1 I;obtain⟨a,n,m,W,X,em,G,_,T⟩:=b.toTld.ob (k:=1) Z0 K;simp only[Vz]at G;have H:Zu {g with low:=g.low.set i v,scan:=(i:Int)+1}=Zu g:=by
  unfold Zu;simp
 have f:∀ {w M N},Gos {g with low:=g.low.set i v,scan:=(i:Int)+1} q w M N↔Gos g q w M N:=CV H;have A:=b.tiles 1 Z0;simp only[Vz,Pts.at1]at A;have y:∀x∈q.low,∀j:Nat,(j:Int)<=x.size->x.at_.toNat+j=i->x=o/\0<j/\(j:Int)<=x.ptrs:=by
  intro x t j r e;obtain⟨c,d,O,P,Q,F,_⟩:=b.toTld.ob (k:=1) Z0 t;obtain D|D|D:=A.apart x t o K;subst D;exact⟨rfl,Z0,Z0⟩;omega;omega
 refine⟨⟨by rw[H];exact b.lay,λk C=> ?_⟩,by rw[H];exact b.gone,λk C x t B j r w u=> ?_,?_⟩;by_cases k1:k=1;subst k1;show Tiles (g.low.set i v) _ 0 q.low;refine A.congr Z1 λx t=> ?_;have l:=(A.stands x t).1;have U:=Yv.1 l.shape;obtain⟨c,d,O,P,Q,F,S,_⟩:=b.toTld.ob (k:=1) Z0 t;have B:=A.no_gone x t;have R:(g.low.set i v)[x.at_.toNat]?=g.low[x.at_.toNat]? :=by
  refine ZeS λe=> ?_;have:=(y x t 0 Z0 Z0).2.1;omega
 refine⟨l.nat,l.shape,by simpa using l.fits,SY λj w r=>⟨λh=>(by rw[B]at h;cases h),λI=> ?_⟩,by rw[R];exact l.word⟩;have z:j<x.size.toNat:=by
  have:=(ZdH.1 r).1;simp at this;omega
 rw[Zex z,Ze9]at r;by_cases e:x.at_.toNat+1+j=i;rw[e,Zfe J]at r;cases r;exact Z2A b.toTld L;rw[ZeS (λh=>e h.symm)]at r;refine(L2 l.slots j w ?_).2 I;rw[Zex z,Ze9];exact r;have:=b.tiles k C;have e:Zx {g with low:=g.low.set i v,scan:=(i:Int)+1} k=Zx g k:=by unfold Zx;rw[if_neg k1,if_neg k1]
 rw[e];exact this;unfold Wh;by_cases k1:k=1;subst k1;simp only[Vz]at u;rw[if_neg Z0];by_cases e:x.at_.toNat+1+j=i;rw[e,Zfe J]at u;cases u;rw[if_neg (by rw[e];simp only;omega)];exact f.2 L;rw[ZeS (λh=>e h.symm)]at u;have:=b.ptr 1 C x t B j r w u;unfold Wh at this;rw[if_neg Z0]at this;by_cases c:g.scan<=((x.at_.toNat+1+j:Nat):Int);rw[if_pos ⟨rfl,c⟩]at this;rw[if_pos ⟨rfl,by simp only;omega⟩];exact this.imp f.2 f.2;rw[if_neg (λh=>c h.2)]at this;rw[if_neg (by simp only;omega)];exact f.2 this;have e:Zx {g with low:=g.low.set i v,scan:=(i:Int)+1} k=Zx g k:=by unfold Zx;rw[if_neg k1,if_neg k1]
 rw[e]at u;have:=b.ptr k C x t B j r w u;unfold Wh at this;by_cases c:2<k;rw[if_pos c]at this⊢;exact f.2 this;rw[if_neg c,if_neg (λh=>k1 h.1)]at this;rw[if_neg c,if_neg (λh=>k1 h.1)];exact f.2 this;have:=b.room;simpa using this
def Body.pass(b:Body g q){i:Nat}(A:g.scan=i)(t:¬WC q.low i=xy):Body {g with scan:=(i:Int)+1} q:=by
 refine⟨⟨b.lay,b.tiles⟩,b.gone,λk o x d f j l w u=> ?_,b.room⟩;have:=b.ptr k o x d f j l w u;unfold Wh at this⊢;by_cases c:2<k;rw[if_pos c]at this⊢;exact this;rw[if_neg c]at this⊢;by_cases k1:k=1;subst k1;by_cases c:g.scan<=((x.at_.toNat+1+j:Nat):Int);rw[if_pos ⟨rfl,c⟩]at this
 have r:x.at_.toNat+1+j≠i:=λe=>t (Rz.2 ⟨x,d,by
  obtain⟨a,n,m,y,z,em,_⟩:=b.toTld.ob (k:=1) Z0 d;omega⟩)
 rw[if_pos ⟨rfl,by simp only;omega⟩];exact this;rw[if_neg (λh=>c h.2)]at this;rw[if_neg (by simp only;omega)];exact this;rw[if_neg (λh=>k1 h.1)]at this⊢;exact this
def Body.stop(b:Body g q)(H:g.scan=P g.low):Body {g with cycle:=xh,old:=[],far:=[]} ⟨q.low,q.high,[],[]⟩:=by
 have C:=Vg.1 b.lay;have B:∀k a:Int,(k=1\/k=2)->Y7 (Zu {g with cycle:=xh,old:=[],far:=[]}) k a=Y7 (Zu g) k a:=λk a d=>by
  obtain rfl|rfl:=d<;>rfl
 have f:∀ {w:Int},Gos g q w 1 2->Gos {g with cycle:=xh,old:=[],far:=[]} ⟨q.low,q.high,[],[]⟩ w 1 2:=λ{w} t=>by
  obtain rfl|⟨k,o,d,y,rfl⟩:=t;exact .inl rfl;refine .inr ⟨k,o,d,?_,(B k _ d).symm⟩;obtain rfl|rfl:=d<;>exact y
 refine⟨⟨Vg.2 ?_,λk d=> ?_⟩,λk d o y=> ?_,λk d x r t j z w A=> ?_,?_⟩;simp only[Zu,Zfg]at C⊢;omega;have l:k=1\/k=2\/k=3\/k=4:=Z0;obtain rfl|rfl|rfl|rfl:=l;exact b.tiles 1 Z0;exact b.tiles 2 Z0;exact ZdL 0;exact ZdL 0;have l:k=3\/k=4:=Z0;obtain rfl|rfl:=l<;>cases y
 have l:k=1\/k=2\/k=3\/k=4:=Z0;obtain rfl|rfl|rfl|rfl:=l;have:=b.ptr 1 Z0 x r t j z w A;obtain⟨a,n,m,F,G,em,u,_,D⟩:=b.toTld.ob (k:=1) Z0 r;simp only[Vz]at u;unfold Wh at this⊢;rw[if_neg Z0,if_neg Z0]at this;rw[if_neg Z0,if_neg (by simp only;omega)];exact f this;have:=b.ptr 2 Z0 x r t j z w A;unfold Wh at this⊢;rw[if_neg Z0,if_neg Z0]at this⊢;exact f this;cases r;cases r;have:=b.room;show(P g.low:Int)+P g.high+Wt ⟨q.low,q.high,[],[]⟩<=g.cap;simp[Wt,Yx];omega
structure ScanTo (h:Hp) (p:Pts) (g:Hp) (q:Pts):Prop where
 eq:Ws h=g
 rt:Rt g q
 low:∃ws,P g.low=P h.low+ws/\∀j:Nat,(j:Int)<h.scan->g.low[j]?=h.low[j]?
 high:g.high=h.high
 roots:g.roots=h.roots
 num:g.base=h.base/\g.cap=h.cap/\g.to=h.to/\g.scan=h.scan+1
 obsL:∃r,q.low=p.low++r
 obsH:q.high=p.high
 room:g.cycle=xy->(P g.low:Int)+Wt q=P h.low+Wt p
 roomE:(P g.low:Int)<=P h.low+Wt p
 via:∃(i:Nat) (w v:Int) (f:Hp) (s:Pts),h.scan=i/\h.low[i]?=xk w/\g=YW {f with low:=f.low.set i v,scan:=(i:Int)+1}/\(q.low=s.low/\q.high=s.high)/\(g.cycle=xy->q=s)/\((v=w/\f=h/\s=p)\/(WC s.low i=xy/\(Gos h p w 1 2\/Gos h p w 3 4)/\FwdTo h p w v f s))
def Rt.scan(r:Rt h p)(hc:h.cycle=xy):∃g q,ScanTo h p g q:=by
 obtain⟨i,u⟩:=ZdV r.scan0;have Q:i<xq h.low:=by have:=r.cyc hc;omega
 have G:=r.walk;have fin:∀(f:Hp) (s:Pts),Body f s->Sh f s->f.scan=(i:Int)+1->f.cycle=xy->(i:Int)+1<=xq f.low->(∀w∈f.roots,Gos f s w 1 2)->xq f.roots<=16->∃q,Rt (YW f) q/\(q.low=s.low/\q.high=s.high)/\((YW f).cycle=xy->q=s):=by
  intro f s b o W x S U T;unfold YW;by_cases e:f.scan=xq f.low;rw[if_pos e];have X:=b.stop e;refine⟨_,⟨X,T,by show 0<=f.scan;omega,by show f.scan<=xq f.low;omega,λh=>ZcZ,λ_=>⟨e,rfl,rfl⟩,λh=>ZcZ,λw l=> ?_⟩,⟨rfl,rfl⟩,λh=>ZcZ⟩;obtain rfl|⟨k,o,R,A,rfl⟩:=U w l;exact .inl rfl;refine .inr ⟨k,o,R,?_,?_⟩;obtain rfl|rfl:=R<;>exact A;obtain rfl|rfl:=R<;>rfl;rw[if_neg e];exact⟨s,⟨b,T,Z0,Z0,λ_=>Z0,λh=>(by rw[x]at h;cases h),λ_=>o,U⟩,⟨rfl,rfl⟩,λ_=>rfl⟩
 have t:∀f:Hp,(YW f).low=f.low/\(YW f).high=f.high/\(YW f).roots=f.roots/\(YW f).base=f.base/\(YW f).cap=f.cap/\(YW f).to=f.to/\(YW f).scan=f.scan:=λf=>by
  unfold YW;split<;>exact⟨rfl,rfl,rfl,rfl,rfl,rfl,rfl⟩
 have l:h.low[i]?=xk h.low[i]:=ZdG Q;generalize h.low[i]=w at l;by_cases P:WC p.low i=xy;obtain⟨o,A,Z,h2⟩:=Rz.1 P;obtain⟨a,n,m,Y,en,em,a0,_⟩:=r.toTld.ob (k:=1) Z0 A;have B:Gos h p w 1 2\/Gos h p w 3 4:=by
  have t1:=r.tiles 1 Z0;have:=r.ptr 1 Z0 o A (t1.no_gone o A) (i-a-1) Z0 w (by simp only[Vz];rw[Y,show(a:Int).toNat+1+(i-a-1)=i by omega];exact l);unfold Wh at this;rw[if_neg Z0,if_pos ⟨rfl,Z0⟩]at this;exact this
 obtain⟨v,g,q,f⟩:=r.toBody.forward r.scanL B;have W:g.scan=i:=f.ext.scan.trans u;obtain⟨ws,y⟩:=f.ext.low;obtain⟨rs,F⟩:=f.ext.obsL;have C:i<xq g.low:=by rw[y,Zes];omega
 have D:WC q.low i=xy:=Rz.2 ⟨o,by rw[F];exact ZeV _ A,Z,h2⟩;have b:=f.body.set_low W C f.tgo D;have eq:Ws h=YW {g with low:=g.low.set i v,scan:=(i:Int)+1}:=by
  unfold Ws;rw[G,u,if_pos P];simp only[ZdW,l,Zec,f.fwd]
 have x:g.cycle=xy:=f.ext.cycle.trans hc;have S:Zu {g with low:=g.low.set i v,scan:=(i:Int)+1}=Zu g:=by unfold Zu;simp
 have on:Sh {g with low:=g.low.set i v,scan:=(i:Int)+1} q:=by
  have:=f.once (r.once hc);unfold Sh at this⊢;rw[S];exact this
 obtain⟨s,rt,⟨N,O⟩,z⟩:=fin _ q b on rfl x ZcL (λw l=>(CV S).2 (f.ext.gos Z0 Z0 (r.roots w (by rw[<-f.ext.roots];exact l)))) (by show xq g.roots<=16;rw[f.ext.roots];exact r.nroots);obtain⟨k1,H,I,J,K,L,M⟩:=t {g with low:=g.low.set i v,scan:=(i:Int)+1};rw[<-eq]at rt k1 H I J K L M z;have d:(Ws h).low.length=xq g.low:=by rw[k1];simp
 refine⟨_,s,rfl,rt,⟨xq ws,by rw[d,y,Zes],λj hj=> ?_⟩,H.trans f.ext.high,I.trans f.ext.roots,⟨J.trans f.ext.base,K.trans f.ext.cap,L.trans f.ext.tos,by rw[M,u]⟩,⟨rs,by rw[N,F]⟩,O.trans f.ext.obsH,λh=> ?_,?_,i,w,v,g,q,u,l,eq,⟨N,O⟩,z,.inr ⟨D,B,f⟩⟩;rw[k1];simp only;rw[ZeS Z0,y,Zea Z0];rw[z h,d];exact f.ext.room;rw[d];have:=f.ext.room;omega;have b:=r.toBody.pass u P;have eq:Ws h=YW {h with scan:=(i:Int)+1}:=by
  unfold Ws;rw[G,u,if_neg P]
 obtain⟨s,rt,⟨N,O⟩,z⟩:=fin _ p b (r.once hc) rfl hc (by simp only;omega) r.roots r.nroots;obtain⟨k1,H,I,J,K,L,M⟩:=t {h with scan:=(i:Int)+1};rw[<-eq]at rt k1 H I J K L M z;refine⟨_,s,rfl,rt,⟨0,by rw[k1];rfl,λj hj=>by rw[k1]⟩,H,I,⟨J,K,L,by rw[M,u]⟩,⟨[],by rw[N,Zf5]⟩,O,λh=> ?_,?_,i,w,w,h,p,u,l,?_,⟨N,O⟩,z,.inl ⟨rfl,rfl,rfl⟩⟩;rw[z h,k1];rw[k1];simp only;omega;obtain⟨_,e⟩:=ZdH.1 l;rw[eq,<-e,List.set_getElem_self]
end
end
end Vm
end
section
namespace Vm
open Go Go.Proofs Go.RowKit
structure NowI (B:Nat->Prop) (W:World) (b:Nat) (g:Hp) (x:Nat->Value):Prop where
 le:B b
 nb:W.heap[b]?=xk (.cells (YN g x) 37 (0,0))
 rd:∀j,j<5->Rd W (λc=>B c/\c<U (R W)/\c≠b) (.sl ((Zv g j).map vu)) (x j)
def Jq(B:Z3)(W:Z4)(b:Nat)(g':Hp)(e:Ending)(a:Z4):Prop:=e=.returned (.int .i64 0)/\W.grownBy a (xk b)/\∃d,NowI B a b g' d
def D0(W:Z4)(B:Z3)(b:Nat)(g:Hp)(x:Z9)(S:NowI B W b g x)(A:g.ok)(i:Nat)(F:g.scan=i)(G:i<xq g.low)(pt:Bool)(I:pt=xh\/g.low[i]?=xk 0):
  Calls Sol.prog 97 #[.bool pt,.pointer (xk ⟨b,0,xw⟩)] W (Jq B W b (YW {g with scan:=(i:Int)+1})):=by
 obtain⟨u,K⟩:∃u,g.low[i]?=xk u:=⟨_,ZdG G⟩;obtain⟨L,go,cap,n,C,r⟩:=KI (S.rd 0 Z0) K;rw[show xq (Zv g 0)=(xq g.low) from rfl]at n;have f:=S.nb;unfold YN at f;rw[n,F]at f;have T:∀j,W.cell? ⟨b,j,xw⟩=(#[.int .u64 g.base,.int .i64 g.cap,.int .i64 g.to,.bool g.cycle,.int .i64 i,.slice (xk ⟨L,go,xw⟩) (xq g.low) cap,x 1,x 2,x 3,x 4]:Array Value)[j]? :=λj=>ZdT _ _ _ _ _ _ f;have Q:∀j,W.frozen? ⟨b,j,xw⟩=xh:=λj=>Yz f;have P:=A.low;have R:=Zz ((i:Int)+1) Z0 Z0;have J:((i:Int)< (xq g.low:Int))=True:=ZgE Z0;have y:=ZdP S;have w:=ZdP (And.intro f (And.intro n (And.intro r F)));have q:pt=xh\/pt=xy/\u=0:=by
  obtain h|h:=I;exact .inl h;rw[K]at h;cases pt;exact .inl rfl;exact .inr ⟨rfl,Zfx h⟩
 clear S f n r I F;go_enter Sol.func97,Try.ntmps97;have p:∀c v,xz (xj (W.setCell c v))=xz (xj W):=λc v=>Zdk;by_cases d:i+1=xq g.low
 .have o:((i:Int)+1==(xq g.low:Int))=xy:=ZcL;have k:=ZdP d;clear d;have fin:Jq B W b (YW {g with scan:=(i:Int)+1}) (.returned (.int .i64 0)) ((((W.setCell ⟨b,4,xw⟩ (.int .i64 ((i:Int)+1))).setCell ⟨b,3,xw⟩ (.bool xh)).setCell ⟨b,7,xw⟩ (.slice xw 0 0)).setCell ⟨b,8,xw⟩ (.slice xw 0 0)):=by
   have D:YW {g with scan:=(i:Int)+1}= {g with scan:=(i:Int)+1,cycle:=xh,old:=[],far:=[]}:=by
    unfold YW;rw[if_pos (by show(i:Int)+1=(xq g.low:Int);have:=k.out;omega)]
   rw[D];have l:∀c,c≠b->((((W.setCell ⟨b,4,xw⟩ (.int .i64 ((i:Int)+1))).setCell ⟨b,3,xw⟩ (.bool xh)).setCell ⟨b,7,xw⟩ (.slice xw 0 0)).setCell ⟨b,8,xw⟩ (.slice xw 0 0)).heap[c]?=W.heap[c]? :=λc a=>by
    simp[World.setCell,Zep,ZfK a]
   have t:xz (xj ((((W.setCell ⟨b,4,xw⟩ (.int .i64 ((i:Int)+1))).setCell ⟨b,3,xw⟩ (.bool xh)).setCell ⟨b,7,xw⟩ (.slice xw 0 0)).setCell ⟨b,8,xw⟩ (.slice xw 0 0)))=xz (xj W):=Zdk;refine⟨rfl,⟨rfl,rfl,rfl,ZhR t.symm,λc _ a=>l c (λe=>a (by rw[e]))⟩,λj=>if j=2\/j=3 then .slice xw 0 0 else x j,y.out.le,?_,λj H=> ?_⟩;have:=w.out.1;have z:=w.out.2.1;simp[World.setCell,Zep,this,YN,z];have:j=2\/j=3\/(j≠2/\j≠3):=Z0;obtain rfl|rfl|⟨M,N⟩:=this;exact .nil _ _ Zdl;exact .nil _ _ Zdl;have O:Zv {g with scan:=(i:Int)+1,cycle:=xh,old:=[],far:=[]} j=Zv g j:=by
    have:j=0\/j=1\/j=4:=Z0;obtain rfl|rfl|rfl:=this<;>rfl
   rw[O];simp only[M,N,or_self,Zeu];exact(y.out.rd j H).keep (λc a=>l c a.2.2) λc a=>⟨a.1,by rw[t];exact a.2.1,a.2.2⟩
  obtain rfl|⟨rfl,rfl⟩:=q;all_goals
   go_wp2;exact Zey (v:=.int .i64 0) Zdh rfl fin
 .have o:((i:Int)+1==(xq g.low:Int))=xh:=ZcL;have k:=ZdP d;clear d;have fin:Jq B W b (YW {g with scan:=(i:Int)+1}) (.returned (.int .i64 0)) (W.setCell ⟨b,4,xw⟩ (.int .i64 ((i:Int)+1))):=by
   have D:YW {g with scan:=(i:Int)+1}= {g with scan:=(i:Int)+1}:=by
    unfold YW;rw[if_neg (by show ¬(i:Int)+1=(xq g.low:Int);have:=k.out;omega)]
   rw[D];have l:∀c,c≠b->(W.setCell ⟨b,4,xw⟩ (.int .i64 ((i:Int)+1))).heap[c]?=W.heap[c]? :=λc a=>Ze5 _ _ _ _ a;have t:=p ⟨b,4,xw⟩ (.int .i64 ((i:Int)+1));refine⟨rfl,⟨rfl,rfl,rfl,ZhR t.symm,λc _ a=>l c (λe=>a (by rw[e]))⟩,x,y.out.le,?_,λj H=> ?_⟩;have:=w.out.1;have z:=w.out.2.1;simp[World.setCell,Zep,this,YN,z];exact(y.out.rd j H).keep (λc a=>l c a.2.2) λc a=>⟨a.1,by rw[t];exact a.2.1,a.2.2⟩
  obtain rfl|⟨rfl,rfl⟩:=q;all_goals
   go_wp2;exact Zey (v:=.int .i64 0) Zdh rfl fin
def GV{B:Z3}{W:Z4}{b:Nat}{g:Hp}{x:Z9}(S:NowI B W b g x)(n:Int):W.grownBy (W.setCell ⟨b,4,xw⟩ (.int .i64 n)) (xk b)/\NowI B (W.setCell ⟨b,4,xw⟩ (.int .i64 n)) b {g with scan:=n} x:=by
 have d:∀c,c≠b->(W.setCell ⟨b,4,xw⟩ (.int .i64 n)).heap[c]?=W.heap[c]? :=λc a=>Ze5 _ _ _ _ a;have f:U (R (W.setCell ⟨b,4,xw⟩ (.int .i64 n)))=U (R W):=Zdk;refine⟨⟨rfl,rfl,rfl,ZhR f.symm,λc _ a=>d c (λe=>a (by rw[e]))⟩,S.le,?_,λj h=> ?_⟩;have:=S.nb;unfold YN at this;simp[World.setCell,Zep,this,YN];exact(S.rd j h).keep (λc a=>d c a.2.2) λc a=>⟨a.1,by rw[f];exact a.2.1,a.2.2⟩
def Z3P{B:Z3}{W:Z4}{b:Nat}{g:Hp}{x:Z9}(S:NowI B W b g x):W.grownBy (((W.setCell ⟨b,3,xw⟩ (.bool xh)).setCell ⟨b,7,xw⟩ (.slice xw 0 0)).setCell ⟨b,8,xw⟩ (.slice xw 0 0)) (xk b)/\
  NowI B (((W.setCell ⟨b,3,xw⟩ (.bool xh)).setCell ⟨b,7,xw⟩ (.slice xw 0 0)).setCell ⟨b,8,xw⟩ (.slice xw 0 0)) b {g with cycle:=xh,old:=[],far:=[]} (λj=>if j=2\/j=3 then .slice xw 0 0 else x j):=by
 have d:∀c,c≠b->(((W.setCell ⟨b,3,xw⟩ (.bool xh)).setCell ⟨b,7,xw⟩ (.slice xw 0 0)).setCell ⟨b,8,xw⟩ (.slice xw 0 0)).heap[c]?=W.heap[c]? :=λc a=>by
  simp[World.setCell,Zep,ZfK a]
 have f:U (R (((W.setCell ⟨b,3,xw⟩ (.bool xh)).setCell ⟨b,7,xw⟩ (.slice xw 0 0)).setCell ⟨b,8,xw⟩ (.slice xw 0 0)))=U (R W):=Zdk;refine⟨⟨rfl,rfl,rfl,ZhR f.symm,λc _ a=>d c (λe=>a (by rw[e]))⟩,S.le,?_,λj l=> ?_⟩;have:=S.nb;unfold YN at this;simp[World.setCell,Zep,this,YN];have:j=2\/j=3\/(j≠2/\j≠3):=Z0;obtain rfl|rfl|⟨h,k⟩:=this;exact .nil _ _ Zdl;exact .nil _ _ Zdl;have n:Zv {g with cycle:=xh,old:=[],far:=[]} j=Zv g j:=by
  have:j=0\/j=1\/j=4:=Z0;obtain rfl|rfl|rfl:=this<;>rfl
 rw[n];simp only[h,k,or_self,Zeu];exact(S.rd j l).keep (λc a=>d c a.2.2) λc a=>⟨a.1,by rw[f];exact a.2.1,a.2.2⟩
def Ol(W:Z4)(B:Z3)(b:Nat)(b1:∀c,xz (xj W)<=c->B c)(g:Hp)(x:Z9)(S:NowI B W b g x)(U:g.ok)(i:Nat)(hi:g.scan=i)(e6:i<xq g.low){u:Int}(hu:g.low[i]?=xk u)(e8:¬u=0){v:Int}{g1:Hp}(hf:fwd g u=(v,g1,0))(c6:i<xq g1.low)(c7:g1.scan=i):
  Calls Sol.prog 97 #[.bool xy,.pointer (xk ⟨b,0,xw⟩)] W (Jq B W b (YW {g1 with low:=g1.low.set i v,scan:=(i:Int)+1})):=by
 obtain⟨gb,go,cap,G,c9,b6⟩:=KI (S.rd 0 Z0) hu;rw[show xq (Zv g 0)=(xq g.low) from rfl]at G;have w:=S.nb;unfold YN at w;rw[G,hi]at w;have yb:∀j,W.cell? ⟨b,j,xw⟩=(#[.int .u64 g.base,.int .i64 g.cap,.int .i64 g.to,.bool g.cycle,.int .i64 i,.slice (xk ⟨gb,go,xw⟩) (xq g.low) cap,x 1,x 2,x 3,x 4]:Array Value)[j]? :=λj=>ZdT _ _ _ _ _ _ w;have e7:=U.low;have uu:=U.lowW u (ZdO hu);have wi:=Zz ((i:Int)+1) Z0 Z0;have e0:((i:Int)< (xq g.low:Int))=True:=ZgE Z0;have hF:∀W',Below (xz (xj W)) W W'->Calls Sol.prog 33 #[.agg #[.int .u64 g.base,.int .i64 g.cap,.int .i64 g.to,.bool g.cycle,.int .i64 i,.slice (xk ⟨gb,go,xw⟩) (xq g.low) cap,x 1,x 2,x 3,x 4],.int .u64 u] W' (Qd W' (v,g1,0)):=λW' hb=>by
  have:=Oc W' (λc=>B c/\c<xz (xj W)/\c≠b) (λc f=>ZdS f.2.1 hb.size) g U x (λj N=>(S.rd j N).keep (λc f=>hb.block c f.2.1) λ_ q=>q) u uu;rw[hf]at this;unfold ZO at this;rw[G,hi]at this;exact this
 have HF:=ZdP hF;have c1:=ZdP b1;have HS:=ZdP S;have HN:=ZdP (And.intro w (And.intro G (And.intro b6 hi)));have C:=(F3 U uu);rw[hf]at C;have e1:=ZdP C;have c8:=Yf w;clear S w G b6 hi hF hf C b1;go_enter Sol.func97,Try.ntmps97;go_upto_region 6 with (go_at_call 33;refine(HF.out _ (Zef _ _)).mono ?_;rintro e w9 ⟨x9,rfl,b4,h⟩;obtain⟨a0,H,f0⟩:=Yw (h.own 0 Z0);obtain⟨J,O,f1⟩:=Yw (h.own 1 Z0);obtain⟨K,P,f2⟩:=Yw (h.own 2 Z0);obtain⟨L,Q,f3⟩:=Yw (h.own 3 Z0);obtain⟨M,R,f4⟩:=Yw (h.own 4 Z0);obtain⟨a,rfl⟩:=AM (h.own 0 Z0) f0 (by show 0<xq g1.low;omega);rw[show xq (Zv g1 0)=(xq g1.low) from rfl]at f0;unfold ZO;rw[f0,f1,f2,f3,f4];have k:=ZdP (And.intro b4 (And.intro h (And.intro f0 (And.intro f1 (And.intro f2 (And.intro f3 f4))))));clear b4 h f0 f1 f2 f3 f4);have d8:=k.out.1.size;have Z:Below (xz (xj W)) W (w9.alloc (.cells #[.int .u64 g1.base,.int .i64 g1.cap,.int .i64 g1.to,.bool g1.cycle,.int .i64 i,.slice (xk ⟨a,0,xw⟩) (xq g1.low) H,.slice J (xq (Zv g1 1)) O,.slice K (xq (Zv g1 2)) P,.slice L (xq (Zv g1 3)) Q,.slice M (xq (Zv g1 4)) R] 37)):=k.out.1.alloc d8 _;have a6:=Ze7 w9 (.cells #[.int .u64 g1.base,.int .i64 g1.cap,.int .i64 g1.to,.bool g1.cycle,.int .i64 i,.slice (xk ⟨a,0,xw⟩) (xq g1.low) H,.slice J (xq (Zv g1 1)) O,.slice K (xq (Zv g1 2)) P,.slice L (xq (Zv g1 3)) Q,.slice M (xq (Zv g1 4)) R] 37);have b0:xz (xj (w9.alloc (.cells #[.int .u64 g1.base,.int .i64 g1.cap,.int .i64 g1.to,.bool g1.cycle,.int .i64 i,.slice (xk ⟨a,0,xw⟩) (xq g1.low) H,.slice J (xq (Zv g1 1)) O,.slice K (xq (Zv g1 2)) P,.slice L (xq (Zv g1 3)) Q,.slice M (xq (Zv g1 4)) R] 37)))=xz (xj w9)+1:=Z1;have l:HOwn (xz (xj W)) (w9.alloc (.cells #[.int .u64 g1.base,.int .i64 g1.cap,.int .i64 g1.to,.bool g1.cycle,.int .i64 i,.slice (xk ⟨a,0,xw⟩) (xq g1.low) H,.slice J (xq (Zv g1 1)) O,.slice K (xq (Zv g1 2)) P,.slice L (xq (Zv g1 3)) Q,.slice M (xq (Zv g1 4)) R] 37)) g1 x9:=⟨λj N=>Wy (k.out.2.1.own j N) λc f=>ZdN w9 _ c ((k.out.2.1.own j N).lt c f).2,k.out.2.1.apart⟩;have e4:xz (xj W)<=a/\a<xz (xj w9):=(k.out.2.1.own 0 Z0).lt a (by rw[k.out.2.2.1];rfl);obtain⟨I,b2⟩:∃I,I=w9.alloc (.cells #[.int .u64 g1.base,.int .i64 g1.cap,.int .i64 g1.to,.bool g1.cycle,.int .i64 i,.slice (xk ⟨a,0,xw⟩) (xq g1.low) H,.slice J (xq (Zv g1 1)) O,.slice K (xq (Zv g1 2)) P,.slice L (xq (Zv g1 3)) Q,.slice M (xq (Zv g1 4)) R] 37):=⟨_,rfl⟩;rw[<-b2]at Z a6 b0 l⊢;clear b2;have X:=(Z.block b c8).trans HN.out.1;have y7:∀j,I.cell? ⟨xz (xj w9),j,xw⟩=(#[.int .u64 g1.base,.int .i64 g1.cap,.int .i64 g1.to,.bool g1.cycle,.int .i64 i,.slice (xk ⟨a,0,xw⟩) (xq g1.low) H,.slice J (xq (Zv g1 1)) O,.slice K (xq (Zv g1 2)) P,.slice L (xq (Zv g1 3)) Q,.slice M (xq (Zv g1 4)) R]:Array Value)[j]? :=λj=>ZdT _ _ _ _ _ _ a6;have d9:∀j,I.cell? ⟨b,j,xw⟩=(#[.int .u64 g.base,.int .i64 g.cap,.int .i64 g.to,.bool g.cycle,.int .i64 i,.slice (xk ⟨gb,go,xw⟩) (xq g.low) cap,x 1,x 2,x 3,x 4]:Array Value)[j]? :=λj=>ZdT _ _ _ _ _ _ X;have c5:∀j,I.frozen? ⟨b,j,xw⟩=xh:=λj=>Yz X;have z:=ZdP (And.intro Z (And.intro l (And.intro b0 X)));clear Z l b0 X a6;go_upto_region 7 with fail;obtain⟨d,t⟩:∃d,d=((((((((((I.setCell ⟨b,0,xw⟩ (.int .u64 g1.base)).setCell ⟨b,1,xw⟩ (.int .i64 g1.cap)).setCell ⟨b,2,xw⟩ (.int .i64 g1.to)).setCell ⟨b,3,xw⟩ (.bool g1.cycle)).setCell ⟨b,4,xw⟩ (.int .i64 i)).setCell ⟨b,5,xw⟩ (.slice (xk ⟨a,0,xw⟩) (xq g1.low) H)).setCell ⟨b,6,xw⟩ (.slice J (xq (Zv g1 1)) O)).setCell ⟨b,7,xw⟩ (.slice K (xq (Zv g1 2)) P)).setCell ⟨b,8,xw⟩ (.slice L (xq (Zv g1 3)) Q)).setCell ⟨b,9,xw⟩ (.slice M (xq (Zv g1 4)) R)):=⟨_,rfl⟩;rw[<-t];have a7:d.heap[b]?=xk (.cells #[.int .u64 g1.base,.int .i64 g1.cap,.int .i64 g1.to,.bool g1.cycle,.int .i64 i,.slice (xk ⟨a,0,xw⟩) (xq g1.low) H,.slice J (xq (Zv g1 1)) O,.slice K (xq (Zv g1 2)) P,.slice L (xq (Zv g1 3)) Q,.slice M (xq (Zv g1 4)) R] 37 (0,0)):=by rw[t];exact Z5i z.out.2.2.2 _ _ _ _ _ _ _ _ _ _
 have p:∀c,c≠b->d.heap[c]?=I.heap[c]? :=λc f=>by rw[t];exact Kz f _ _ _ _ _ _ _ _ _ _
 have b9:xz (xj d)=xz (xj I):=by rw[t];simp[World.setCell]
 have Y:Below 0 I d:=by rw[t];exact VY (Zef _ _) (ZeQ _) _ _ _ _ _ _ _ _ _ _
 have a5:I.grownBy d (xk b):=⟨Y.os,Y.tape,Y.output,Y.size,λc _ f=>p c (λe=>f (by rw[e]))⟩;clear t;have n:HOwn (xz (xj W)) d g1 x9:=⟨λj N=>Wy (z.out.2.1.own j N) λc f=>p c (by have:=((z.out.2.1.own j N).lt c f).1;omega),z.out.2.1.apart⟩;have F:=n.own 0 Z0;rw[k.out.2.2.1,show xq (Zv g1 0)=(xq g1.low) from rfl]at F;obtain⟨z0,b8⟩:∃z0,g1.low[i]?=xk z0:=⟨_,ZdG c6⟩;have ec:d.cell? ⟨a,i,xw⟩=xk (.int .u64 z0):=by
  rw[F.cellAt i Z0];simp[YO,Zv,b8]
 have ef:d.frozen? ⟨a,i,xw⟩=xh:=F.frozenAt i;have y3:∀j,d.cell? ⟨b,j,xw⟩=(#[.int .u64 g1.base,.int .i64 g1.cap,.int .i64 g1.to,.bool g1.cycle,.int .i64 i,.slice (xk ⟨a,0,xw⟩) (xq g1.low) H,.slice J (xq (Zv g1 1)) O,.slice K (xq (Zv g1 2)) P,.slice L (xq (Zv g1 3)) Q,.slice M (xq (Zv g1 4)) R]:Array Value)[j]? :=λj=>ZdT _ _ _ _ _ _ a7;have e5:((i:Int)< (xq g1.low:Int))=True:=ZgE Z0;have A:=ZdP (And.intro a7 (And.intro p (And.intro b9 (And.intro a5 (And.intro n F)))));clear a7 p b9 a5 n F y7 d9 c5 b8;go_upto_region 8 with fail;have b5:a≠b:=Z0;obtain⟨a9,d6⟩:=A.out.2.2.2.2.2.stored i (.int .u64 v);have r:∀c,c≠a->(d.setCell ⟨a,i,xw⟩ (.int .u64 v)).heap[c]?=d.heap[c]? :=λc f=>Ze5 _ _ _ _ f;have c0:xz (xj (d.setCell ⟨a,i,xw⟩ (.int .u64 v)))=xz (xj d):=Zdk;have D:=(r b (ZfK b5)).trans A.out.1;have S4:NowI B (d.setCell ⟨a,i,xw⟩ (.int .u64 v)) b {g1 with low:=g1.low.set i v} x9:=by
  refine⟨HS.out.le,?_,λj N=> ?_⟩;rw[D];unfold YN;rw[k.out.2.2.1,k.out.2.2.2.1,k.out.2.2.2.2.1,k.out.2.2.2.2.2.1,k.out.2.2.2.2.2.2];simp only[c7];have b7:∀c,xz (xj W)<=c->c< xz (xj (d.setCell ⟨a,i,xw⟩ (.int .u64 v)))->B c/\c< xz (xj (d.setCell ⟨a,i,xw⟩ (.int .u64 v)))/\c≠b:=λc h1 h2=>⟨c1.out c h1,h2,Z0⟩;by_cases e:j=0;subst e;have hn:YO .u64 (g1.low.set i v)=(YO .u64 (Zv g1 0)).set i (.int .u64 v):=AB _ _ _ _;rw[<-hn]at a9;show Rd _ _ (.sl ((g1.low.set i v).map vu)) (x9 0);rw[k.out.2.2.1];have d5:xq g1.low=xq (g1.low.set i v):=by rw[Zgx]
  have d7:(d.setCell ⟨a,i,xw⟩ (.int .u64 v)).ownsRow (xz (xj W)) 24 1 (.slice (xk ⟨a,0,xw⟩) (xq g1.low) H) (xq (g1.low.set i v)) (YO .u64 (g1.low.set i v)):=by rw[<-d5];exact a9
  exact yf d7 b7;have d0:Zv {g1 with low:=g1.low.set i v} j=Zv g1 j:=by
   have:j=1\/j=2\/j=3\/j=4:=Z0;obtain rfl|rfl|rfl|rfl:=this<;>rfl
  rw[d0];refine yf (Wy (A.out.2.2.2.2.1.own j N) λc f=>r c λe2=> ?_) b7;exact A.out.2.2.2.2.1.apart 0 j Z0 N c (by rw[e2,k.out.2.2.1];rfl) f
 have G4:W.grownBy (d.setCell ⟨a,i,xw⟩ (.int .u64 v)) (xk b):=by
  have g2:=Uz z.out.1 (xk b);have g3:=TC g2 A.out.2.2.2.1;refine⟨g3.os,g3.tape,g3.output,by rw[c0];exact g3.size,λc f hn=> ?_⟩;rw[r c Z0];exact g3.block c f hn
 obtain⟨W4,b3⟩:∃W4,W4=d.setCell ⟨a,i,xw⟩ (.int .u64 v):=⟨_,rfl⟩;rw[<-b3]at S4 G4 D⊢;clear b3 r c0 a9 d6;have y4:∀j,W4.cell? ⟨b,j,xw⟩=(#[.int .u64 g1.base,.int .i64 g1.cap,.int .i64 g1.to,.bool g1.cycle,.int .i64 i,.slice (xk ⟨a,0,xw⟩) (xq g1.low) H,.slice J (xq (Zv g1 1)) O,.slice K (xq (Zv g1 2)) P,.slice L (xq (Zv g1 3)) Q,.slice M (xq (Zv g1 4)) R]:Array Value)[j]? :=λj=>ZdT _ _ _ _ _ _ D;have e3:∀j,W4.frozen? ⟨b,j,xw⟩=xh:=λj=>Yz D;have T:=ZdP (And.intro S4 G4);clear S4 G4 D ec ef y3;by_cases o:i+1=xq g1.low
 .have a8:((i:Int)+1==(xq g1.low:Int))=xy:=ZcL;have y:=ZdP o;clear o;go_wp2;refine Zey (v:=.int .i64 0) Zdh rfl ?_;have he:YW {g1 with low:=g1.low.set i v,scan:=(i:Int)+1}= {g1 with low:=g1.low.set i v,scan:=(i:Int)+1,cycle:=xh,old:=[],far:=[]}:=by
   unfold YW;rw[if_pos (by show(i:Int)+1=(xq (g1.low.set i v):Int);rw[Zgx];have:=y.out;omega)]
  rw[he];obtain⟨p1,p2⟩:=GV T.out.1 ((i:Int)+1);obtain⟨p3,p4⟩:=Z3P p2;exact⟨rfl,TC (TC T.out.2 p1) p3,_,p4⟩
 .have a8:((i:Int)+1==(xq g1.low:Int))=xh:=ZcL;have y:=ZdP o;clear o;go_wp2;refine Zey (v:=.int .i64 0) Zdh rfl ?_;have he:YW {g1 with low:=g1.low.set i v,scan:=(i:Int)+1}= {g1 with low:=g1.low.set i v,scan:=(i:Int)+1}:=by
   unfold YW;rw[if_neg (by show ¬(i:Int)+1=(xq (g1.low.set i v):Int);rw[Zgx];have:=y.out;omega)]
  rw[he];obtain⟨p1,p2⟩:=GV T.out.1 ((i:Int)+1);exact⟨rfl,TC T.out.2 p1,_,p2⟩
def Z6E{g:Hp}{p:Pts}(r:Rt g p){i:Nat}(B:g.scan=i)(w:WC p.low i=xy){u:Int}(x:g.low[i]?=xk u):Gos g p u 1 2\/Gos g p u 3 4:=by
 obtain⟨o,d,z,A⟩:=Rz.1 w;obtain⟨a,n,m,f,y,em,l,_,t⟩:=r.toTld.ob (k:=1) Z0 d;have q:o.gone=xh:=(r.tiles 1 Z0).no_gone o d;obtain⟨j,h⟩:∃j,i=a+1+j:=⟨i-a-1,Z0⟩;have:=r.ptr 1 Z0 o d q j Z0 u (by rw[f,ZdW,<-h];exact x);unfold Wh at this;rw[if_neg Z0,if_pos ⟨rfl,by rw[f,ZdW,<-h];omega⟩]at this;exact this
def Z6O{l:Z8}{i:Nat}{u:Int}(h:l[i]?=xk u):l.set i u=l:=by
 apply ZfF;intro j;rw[List.getElem?_set];by_cases e:i=j;subst e;rw[if_pos rfl,h,if_pos (ZdH.1 h).1];rw[if_neg e]
def Oj(W:Z4)(B:Z3)(b:Nat)(n:∀c,U (R W)<=c->B c)(g:Hp)(x:Z9)(S:NowI B W b g x)(h:g.ok){p:Pts}(r:Rt g p)(hc:g.cycle=xy):
  Calls Sol.prog 97 #[.bool (WC p.low g.scan),.pointer (xk ⟨b,0,xw⟩)] W (Jq B W b (Ws g)):=by
 obtain⟨i,a⟩:=ZdV r.scan0;have d:i<P g.low:=by have:=r.cyc hc;omega
 have w:=r.walk;obtain⟨u,j⟩:∃u,g.low[i]?=xk u:=⟨_,ZdG d⟩;have o:(g.low[g.scan.toNat]?).getD 0=u:=by rw[a,ZdW,j];rfl
 cases q:WC p.low g.scan with
 |false=>
  have l:Ws g=YW {g with scan:=(i:Int)+1}:=by
   unfold Ws;rw[w,if_neg (by rw[q];simp),a]
  rw[l];exact D0 W B b g x S h i a d xh (.inl rfl)
 |true=>
  have l:Ws g=YW {(fwd g u).2.1 with low:=(fwd g u).2.1.low.set i (fwd g u).1,scan:=(i:Int)+1}:=by
   unfold Ws;rw[w,if_pos q,o,a,ZdW]
  by_cases k:u=0;subst k;have:Ws g=YW {g with scan:=(i:Int)+1}:=by
   rw[l,F2 r.lay];simp only;rw[Z6O j]
  rw[this];exact D0 W B b g x S h i a d xy (.inr j);obtain⟨v,g1,y,f⟩:=r.toBody.forward r.scanL (Z6E r a (by rw[<-a];exact q) j);rw[l,f.fwd];obtain⟨z,t⟩:=f.ext.low;exact Ol W B b n g x S h i a d j k f.fwd (by rw[t,Zes];omega) (by rw[f.ext.scan];exact a)
section
def D7{α:Type}(F:Fence)(n:Nat)(P:Z5)(g:Nat)(lb:Za)(d:α->Array Value)(o:World->World->Prop)(p:List α->α->World->Prop)(S:List α->World->Prop)(N:Nat)(k:List α->World->Prop)(w:Z4):Prop:=
 ∀(l:Nat) (J h:List α->World->Prop) (W:Z4),Below (U (R w)) w W->(∀pre W,J pre W->k pre W)->AbidesFrom (U (R W)) J->AbidesFrom (U (R W)) h->
  (∀pre x f,J pre f->p pre x f->xq pre<N->YieldAt F (n-1) P l (d x) f λe a=>
   (e=.returned (.bool xy)/\J (pre++[x]) a/\o f a)\/(e=.returned (.bool xh)/\h (pre++[x]) a))->
  J [] W->
  CallsIn F n P g (#[.func (.yield l) #[] #[]]++lb) W λe a=>(∃v,e=.returned v)/\((∃j,S j a/\J j a)\/(∃pre,h pre a))
variable {F:Fence}{n:Nat}{P:Z5}
def Z8b{α:Type}{g:Operand}{ps:Array Tmp}{assign body:Code}{Q:Zh}{a:Act}{w:Z4}
  (c8:F.round=xw) (h1:1<=n) {gf:Nat} {lb:Za} (hg:a.eval g=.func (.func gf) #[] lb) (b2:F.fn gf) (eg:∀args w,(callFunc gf args).run P w=.ok (.enter gf args) w)
  {L:α->Array Value} {Y:World->World->Prop} {Px:List α->α->World->Prop} {S:List α->World->Prop} {N:Nat} {Ex:List α->World->Prop} {w0:Z4} (b0:D7 F (n-1) P gf lb L Y Px S N Ex w0)
  (a4:∀ {A B C:Z4},Y A B->Y B C->Y A C) (a2:∀(W:Z4) (l:Nat) (o o':Obj),xz (xj w)<=l->W.heap[l]?=xk o->o.isCells=xh->o.isWalk=xh->Y W (W.putObj l o')) (a5:Below (xz (xj w0)) w0 w) (c6:∀x,(L x).size=ps.size)
  (I:List α->World->Prop) (Ix:Code->List α->World->Prop) (hI:OwnFrom (xz (xj w)) I) (b1:∀pre W,I pre W->Ex pre W) (T:∀c,OwnFrom (xz (xj w)) (Ix c)) (b6:∀pre x,OwnFrom (xz (xj w)) (λ(_:Unit) W=>Px pre x W)) (hS:OwnFrom (xz (xj w)) S) (h0:I [] w) (a₁:α->Act)
  (U:∀(l:Nat) (x:α) (W:Z4) (K:Act->World->Prop),K (a₁ x) W->
   assign.wpIn (F.inRound l) (n-1-1) P (Exit.then K (λ_ _ _=>False)) {tmps:=(ps.zip (L x)).foldl (λt (p,v)=>t.setIfInBounds p v) a.tmps,defers:=[]} W)
  (Z:∀(l:Nat) (pre:List α) (x:α) (W:Z4),I pre W->Px pre x W->xq pre<N->body.wpIn (F.inRound l) (n-1-1) P (ownPostG (xz (xj w)) Y I Ix (pre++[x]) W) (a₁ x) W)
  (a0:∀(D:Nat) (xs:List α) (W:Z4),xz (xj w)<=D->S xs W->I xs W->W.heap[D]?=xk (.deferred (xk []))->Q .normal {a with defers:= {target:=.collected D,args:=#[]}::a.defers} W)
  (a1:∀(D:Nat) (c:Code) (pre:List α) (W:Z4),xz (xj w)<=D->Ix c pre W->W.heap[D]?=xk (.deferred (xk []))->c.wpIn F n P Q {a with defers:= {target:=.collected D,args:=#[]}::a.defers} W):
  (Code.rangeFunc g ps assign body).wpIn F n P Q a w:=by
 refine wpIn_rangeFunc λfn b9=> ?_;rw[c8];obtain⟨f,j⟩:∃f:LoopState->Option Code->Loop,f=λst pe=> {state:=st,pending:=pe,fn,tmps:=a.tmps,params:=ps,assign,body,defers:=xz (xj w)}:=⟨_,rfl⟩;obtain⟨R,M⟩:∃R,(w.alloc (.deferred (xk []))).alloc (.loop (f .ready xw))=R:=⟨_,rfl⟩;have b5:R.heap[xz (xj w)+1]?=xk (.loop (f .ready xw)):=by
  have:=ZeY (w.alloc (.deferred (xk []))) (.loop (f .ready xw));rw[Zg3]at this;rw[<-M];exact this
 have b4:R.heap[xz (xj w)]?=xk (.deferred (xk [])):=by
  rw[<-M];exact(ZdN _ _ _ Z1).trans (ZeY w _)
 have b3:I [] R:=by rw[<-M];exact hI.alloc _ (hI.alloc _ h0)
 have b8:Below (xz (xj w0)) w0 R:=by
  rw[<-M];exact a5.trans ((((Zef _ w).alloc (ZdL _) _).alloc Z1 _).mono a5.size)
 refine⟨xz (xj w)+1,[{target:=.collected (xz (xj w)),args:=#[]}],R,{target:=.fn (.func gf) lb,args:=#[.func (.yield (xz (xj w)+1)) #[] #[]]},R,gf,
  #[.func (.yield (xz (xj w)+1)) #[] #[]]++lb,R,?_,?_,?_,?_,λ_=>h1,?_⟩
 rw[<-M,j];exact run_enterLoop_outer _ _ _ _ _
 .simp only[resolve,hg];simp[go_sem]
 intro f' a6;simp[Target.leads]at a6;subst a6;exact b2
 .simp[invoke,go_sem,eg]
 have a9:∀ {A B:Z4} {row:ZcI},(∀r,row=xk r->xz (xj R)<=r/\∃o:Obj,A.heap[r]?=xk o/\o.isWalk=xy)->(∀r,row=xk r->xz (xj w)<=r/\∃o:Obj,A.heap[r]?=xk o/\o.isCells=xh):=
  λu r e=>by obtain⟨hB,o,ho,hw⟩:=u r e;exact⟨by rw[<-M]at hB;simp at hB;omega,o,ho,Obj.not_cells_of_walk hw⟩
 refine(b0 (xz (xj w)+1)
  (λpre W=>I pre W/\W.heap[xz (xj w)+1]?=xk (.loop (f .ready xw))/\W.heap[xz (xj w)]?=xk (.deferred (xk [])))
  (λpre W=>∃c,Ix c pre W/\W.heap[xz (xj w)+1]?=xk (.loop (f .done (xk c)))/\W.heap[xz (xj w)]?=xk (.deferred (xk [])))
  R b8 (λpre W h=>b1 pre W h.1)
  (λs A B row hs z u=>⟨hI s A B row hs.1 z (a9 (B:=B) u),(Zhv z (λr e=>(u r e).2) hs.2.1 rfl).trans hs.2.1,(Zhv z (λr e=>(u r e).2) hs.2.2 rfl).trans hs.2.2⟩)
  (λs A B row hs z u=>by
   obtain⟨c,hc,y,X⟩:=hs;exact⟨c,T c s A B row hc z (a9 (B:=B) u),(Zhv z (λr e=>(u r e).2) y rfl).trans y,(Zhv z (λr e=>(u r e).2) X rfl).trans X⟩)
  ?_ ⟨b3,b5,b4⟩).mono ?_
 rintro pre x W ⟨hi,y,X⟩ c7 a8;have c5:xz (xj w)+1<xz (xj W):=(ZdM.1 y).1;have hy:=run_yield (P:=P) (args:=L x) y (by rw[j];exact c6 x);rw[j]at hy;refine⟨fn,_,assign,body,hy,roundIn_of_wpIn b9 (U _ x W _ ⟨_,run_beginRound y (by rw[j]),?_⟩)⟩;have c1:(W.putObj (xz (xj w)+1) (.loop {f .ready xw with state:=.busy})).heap[xz (xj w)+1]?=xk (.loop {f .ready xw with state:=.busy}):=Zg7 c5;have c0:(W.putObj (xz (xj w)+1) (.loop {f .ready xw with state:=.busy})).heap[xz (xj w)]?=xk (.deferred (xk [])):=(Zen Z0).trans X;have c9:Y W (W.putObj (xz (xj w)+1) (.loop {f .ready xw with state:=.busy})):=a2 _ _ _ _ Z0 y rfl rfl;refine wpIn_mono (Z _ pre x _ (hI.putObj _ hi Z0 y rfl) ((b6 pre x).putObj (s:=()) _ c7 Z0 y rfl) a8) ?_
 have fin:∀(d:Option Code) (O:Z4),KeepsFrom (xz (xj w)) (W.putObj (xz (xj w)+1) (.loop {f .ready xw with state:=.busy})) O->
   (Instr.endRound (xz (xj w)+1) d).run P O=.ok (.bool d.isNone) (O.putObj (xz (xj w)+1) (.loop (f (if d.isNone then .ready else .done) d)))/\
   O.heap[xz (xj w)+1]?=xk (.loop {f .ready xw with state:=.busy})/\
   (O.putObj (xz (xj w)+1) (.loop (f (if d.isNone then .ready else .done) d))).heap[xz (xj w)+1]?=xk (.loop (f (if d.isNone then .ready else .done) d))/\
   (O.putObj (xz (xj w)+1) (.loop (f (if d.isNone then .ready else .done) d))).heap[xz (xj w)]?=xk (.deferred (xk [])):=λd O q=>by
  have k:=q.same _ _ Z0 c1 rfl;have:=run_endRound (P:=P) d k;rw[j]at this⊢;exact⟨this,by rw[j]at k;exact k,Zg7 (ZdM.1 k).1,(Zen Z0).trans (q.same _ _ (ZdL _) c0 rfl)⟩
 rintro e a3 O hp;cases e with
 |normal=>
  obtain⟨q,a7,G⟩:=hp;obtain⟨u,k,J,H⟩:=fin xw O q;exact⟨_,_,u,.inl ⟨rfl,⟨hI.putObj _ G Z0 k rfl,J,H⟩,a4 (a4 c9 a7) (a2 _ _ _ _ Z0 k rfl rfl)⟩⟩
 |ret=>
  obtain⟨q,G⟩:=hp;obtain⟨u,k,J,H⟩:=fin (xk .ret) O q;exact⟨_,_,u,.inr ⟨rfl,.ret,(T _).putObj _ G Z0 k rfl,J,H⟩⟩
 |exit id=>
  obtain⟨q,G⟩:=hp;obtain⟨u,k,J,H⟩:=fin (xk (.exit id)) O q;exact⟨_,_,u,.inr ⟨rfl,.exit id,(T _).putObj _ G Z0 k rfl,J,H⟩⟩
 |goto t=>
  obtain⟨q,G⟩:=hp;obtain⟨u,k,J,H⟩:=fin (xk (.goto t)) O q;exact⟨_,_,u,.inr ⟨rfl,.goto t,(T _).putObj _ G Z0 k rfl,J,H⟩⟩
 |panic ch=>exact hp.elim
 |outgrown=>exact hp.elim
 rintro e W2 ⟨⟨v,rfl⟩,(⟨xs,b7,hi,y,X⟩|⟨pre,c,hi,y,X⟩)⟩;exact⟨xw,_,by have:=run_endLoop (P:=P) y (by rw[j];simp);rw[j]at this;exact this,a0 _ xs _ (ZdL _) (hS.putObj _ b7 Z0 y rfl) (hI.putObj _ hi Z0 y rfl) ((Zen Z0).trans X)⟩;exact⟨xk c,_,by have:=run_endLoop (P:=P) y (by rw[j];simp);rw[j]at this;exact this,a1 _ c pre _ (ZdL _) ((T c).putObj _ hi Z0 y rfl) ((Zen Z0).trans X)⟩
end
def Z5y{W:Z4}{G G':Z3}{l j:Z8}{y:Ze}(h:Rd W G (.sl (l.map vu)) y)(h':Rd W G' (.sl (j.map vu)) y):l=j:=by
 obtain⟨a,c,e⟩:=Rd.slfT h;obtain⟨x,A,n⟩:=Rd.slfT h';have C:P l=P j:=by rw[e]at n;simp at n;exact n.2.1
 apply ZfF;intro k;cases p:l[k]? with
 |none=>rw[ZfV]at p;rw[ZeJ Z0]
 |some u=>
  have B:=(ZdH.1 p).1;obtain⟨r,g⟩:∃r,j[k]?=xk r:=⟨_,ZdG Z0⟩;obtain⟨b,o,cap,w,t,_⟩:=KI h p;obtain⟨z,D,q,d,f,_⟩:=KI h' g;rw[w]at d;simp at d;obtain⟨⟨rfl,rfl⟩,_,_⟩:=d;rw[t]at f;cases f;exact g.symm
def Z5r{W j:Z4}{B:Z3}{b:Nat}{row:ZcI}{l:Z8}{y:Ze}(h:Rd W (λc=>B c/\c<U (R W)/\c≠b) (.sl (l.map vu)) y)(n:W.grownBy j row)(G:∀r,row=xk r->∃o:Obj,W.heap[r]?=xk o/\o.isCells=xh):
  Rd j (λc=>B c/\c<U (R j)/\c≠b) (.sl (l.map vu)) y:=by
 generalize C:l.map vu=L at h⊢;cases h with
 |nil a cap f=>exact .nil a cap f
 |sl _ d o cap k vs q t g w x z=>
  refine .sl _ d o cap k vs q t ⟨g.1,ZdS g.2.1 n.size,g.2.2⟩ w (λi D=> ?_) (λi c f=> ?_);have f:=x i D;rw[<-f];refine ZeC (a:=⟨d,o+i,xw⟩) (n.block d g.2.1 λe=> ?_);obtain⟨H,F,I⟩:=G d e.symm;unfold World.cell? at f;rw[F]at f;cases H<;>simp_all [Obj.isCells];have A:=z i c f;rw[<-C,LT,Ze1]at f;cases p:l[i]? with
  |none=>rw[p]at f;cases f
  |some u=>
   rw[p]at f;cases f;rw[SP A];exact .int _ _
def NowI.abide{B:Z3}{W a:Z4}{b:Nat}{g:Hp}{x:Z9}{row:ZcI}(S:NowI B W b g x)(d:W.grownBy a row)(h:∀r,row=xk r->∃o:Obj,W.heap[r]?=xk o/\o.isCells=xh):NowI B a b g x:=
 ⟨S.le,(d.block b (Yf S.nb) λe=>by obtain⟨o,f,l⟩:=h b e.symm;rw[S.nb]at f;cases f;cases l).trans S.nb,λj k=>Z5r (S.rd j k) d h⟩
def NowI.uniq{B B':Z3}{W:Z4}{b:Nat}{g g':Hp}{x h:Z9}(S:NowI B W b g x)(a:NowI B' W b g' h):g'=g:=by
 have e:=S.nb.symm.trans a.nb;unfold YN at e;simp at e;obtain⟨n,o,p,r,t,u,w,y,z,A⟩:=e;have q:∀j,j<5->Zv g' j=Zv g j:=λj f=>by
  have d:=S.rd j f;have l:=a.rd j f;have k:x j=h j:=by
   have:j=0\/j=1\/j=2\/j=3\/j=4:=Z0;obtain rfl|rfl|rfl|rfl|rfl:=this<;>assumption
  rw[k]at d;exact Z5y l d
 have C:=q 0 Z0;have D:=q 1 Z0;have F:=q 2 Z0;have G:=q 3 Z0;have H:=q 4 Z0;cases g;cases g';simp[Zv]at*;simp_all
def InBox(B:Z3)(b:Nat)(p:Pts)(W:Z4):Prop:=∃g x,NowI B W b g x/\g.ok/\Rt g p
def InBox.abide{B:Z3}{W a:Z4}{b:Nat}{p:Pts}{row:ZcI}(S:InBox B b p W)(j:W.grownBy a row)(k:∀r,row=xk r->∃o:Obj,W.heap[r]?=xk o/\o.isCells=xh):InBox B b p a:=by
 obtain⟨g,x,d,f,h⟩:=S;exact⟨g,x,d.abide j k,f,h⟩
def InBox.low{B B':Z3}{W:Z4}{b:Nat}{p f:Pts}(S:InBox B b p W)(h:InBox B' b f W):f.low=p.low:=by
 obtain⟨g,x,j,o,l⟩:=S;obtain⟨n,q,a,k,d⟩:=h;have:=j.uniq a;subst this;exact Tiles.uniq0 (l.tiles 1 Z0) (d.tiles 1 Z0)
structure KpN (B:Nat->Prop) (b kb:Nat) (A C:World):Prop where
 size:U (R A)<=U (R C)
 same:∀(c:Nat) (o:Obj),A.heap[c]?=xk o->o.isCells=xy->c≠b->c≠kb->C.heap[c]?=xk o
 low:∀p,InBox B b p A->∃q r,InBox B b q C/\q.low=p.low++r
theorem KpN.trans{B:Z3}{b kb:Nat}{X Y Z:Z4}(h:KpN B b kb X Y)(k:KpN B b kb Y Z):KpN B b kb X Z:=
 ⟨Zeh h.size k.size,λc o d a f g=>k.same c o (h.same c o d a f g) a f g,λp j=>by
  obtain⟨q,r,d,a⟩:=h.low p j;obtain⟨s,t,k1,l⟩:=k.low q d;exact⟨s,r++t,k1,by rw[l,a,Zew]⟩⟩
theorem KpN.put{B:Z3}{b kb:Nat}{W:Z4}{l:Nat}{o:Obj}(j:Obj)(g:W.heap[l]?=xk o)(h:o.isCells=xh):KpN B b kb W (W.putObj l j):=by
 have f:=Zgd W l j;have n:∀r,xk l=xk r->∃o:Obj,W.heap[r]?=xk o/\o.isCells=xh:=λr e=>by cases e;exact⟨o,g,h⟩
 refine⟨f.size,λc q a d _ _=>(Zen (λe=> ?_)).trans a,λp k=>⟨p,[],k.abide f n,Z1⟩⟩;subst e;rw[g]at a;cases a;rw[h]at d;cases d
def Z2z{ws:Z8}{l:Zj}(t:Tiles ws xh 0 l){o:Ob}(a:o∈l){i:Int}(g:o.at_<=i)(h2:i<=o.at_+o.size):WC l i=(decide (o.at_<i)&&decide (i<=o.at_+o.ptrs)):=by
 rw[Zh4,Rz];simp only[ZdJ,Ze2];constructor;rintro⟨x,d,k1,f⟩;have j:=Yv.1 (t.stands x d).1.shape;obtain e|e|e:=t.apart x d o a;subst e;exact⟨k1,f⟩;omega;omega;exactλh=>⟨o,a,h⟩
def jZ(x:Nat×Bool):Array Value:=#[.int .i64 (x.1:Nat),.bool x.2]
def D3(B:Z3)(b:Nat)(pre:List (Nat×Bool))(x:Nat×Bool)(W:Z4):Prop:=∃p,InBox B b p W/\x=(P pre,WC p.low (P pre))
def SN(B:Z3)(b:Nat)(xs:List (Nat×Bool))(W:Z4):Prop:=∃g x,NowI B W b g x/\P g.low<=P xs
structure KnI (B:Nat->Prop) (b bk:Nat) (q:Pts) (W:World):Prop where
 bx:W.heap[bk]?=xk (.cells #[.pointer (xk ⟨b,0,xw⟩)] 164 (0,0))
 inb:InBox B b q W
def KnI.grown{B:Z3}{b bk:Nat}{q:Pts}{W a:Z4}(h:KnI B b bk q W)(d:W.grownBy a xw):KnI B b bk q a:=
 ⟨(d.block _ (Yf h.bx) Z1).trans h.bx,h.inb.abide d (λr e=>by cases e)⟩
end Vm
end
section
namespace Vm
open Go Go.Proofs Go.RowKit Go.Shelf
def Z2F(n:Nat){w:Z4}{B:Z3}{b bk kb:Nat}{p0:Pts}(hI:KnI B b bk p0 w)(a5:bk≠b)(I:bk≠kb)(hb:b<xz (xj w))(f1:kb<xz (xj w)):
  D7 Fence.wide n Sol.prog 115 #[.pointer (xk ⟨bk,0,xw⟩)] jZ (KpN B b kb) (D3 B b) (SN B b) 1000001 (λ_ _=>True) w:=by
 intro l J Jx W hW _ hJ e9 hY h0;refine callsIn_of_wp Sol.func115 rfl trivial ?_ rfl;simp only[Try.ntmps115,ZeW,Zf2,Zfg,Nat.reduceAdd,Nat.reduceSub,Zfy,Zfz,ZfZ,ZfG,ZeA,ZeT];have d5:=ZdP (hI.grown (Uz hW xw));have e8:=hW.size;have d6:=ZdP h0;have e3:∀ {A:Z4},xz (xj w)<=xz (xj A)->xz (xj A)≠b/\xz (xj A)≠kb:=λh=>⟨Z0,Z0⟩;clear h0;gi_wp2
 gi_loopw [3] (λp wr=>∃(a:Nat),p=.int .i64 a/\Hid (∃(pre:List (Nat×Bool)) (q:Pts) (n:Nat),J pre wr/\KnI B b bk q wr/\xz (xj W)<=xz (xj wr)/\n<=xq q.low/\a=Um (q.low.take n)/\xq pre=a))
  (λp _=>1000001- (intOf p).toNat)
 case atStart=>exact⟨0,rfl,ZdP ⟨[],p0,0,d6.out,d5.out,ZdL _,Z0,rfl,rfl⟩⟩
 case round=>
  obtain⟨a,rfl,HI⟩:=hrel;obtain⟨pre,q,n1,T,U,b6,e4,a4,b5⟩:=HI.out;obtain⟨g,x,S,b0,r⟩:=U.inb;obtain⟨sa,sc,a2⟩:=Rd.slfT (S.rd 0 Z0);rw[Zek,show xq (Zv g 0)=(xq g.low) from rfl]at a2;have M:=S.nb;unfold YN at M;rw[a2]at M;have y0:wr.cell? ⟨bk,0,xw⟩=xk (.pointer (xk ⟨b,0,xw⟩)):=by rw[ZdT _ _ _ _ _ _ U.bx];rfl
  have yb:∀j,wr.cell? ⟨b,j,xw⟩=(#[.int .u64 g.base,.int .i64 g.cap,.int .i64 g.to,.bool g.cycle,.int .i64 g.scan,.slice sa (xq g.low) sc,x 1,x 2,x 3,x 4]:Array Value)[j]? :=λj=>ZdT _ _ _ _ _ _ M;have t1:=r.tiles 1 Z0;simp only[Vz,Pts.at1]at t1;have b3:=b0.low;have b9:=t1.sum (ZeQ _);by_cases f2:a<xq g.low
  .have b4:((a:Int)< (xq g.low:Int))=True:=ZgE Z0;obtain⟨o,ho⟩:∃o,q.low[n1]?=xk o:=by
    refine⟨_,ZdG (Nat.lt_of_le_of_ne e4 λe=> ?_)⟩;rw[e,Zfa]at a4;omega
   have Y:=t1.place ho;rw[Zet,<-a4]at Y;have Z:=ZdO ho;have a1:=(t1.stands o Z).1;have b8:=Yv.1 a1.shape;have L:=t1.no_gone o Z;have K:=a1.fits;obtain⟨u,hu,O⟩:=a1.word;rw[L,if_neg Z1]at O;replace O:=O.2.1;rw[Y,ZdW]at hu;have c0:=b0.lowW u (ZdO hu);obtain⟨gb,go,cap,a3,d8,d9⟩:=KI (S.rd 0 Z0) hu;rw[a2]at a3;rw[show xq (Zv g 0)=(xq g.low) from rfl]at a3;simp only[Value.slice.injEq,true_and]at a3;obtain⟨rfl,rfl⟩:=a3;have N:=Je c0;rw[O]at N;obtain⟨m,hm⟩:∃m:Nat,o.size=m:=⟨o.size.toNat,Z0⟩;obtain⟨pt,a6⟩:∃pt:Nat,o.ptrs=pt:=⟨o.ptrs.toNat,Z0⟩;rw[hm]at N K b8;rw[a6]at N b8;have d7:=ZdP N;have HO:=ZdP (And.intro Z (And.intro Y (And.intro hm (And.intro a6 (And.intro t1 (And.intro ho (And.intro b5 b6)))))));have a8:=ZdP K;have a9:=ZdP (And.intro T U);have c9:=ZdP b3;have q1:IntKind.i64.wrap ((m:Int)+1)=((m+1:Nat):Int):=ZcX;clear N M t1 Z Y O hu c0 a2 d9 hm a6 K ho a1 L a4 b9 S r T U b5 b6 b3;gi_wp2
   refine⟨trivial,λh=>ZcZ,(ZfQ.2 (d7.out _)).mono ?_⟩;rintro e w1 ⟨rfl,b1⟩;have a7:=ZdP b1;clear b1;gi_wp2
   have f4:=a7.out.size;have X:wr.grownBy (w1.alloc (.cells #[.int .i64 m,.int .i64 pt] 52)) xw:=TC (Uz a7.out xw) (Zf4 _ _ _);have HA:=ZdP (And.intro (hJ _ _ _ _ a9.out.1 X (λr e=>by cases e)) (And.intro (a9.out.2.grown X) (And.intro (Ze7 w1 (.cells #[.int .i64 m,.int .i64 pt] 52)) X.size)));have hT:xz (xj W)<=xz (xj w1):=by have:=HO.out.2.2.2.2.2.2.2;omega
   have C:=e3 (A:=w1) Z0;have f0:xz (xj W)<=xz (xj (w1.alloc (.cells #[.int .i64 m,.int .i64 pt] 52))):=ZcL;clear X;generalize f3:w1.alloc (.cells #[.int .i64 m,.int .i64 pt] 52)=w2 at*;have c8:=a8.out;have e7:=c9.out;gi_loopw [30] (λiv wi=>∃i:Nat,iv=.int .i64 i/\Hid (∃(f:List (Nat×Bool)) (P:Pts) (r':Zj),J f wi/\KnI B b bk P wi/\xz (xj w2)<=xz (xj wi)/\P.low=q.low++r'/\xq f=a+i/\i<=m+1/\wi.heap[xz (xj w1)]?=xk (.cells #[.int .i64 m,.int .i64 pt] 52 (0,0)))) (λiv _=>m+1- (intOf iv).toNat)
   case atStart=>exact⟨0,rfl,ZdP ⟨pre,q,[],HA.out.1,HA.out.2.1,ZdL _,Z1,by have:=HO.out.2.2.2.2.2.2.1;omega,Z0,HA.out.2.2.1⟩⟩
   case round=>
    obtain⟨i,rfl,HJ⟩:=hrel;obtain⟨f,P,r',H,z,b7,F,a0,e0,D⟩:=HJ.out;have d0:wr.cell? ⟨xz (xj w1),0,xw⟩=xk (.int .i64 m):=by rw[ZdT _ _ _ _ _ _ D];rfl
    have d1:wr.cell? ⟨xz (xj w1),1,xw⟩=xk (.int .i64 pt):=by rw[ZdT _ _ _ _ _ _ D];rfl
    by_cases e2:i=m+1
    .subst e2;have e1:(((m+1:Nat):Int)< (m:Int)+1)=False:=Zgl Z0;have q2:IntKind.i64.wrap ((a:Int)+((m:Int)+1))=((a+(m+1):Nat):Int):=ZcX;clear z D H;gi_wp2
     obtain⟨k1,k2,k3,k4,k5,k6,k7⟩:=HO.out;obtain⟨f,P,r',H,z,b7,F,a0,e0,D⟩:=HJ.out;have b2:n1+1<=xq q.low:=by have:=(ZdH.1 k6).1;omega
     refine⟨⟨a+(m+1),Z1,ZdP ⟨f,P,n1+1,H,z,Z0,by rw[F,Zes];omega,?_,Z0⟩⟩,by simp[intOf];omega⟩;rw[F,ZgX b2,Z7y k6,k3];have:=k5.place k6;omega
    .have e1:((i:Int)< (m:Int)+1)=True:=ZgE Z0;obtain⟨k1,k2,k3,k4,k5,k6,k7,k8⟩:=HO.out;have hx:D3 B b f (a+i,WC P.low ((a+i:Nat):Int)) wr:=⟨P,z.inb,by rw[a0]⟩;obtain⟨fn,e6,assign,e5,hy,hR⟩:=hY f _ wr H hx Z0;have hq:WC P.low ((a+i:Nat):Int)=(decide (0<i)&&decide (i<=pt)):=by
      obtain⟨g',x',_,_,r2⟩:=z.inb;have t2:=r2.tiles 1 Z0;simp only[Vz,Pts.at1]at t2;rw[Z2z t2 (o:=o) (by rw[F];exact ZeV _ k1) Z0 Z0,k2,k4];congr 1;exact decide_eq_decide.2 Z0;exact decide_eq_decide.2 Z0
     unfold jZ at hy;simp only[hq]at hy;have HQ:=ZdP (And.intro hq (And.intro hR (And.intro b7 (And.intro F (And.intro a0 (And.intro D z))))));have q2:IntKind.i64.wrap ((a:Int)+(i:Int))=((a+i:Nat):Int):=ZcX;have q3:IntKind.i64.wrap ((i:Int)+1)=((i+1:Nat):Int):=ZcX;clear hx H z hq hR D k1 k2 k3 k4 k5 k6 k7 k8 F a0;have h3:(i=0/\(0<i)=False)\/(((0:Int)< (i:Int))=True/\(0<i)=True/\((i:Int)<=(pt:Int))=True/\(i<=pt)=True)\/(((0:Int)< (i:Int))=True/\(0<i)=True/\((i:Int)<=(pt:Int))=False/\(i<=pt)=False):=by
      by_cases h0:i=0;exact .inl ⟨h0,Zgl Z0⟩;by_cases h1:i<=pt;exact .inr (.inl ⟨ZgE Z0,ZgE Z0,ZgE Z0,ZgE h1⟩);exact .inr (.inr ⟨ZgE Z0,ZgE Z0,Zgl Z0,Zgl h1⟩)
     obtain⟨h0,h1⟩|⟨h0,h1,h2,h3⟩|⟨h0,h1,h2,h3⟩:=h3
     .subst h0;simp only[h1,Zgg,ZgT,Zi2,Zgj,ZgK,ZgL,Zfr,ZhJ]at hy;gi_wp2
      refine⟨λh=>ZcZ,HQ.out.2.1.mono ?_⟩;rintro e W3 (⟨rfl,t,y⟩|⟨rfl,k⟩)
      .have d:=ZdP (And.intro t y);clear t y;gi_wp2
       obtain⟨c1,c2,c3,c4,c5,c6,c7⟩:=HQ.out;obtain⟨Q,R,i1,i2⟩:=d.out.2.low P c7.inb;refine⟨⟨1,Z1,ZdP ⟨f++[_],Q,r'++R,d.out.1,⟨d.out.2.same _ _ c7.bx rfl a5 I,i1⟩,Zeh c3 d.out.2.size,by rw[i2,c4,Zew],by simp<;>omega,Z0,d.out.2.same _ _ c6 rfl C.1 C.2⟩⟩,by simp[intOf]<;>omega⟩
      .have G:=ZdP k;clear k;gi_wp2
       refine Zey (results_none rfl _ _ _) rfl ?_;exact⟨⟨_,rfl⟩,.inr ⟨_,G.out⟩⟩
     .simp only[h1,h3,Zgg,ZgT,Zi2,Zgj,ZgK,ZgL,Zfr,ZhJ]at hy;gi_wp2
      refine⟨λh=>ZcZ,HQ.out.2.1.mono ?_⟩;rintro e W3 (⟨rfl,t,y⟩|⟨rfl,k⟩)
      .have d:=ZdP (And.intro t y);clear t y;gi_wp2
       obtain⟨c1,c2,c3,c4,c5,c6,c7⟩:=HQ.out;obtain⟨Q,R,i1,i2⟩:=d.out.2.low P c7.inb;refine⟨⟨i+1,Z1,ZdP ⟨f++[_],Q,r'++R,d.out.1,⟨d.out.2.same _ _ c7.bx rfl a5 I,i1⟩,Zeh c3 d.out.2.size,by rw[i2,c4,Zew],by simp<;>omega,Z0,d.out.2.same _ _ c6 rfl C.1 C.2⟩⟩,by simp[intOf];omega⟩
      .have G:=ZdP k;clear k;gi_wp2
       refine Zey (results_none rfl _ _ _) rfl ?_;exact⟨⟨_,rfl⟩,.inr ⟨_,G.out⟩⟩
     .simp only[h1,h3,Zgg,ZgT,Zi2,Zgj,ZgK,ZgL,Zfr,ZhJ]at hy;gi_wp2
      refine⟨λh=>ZcZ,HQ.out.2.1.mono ?_⟩;rintro e W3 (⟨rfl,t,y⟩|⟨rfl,k⟩)
      .have d:=ZdP (And.intro t y);clear t y;gi_wp2
       obtain⟨c1,c2,c3,c4,c5,c6,c7⟩:=HQ.out;obtain⟨Q,R,i1,i2⟩:=d.out.2.low P c7.inb;refine⟨⟨i+1,Z1,ZdP ⟨f++[_],Q,r'++R,d.out.1,⟨d.out.2.same _ _ c7.bx rfl a5 I,i1⟩,Zeh c3 d.out.2.size,by rw[i2,c4,Zew],by simp<;>omega,Z0,d.out.2.same _ _ c6 rfl C.1 C.2⟩⟩,by simp[intOf];omega⟩
      .have G:=ZdP k;clear k;gi_wp2
       refine Zey (results_none rfl _ _ _) rfl ?_;exact⟨⟨_,rfl⟩,.inr ⟨_,G.out⟩⟩
  .have b4:((a:Int)< (xq g.low:Int))=False:=Zgl Z0;have HE:Hid (J pre wr/\SN B b pre wr):=ZdP ⟨T,g,x,S,Z0⟩;clear M T S;gi_wp2
   go_end0
   exact⟨⟨_,rfl⟩,.inl ⟨pre,HE.out.2,HE.out.1⟩⟩
end Vm
end
section
namespace Vm
open Go Go.Proofs Go.RowKit

end Vm
end
section
namespace Vm
open Go
open Go.Proofs

end Vm
end
section
namespace Vm
open Go Go.Proofs Go.RowKit

end Vm
end
section
namespace Vm
open Go
open Go.Proofs
def I8:Fn:=⟨16,[0,1,2,3,4,5,6,7,8,9,10,11,12,13,14,15],
pQ [pR [pV 0 pF],.reg ⟨[],[([],.ag [pU 10,pI 5,pI 1,pT,pI 0,.lit [pU 2,pU 6],pN,.lit [pU 31,pU 0],pN,.lit [pU 31]])],[(1,.m [pU 10,pI 5,pI 1,pT,pI 0,.lit [pU 2,pU 6],pN,.lit [pU 31,pU 0],pN,.lit [pU 31]])]⟩,pC [pK 16 39 [.mm 1 0 10,pI 1]] [(2,pM (.sz (.ext (.s 16) 0) 10) 10),pV 3 (.fl (.ext (.s 16) 1))],pC [pK 17 39 [.mm 1 0 10,pI 2]] [(4,pM (.sz (.ext (.s 17) 0) 10) 10),pV 5 (.ext (.s 17) 1)],pC [pK 18 41 [.mm 2 0 10]] [(6,pM (.sz (.ext (.s 18) 0) 10) 10),pV 7 (.ext (.s 18) 1)],pC [pK 19 39 [.mm 1 0 10,pI (-1)]] [(8,pM (.sz (.ext (.s 19) 0) 10) 10),pV 9 (.ext (.s 19) 1)],pC [pK 20 41 [pY]] [(10,pM (.sz (.ext (.s 20) 0) 10) 10),pV 11 (.ext (.s 20) 1)],pR [(12,pM (.mm 1 0 10) 10)],pR [(12,.m [.m 12 0,.m 12 1,.m 12 2,.m 12 3,pI 1,.m 12 5,.m 12 6,.m 12 7,.m 12 8,.m 12 9])],.reg ⟨[],[([],.ag [pU 10,pI 5,pI 1,pF,pI 2,.lit [pU 2,pU 6],pN,pN,pN,.lit [pU 31]])],[(13,.m [pU 10,pI 5,pI 1,pF,pI 2,.lit [pU 2,pU 6],pN,pN,pN,.lit [pU 31]])]⟩,pC [pK 21 39 [.mm 13 0 10,pI 9]] [(14,pM (.sz (.ext (.s 21) 0) 10) 10),pV 15 (.fl (.ext (.s 21) 1))],.reg ⟨[.lt 22 [] (.bin .eql (.s 3) (pI 0)),.call 23 [(22,xy)] (.id 40) xh xh [.mm 2 0 10,.mm 12 0 10],.lt 24 [] (.ite (.s 22) (.s 23) pF),.lt 25 [] (.ite (.s 24) (.bin .eql (.s 5) (pI 0)) pF),.call 26 [(25,xy)] (.id 40) xh xh [.mm 4 0 10,.mm 13 0 10],.lt 27 [] (.ite (.s 25) (.s 26) pF),.lt 28 [] (.ite (.s 27) (.bin .eql (.s 7) (pI 0)) pF),.call 29 [(28,xy)] (.id 40) xh xh [.mm 6 0 10,.mm 13 0 10],.lt 30 [] (.ite (.s 28) (.s 29) pF),.lt 31 [] (.ite (.s 30) (.bin .eql (.s 9) (pI 1)) pF),.lt 32 [] (.ite (.s 31) (.bin .eql (.s 11) (pI 1)) pF),.lt 33 [] (.ite (.s 32) (.bin .eql (.s 15) (pI 0)) pF),.call 34 [(33,xy)] (.id 40) xh xh [.mm 14 0 10,.mm 13 0 10]],[([(24,xy)],.bin .eql (.s 5) (pI 0)),([(27,xy)],.bin .eql (.s 7) (pI 0)),([(30,xy)],.bin .eql (.s 9) (pI 1)),([(31,xy)],.bin .eql (.s 11) (pI 1)),([(32,xy)],.bin .eql (.s 15) (pI 0))],[pV 0 (.ite (.s 33) (.s 34) pF)]⟩] .ret,[(0,.v)]⟩
def PW:ZK Sol.prog fresh sig [] [] Try.f37=xk I8:=Z2
def AT:Fn:=⟨4,[0,1,4,6],
pQ [pR [pV 2 (pI 0)],pQ [pR [pV 3 (.bin .lss (.s 0) (pI 0))]] (.cond (.s 3) (pR [pV 0 (.un .neg (.bin .add (.s 0) (pI 1)))]) .skip),pR [pV 2 (.bin .rem (.s 0) (.s 1))]] .ret,[(2,.v)]⟩
def PX:ZK Sol.prog fresh sig [.fz,.fz] [] Try.f38=xk AT:=Z2
def I9:Fn:=⟨6,[0,1,2,4,5,12],
pQ [pR [(2,pS 0 10),(3,pZ),pV 4 (pI 0)],pQ [.reg ⟨[.lt 6 [] (.bin .lss (.s 1) (pI 0)),.call 7 [(6,xh)] (.id 25) xh xh [.mm 2 0 10]],[([(6,xh)],.un .not (.s 7))],[pV 5 (.ite (.s 6) pT (.un .not (.s 7)))]⟩] (.cond (.s 5) (pQ [.reg ⟨[],[([],pY)],[(3,pZ),pV 4 (pI 1)]⟩] .ret) .skip),pC [pK 8 74 [.mm 2 0 10,.s 1]] [(3,pM (.sz (.ext (.s 8) 0) 10) 10),pV 4 (.ext (.s 8) 1)]] .ret,[(3,(.ag 10)),(4,.v)]⟩
def PY:ZK Sol.prog fresh sig [.fz,.fz] [] Try.f39=xk I9:=Z2
def Ib:Fn:=⟨5,[0,1,2,3,6],
pQ [pR [(1,pS 0 10),(2,pZ),pV 3 (pI 0)],pQ [pC [pK 5 25 [.mm 1 0 10]] [pV 4 (.un .not (.s 5))]] (.cond (.s 4) (pQ [.reg ⟨[],[([],pY)],[(2,pZ),pV 3 (pI 1)]⟩] .ret) .skip),pC [pK 6 74 [.mm 1 0 10,pI 9223372036854775807]] [(2,pM (.sz (.ext (.s 6) 0) 10) 10),pV 3 (.ext (.s 6) 1)]] .ret,[(2,(.ag 10)),(3,.v)]⟩
def p5:ZK Sol.prog fresh sig [.fz] [] Try.f41=xk Ib:=Z2
def Iu:Fn:=⟨3,[0,1,2],
pQ [pR [(1,pS 0 10),(2,pZ)],pC [pK 3 114 [.m 1 5],pK 4 114 [.m 1 6]] [(1,.m [.m 1 0,.m 1 1,.m 1 2,.m 1 3,.m 1 4,.one (.s 3),.one (.s 4),.m 1 7,.m 1 8,.m 1 9])],pC [pK 5 114 [.m 1 7],pK 6 114 [.m 1 8]] [(1,.m [.m 1 0,.m 1 1,.m 1 2,.m 1 3,.m 1 4,.m 1 5,.m 1 6,.one (.s 5),.one (.s 6),.m 1 9])],pC [pK 7 114 [.m 1 9]] [(1,.m [.m 1 0,.m 1 1,.m 1 2,.m 1 3,.m 1 4,.m 1 5,.m 1 6,.m 1 7,.m 1 8,.one (.s 7)])],pR [(2,pM (.mm 1 0 10) 10)]] .ret,[(2,(.ag 10))]⟩
def c96:ZK Sol.prog fresh sig [.fz] [] Try.f96=xk Iu:=Z2
end Vm
end
section
namespace Vm
open Go Go.Proofs Go.RowKit
def Jn{l:Z8}(n:P l<=1000000):VC Sol.prog 114 xh [.sl (l.map vu)] (.sl (l.map vu)):=by
 refine⟨Z2,λw G vs h f g=> ?_⟩;have r0:=g 0 _ rfl;have j:vs=#[vs.getD 0 undef]:=by
  have a:vs.size=1:=f;apply ZgO;simp[a];intro i p q;have k:i<1:=Z0
  match i,k with
  |0,_=>simp[Array.getD,a]
 rw[j];refine(O5 w h n r0).mono ?_;rintro e r ⟨v,rfl,d,o⟩;exact⟨v,rfl,d,o.mono λb d=>.inr d⟩
def Z4r{h:Hp}(a:h.ok):VC Sol.prog 96 xh [ZJ h] (ZJ h):=by
 refine ZU Sol.func96 follows Z2 c96 rfl ?_;have d:=Jn a.low;have f:=Jn a.high;have g:=Jn a.old;have j:=Jn a.far;have k:=Jn a.roots;simp[Iu,ZJ];refine Zy d Z1 ?_;simp;refine Zy f Z1 ?_;simp;refine Zy g Z1 ?_;simp;refine Zy j Z1 ?_;simp;refine Zy k Z1 ?_;simp
def Z4p(w:Z4)(G:Z3)(k:∀b,G b->b<U (R w))(h:Hp)(l:h.ok)(a:Z9)(p:∀j,j<5->Rd w G (.sl ((Zv h j).map vu)) (a j)):
  Calls Sol.prog 96 #[ZO h a] w λe f=>∃x,e=.returned (ZO h x)/\Below (U (R w)) w f/\∀j,j<5->Rd f (λc=>G c\/(U (R w)<=c/\c<U (R f))) (.sl ((Zv h j).map vu)) (x j):=by
 refine((Z4r l).2 w G #[ZO h a] k rfl λi x d=> ?_).mono ?_
 match i,d with
 |0,d=>cases d;exact Ff p
 rintro e f ⟨v,rfl,g,o⟩;obtain⟨x,rfl,d⟩:=Fg o;exact⟨x,rfl,g,λj n=>(d j n).mono λb g=>g.imp (λq=>q.2) id⟩
end Vm
end
section
namespace Vm
open Go Go.Proofs
def J7{h:Hp}(hc:h.cycle=xh):∀k,Yb h k=h
 |0=>rfl
 |k+1=>by unfold Yb;rw[hc];simp
def SU(h:Hp):∀k,Yb h (k+1)=if(Yb h k).cycle then Ws (Yb h k)else Yb h k
 |0=>by unfold Yb;cases a:h.cycle<;>simp[Yb,a]
 |k+1=>by
  cases a:h.cycle with
  |false=>rw[J7 a,J7 a,a];simp
  |true=>
   have e:∀j,Yb h (j+1)=Yb (Ws h) j:=λj=>by rw[Yb.eq_2,a];simp
   rw[e (k+1),e k];exact SU (Ws h) k
def BT(h:Hp)(a:Nat):∀b,Yb h (a+b)=Yb (Yb h a) b
 |0=>rfl
 |b+1=>by rw[<-ZeZ,SU,SU,BT h a b]
structure ScansTo (h:Hp) (p:Pts) (k:Nat) (g:Hp) (q:Pts):Prop where
 rt:Rt g q
 len:P h.low<=P g.low
 keep:∀j:Nat,(j:Int)<h.scan->g.low[j]?=h.low[j]?
 high:g.high=h.high
 roots:g.roots=h.roots
 num:g.base=h.base/\g.cap=h.cap/\g.to=h.to
 scan:h.scan<=g.scan/\g.scan<=h.scan+k
 obsL:∃r,q.low=p.low++r
 obsH:q.high=p.high
 cyc:g.cycle=xy->h.cycle=xy/\g.scan=h.scan+k/\(P g.low:Int)+Wt q=P h.low+Wt p
 roomE:(P g.low:Int)<=P h.low+Wt p
 whole:g.cycle=xh->h.cycle=xy->g.scan=P g.low
def Rt.scans{h:Hp}{p:Pts}(r:Rt h p):∀k,∃q,ScansTo h p k (Yb h k) q
 |0=>⟨p,r,ZdL _,λ_ _=>rfl,rfl,rfl,⟨rfl,rfl,rfl⟩,⟨by show h.scan<=h.scan;omega,by show h.scan<=h.scan+((0:Nat):Int);omega⟩,⟨[],Z1⟩,rfl,λa=>⟨a,by show h.scan=h.scan+((0:Nat):Int);omega,rfl⟩,by show(P h.low:Int)<=_;omega,λa l=>(by rw[show Yb h 0=h from rfl,l]at a;cases a)⟩
 |k+1=>by
  obtain⟨q,s⟩:=r.scans k;rw[SU];generalize Yb h k=g at*;have o:=s.scan.1;have y:=s.scan.2;cases a:g.cycle with
  |false=>
   simp only[ZdZ,Zeu];exact⟨q,s.rt,s.len,s.keep,s.high,s.roots,s.num,⟨o,Z0⟩,s.obsL,s.obsH,λh=>(by rw[a]at h;cases h),s.roomE,λ_ h=>s.whole a h⟩
  |true=>
   simp only[Zer];obtain⟨H,D,f⟩:=s.rt.scan a;obtain⟨t,c2,c3⟩:=s.cyc a;rw[f.eq];obtain⟨J,z,n⟩:=f.low;obtain⟨F,u⟩:=s.obsL;obtain⟨G,w⟩:=f.obsL;obtain⟨A,B,C,I⟩:=f.num;refine⟨D,f.rt,by have:=s.len;omega,λj x=>(n j Z0).trans (s.keep j x),f.high.trans s.high,f.roots.trans s.roots,⟨A.trans s.num.1,B.trans s.num.2.1,C.trans s.num.2.2⟩,⟨Z0,Z0⟩,⟨F++G,by rw[w,u,Zew]⟩,f.obsH.trans s.obsH,λd=>⟨t,Z0,by have:=f.room d;omega⟩,by have:=f.roomE;omega,λd _=>(f.rt.rest d).1⟩
def Z6B{h:Hp}{p:Pts}(a:h.ok)(r:Rt h p)(hc:h.cycle=xy):(Ws h).ok:=by
 have t:=r.walk;obtain⟨i,o⟩:=ZdV r.scan0;have l:i<P h.low:=by have:=r.cyc hc;omega
 obtain⟨u,q⟩:∃u,h.low[i]?=xk u:=⟨_,ZdG l⟩;have y:=a.low;have n:∀g:Hp,g.ok->(YW g).ok:=λg d=>by
  unfold YW;split;exact⟨d.base,d.cap,d.to,d.scan,d.low,d.high,Z1,Z1,d.roots,d.lowW,d.highW,Z1,Z1,d.rootsW⟩;exact d
 have k:Ym (h.scan+1):=⟨Z0,Z0⟩;unfold Ws;rw[o,ZdW,q,Zec];rw[o]at k;have f:=F3 a (a.lowW u (ZdO q));split;refine n _ ?_;obtain⟨f,x⟩:=f
 exact⟨f.base,f.cap,f.to,k,by simp;exact f.low,f.high,f.old,f.far,f.roots,λw t=>by
  obtain j|j:=Zfh t;exact f.lowW w j;rw[j];exact x,f.highW,f.oldW,f.farW,f.rootsW⟩
 exact n _ ⟨a.base,a.cap,a.to,k,a.low,a.high,a.old,a.far,a.roots,a.lowW,a.highW,a.oldW,a.farW,a.rootsW⟩
def KU{h:Hp}{p:Pts}(a:h.ok)(r:Rt h p):∀k,(Yb h k).ok
 |0=>a
 |k+1=>by
  obtain⟨q,s⟩:=r.scans k;have:=KU a r k;rw[SU];generalize Yb h k=g at*;cases d:g.cycle with
  |false=>simpa using this
  |true=>simpa using Z6B this s.rt d
end Vm
end
section
namespace Vm
open Go Go.Proofs Go.RowKit Go.Shelf
section
attribute [local go_sem] Oper.semAt_some
def Z8c{n:Nat}{P:Z5}{c:Code}{Q:Zh}{a:Act}{w:Z4}(h:c.wpIn Fence.wide n P (Exit.noGoto Q) a w):(Code.scope c).wpIn Fence.wide n P Q a w:=
 wpIn_wide.2 (wp_scope_straight (wpIn_wide.1 h))
def Z5w{W d:Z4}{B:Z3}{b r:Nat}{l:Z8}{y:Ze}(h:Rd W (λc=>B c/\c<U (R W)/\c≠b) (.sl (l.map vu)) y)(f:W.grownBy d (xk r))(g:¬B r):
  Rd d (λc=>B c/\c<U (R d)/\c≠b) (.sl (l.map vu)) y:=
 (h.keep (λc a=>f.block c a.2.1 λe=>g (by cases e;exact a.1)) λc a=>a).mono λc a=>⟨a.1,ZdS a.2.1 f.size,a.2.2⟩
theorem NowI.kept{B:Z3}{W a:Z4}{b r:Nat}{g:Hp}{x:Z9}(S:NowI B W b g x)(d:W.grownBy a (xk r))(f:¬B r):NowI B a b g x:=
 ⟨S.le,(d.block b (Yf S.nb) λe=>by cases e;exact f S.le).trans S.nb,λj h=>Z5w (S.rd j h) d f⟩
def Jk:Array Value:=#[.int .u64 0,.int .i64 0,.int .i64 0,.bool xh,.int .i64 0,.slice xw 0 0,.slice xw 0 0,.slice xw 0 0,.slice xw 0 0,.slice xw 0 0]
structure ScI (B:Nat->Prop) (w:World) (b:Nat) (h:Hp) (k done:Nat) (W:World):Prop where
 now:∃x,NowI B W b (Yb h done) x
 le:done<=k
 kb:W.heap[U (R w)+1]?=xk (.cells #[.int .i64 ((k:Int) - (done:Nat))] 3 (0,0))
 r0:W.heap[U (R w)+2]?=xk (.cells Jk 37 (0,0))
 r1:W.heap[U (R w)+3]?=xk (.cells #[.int .i64 0] 32 (0,0))
 fn:W.heap[b+1]?=xk (.cells #[.func (.func 97) #[] #[.pointer (xk ⟨b,0,xw⟩)]] 160 (0,0))
 gr:w.grownBy W xw
def ScI.abide{B:Z3}{w:Z4}{b:Nat}{h:Hp}{k done:Nat}{W a:Z4}{row:ZcI}(S:ScI B w b h k done W)(f:W.grownBy a row)(g:∀r,row=xk r->U (R w)<=r/\∃o:Obj,W.heap[r]?=xk o/\o.isCells=xh):ScI B w b h k done a:=by
 obtain⟨x,p⟩:=S.now
 have q:∀(c:Nat) (o:Obj),W.heap[c]?=xk o->o.isCells=xy->a.heap[c]?=xk o:=λc o d n=>(f.block c (Yf d) λe=>by
  obtain⟨_,t,j,l⟩:=g c e.symm;rw[d]at j;cases j;rw[n]at l;cases l).trans d
 exact⟨⟨x,p.abide f λr e=>(g r e).2⟩,S.le,q _ _ S.kb rfl,q _ _ S.r0 rfl,q _ _ S.r1 rfl,q _ _ S.fn rfl,UA S.gr f λr e=>.inr (g r e).1⟩
def Z2G(W:Z4)(b:Nat):Calls Sol.prog 98 #[.pointer (xk ⟨b,0,xw⟩)] W λe d=>e=.returned (.func (.func 115) #[] #[.pointer (xk ⟨U (R W),0,xw⟩)])/\d=W.alloc (.cells #[.pointer (xk ⟨b,0,xw⟩)] 164):=by
 have a:∀(fn:Go.Fn) (first cap:Za) (w:Z4),(Instr.makeFunc fn first cap).run Sol.prog w=.ok (.func fn first cap) w:=λ_ _ _ _=>rfl;go_enter Sol.func98,Try.ntmps98;go_wp2;exact Zey (v:=.func (.func 115) #[] #[.pointer (xk ⟨U (R W),0,xw⟩)]) (by simp[results,Try.results98,go_sem]) rfl ⟨rfl,rfl⟩
def Z10(w:Z4)(d a f g:Obj):∃W,(((w.alloc d).alloc a).alloc f).alloc g=W/\U (R W)=U (R w)+4/\w.grownBy W xw/\W.heap[U (R w)+1]?=xk a/\W.heap[U (R w)+2]?=xk f/\W.heap[U (R w)+3]?=xk g:=by
 refine⟨_,rfl,Z1,⟨rfl,rfl,rfl,ZcL,λk h _=> ?_⟩,?_,?_,?_⟩;rw[ZdN _ _ _ ZcL,ZdN _ _ _ ZcL,ZdN _ _ _ ZcL,ZdN _ _ _ h];rw[ZdN _ _ _ Z1,ZdN _ _ _ Z1];have:=ZeY (w.alloc d) a;rwa[Zg3]at this;rw[ZdN _ _ _ Z1];have:=ZeY ((w.alloc d).alloc a) f;simpa using this;have:=ZeY (((w.alloc d).alloc a).alloc f) g;simpa using this
def Z6F{w w0 w1:Z4}{G:Z3}(u:∀b,G b->b<U (R w)){h:Hp}(A:h.ok){p:Pts}(r:Rt h p){k:Nat}{d:Z9}(H:U (R w0)=U (R w)+4)(n:w.grownBy w0 xw)
  (k1:w0.heap[U (R w)+1]?=xk (.cells #[.int .i64 k] 3 (0,0))) (I:w0.heap[U (R w)+2]?=xk (.cells Jk 37 (0,0))) (J:w0.heap[U (R w)+3]?=xk (.cells #[.int .i64 0] 32 (0,0)))
  (l:Below (U (R w0)) w0 w1) (hx:∀j,j<5->Rd w1 (λc=>G c\/(U (R w0)<=c/\c<U (R w1))) (.sl ((Zv h j).map vu)) (d j)):
  ∃w3,((w1.alloc (.cells (YN h d) 37)).alloc (.cells #[.func (.func 97) #[] #[.pointer (xk ⟨U (R w1),0,xw⟩)]] 160)).alloc (.cells #[.pointer (xk ⟨U (R w1),0,xw⟩)] 164)=w3/\
   U (R w3)=U (R w1)+3/\U (R w0)<=U (R w1)/\ScI (λc=>G c\/U (R w)+4<=c) w (U (R w1)) h k 0 w3/\KnI (λc=>G c\/U (R w)+4<=c) (U (R w1)) (U (R w1)+2) p w3:=by
 refine⟨_,rfl,Z1,l.size,?_⟩;have g:∀c,c<U (R w1)->(((w1.alloc (.cells (YN h d) 37)).alloc (.cells #[.func (.func 97) #[] #[.pointer (xk ⟨U (R w1),0,xw⟩)]] 160)).alloc (.cells #[.pointer (xk ⟨U (R w1),0,xw⟩)] 164)).heap[c]?=w1.heap[c]? :=λc a=>by
  rw[ZdN _ _ _ ZcL,ZdN _ _ _ ZcL,ZdN _ _ _ a]
 have F:U (R (((w1.alloc (.cells (YN h d) 37)).alloc (.cells #[.func (.func 97) #[] #[.pointer (xk ⟨U (R w1),0,xw⟩)]] 160)).alloc (.cells #[.pointer (xk ⟨U (R w1),0,xw⟩)] 164)))=U (R w1)+3:=Z1;have x:(((w1.alloc (.cells (YN h d) 37)).alloc (.cells #[.func (.func 97) #[] #[.pointer (xk ⟨U (R w1),0,xw⟩)]] 160)).alloc (.cells #[.pointer (xk ⟨U (R w1),0,xw⟩)] 164)).heap[U (R w1)]?=xk (.cells (YN h d) 37 (0,0)):=by
  rw[ZdN _ _ _ ZcL,ZdN _ _ _ Z1];exact ZeY _ _
 have y:(((w1.alloc (.cells (YN h d) 37)).alloc (.cells #[.func (.func 97) #[] #[.pointer (xk ⟨U (R w1),0,xw⟩)]] 160)).alloc (.cells #[.pointer (xk ⟨U (R w1),0,xw⟩)] 164)).heap[U (R w1)+1]?=xk (.cells #[.func (.func 97) #[] #[.pointer (xk ⟨U (R w1),0,xw⟩)]] 160 (0,0)):=by
  rw[ZdN _ _ _ Z1];have:=ZeY (w1.alloc (.cells (YN h d) 37)) (.cells #[.func (.func 97) #[] #[.pointer (xk ⟨U (R w1),0,xw⟩)]] 160);rwa[Zg3]at this
 have z:(((w1.alloc (.cells (YN h d) 37)).alloc (.cells #[.func (.func 97) #[] #[.pointer (xk ⟨U (R w1),0,xw⟩)]] 160)).alloc (.cells #[.pointer (xk ⟨U (R w1),0,xw⟩)] 164)).heap[U (R w1)+2]?=xk (.cells #[.pointer (xk ⟨U (R w1),0,xw⟩)] 164 (0,0)):=by
  have:=ZeY ((w1.alloc (.cells (YN h d) 37)).alloc (.cells #[.func (.func 97) #[] #[.pointer (xk ⟨U (R w1),0,xw⟩)]] 160)) (.cells #[.pointer (xk ⟨U (R w1),0,xw⟩)] 164);simpa using this
 have D:=l.size;have t:w1.grownBy (((w1.alloc (.cells (YN h d) 37)).alloc (.cells #[.func (.func 97) #[] #[.pointer (xk ⟨U (R w1),0,xw⟩)]] 160)).alloc (.cells #[.pointer (xk ⟨U (R w1),0,xw⟩)] 164)) xw:=⟨rfl,rfl,rfl,Z0,λc a _=>g c a⟩;generalize ((w1.alloc (.cells (YN h d) 37)).alloc (.cells #[.func (.func 97) #[] #[.pointer (xk ⟨U (R w1),0,xw⟩)]] 160)).alloc (.cells #[.pointer (xk ⟨U (R w1),0,xw⟩)] 164)=w3 at*;have f:NowI (λc=>G c\/U (R w)+4<=c) w3 (U (R w1)) h d:=by
  refine⟨.inr Z0,x,λj B=>((hx j B).keep (λc a=>g c ?_) λc a=>a).mono λc a=> ?_⟩;obtain a|a:=a;have:=u c a;omega;exact a.2;obtain a|a:=a;have:=u c a;exact⟨.inl a,Z0,Z0⟩;exact⟨.inr Z0,Z0,Z0⟩
 have q:∀c o,w0.heap[c]?=xk o->w3.heap[c]?=xk o:=λc o a=>by
  have C:=Yf a;rw[g c Z0,l.block c C];exact a
 exact⟨⟨⟨d,f⟩,ZeQ _,by rw[q _ _ k1];simp,q _ _ I,q _ _ J,y,TC n (TC (Uz l xw) t)⟩,z,h,d,f,A,r⟩
def ScI.step{B:Z3}{w:Z4}{b:Nat}{h:Hp}{p q:Pts}{k done:Nat}{W a:Z4}(F:h.ok)(r:Rt h p)(S:ScI B w b h k done W)(G:Rt (Yb h done) q)(hc:(Yb h done).cycle=xy)(J:¬B (xz (xj w)+1))(Q:xz (xj w)+4<=b)(R:done<k)(d:W.grownBy a (xk b))(K:∃x,NowI B a b (Ws (Yb h done)) x):
  ScI B w b h k (done+1) (a.setCell ⟨xz (xj w)+1,0,xw⟩ (.int .i64 ((k:Int) - (done:Nat) -1)))/\KpN B b (xz (xj w)+1) W (a.setCell ⟨xz (xj w)+1,0,xw⟩ (.int .i64 ((k:Int) - (done:Nat) -1)))/\
   W.grownBy a (xk b)/\a.grownBy (a.setCell ⟨xz (xj w)+1,0,xw⟩ (.int .i64 ((k:Int) - (done:Nat) -1))) (xk (xz (xj w)+1)):=by
 have n:=Zg4 a (xz (xj w)+1) (.int .i64 ((k:Int) - (done:Nat) -1));obtain⟨x,L⟩:=K;have g:=L.kept n J;have D:Yb h (done+1)=Ws (Yb h done):=by rw[SU,hc];simp
 have l:∀(c:Nat) (o:Obj),W.heap[c]?=xk o->c≠b->c≠xz (xj w)+1->(a.setCell ⟨xz (xj w)+1,0,xw⟩ (.int .i64 ((k:Int) - (done:Nat) -1))).heap[c]?=xk o:=λc o j H t=>
  (Ze5 _ _ _ _ t).trans ((d.block c (Yf j) (λe=>H (by cases e;rfl))).trans j)
 have z:a.heap[xz (xj w)+1]?=xk (.cells #[.int .i64 ((k:Int) - (done:Nat))] 3 (0,0)):=(d.block _ (Yf S.kb) (λe=>ZdA)).trans S.kb;refine⟨⟨⟨x,by rw[D];exact g⟩,Z0,?_,l _ _ S.r0 Z0 Z0,l _ _ S.r1 Z0 Z0,l _ _ S.fn Z0 Z0,?_⟩,⟨Zeh d.size n.size,λc o j _ t I=>l c o j t I,λT A=> ?_⟩,d,n⟩
 .have:(k:Int) - ((done+1:Nat):Int)=(k:Int) - (done:Nat) -1:=Z0;rw[this];simp[World.setCell,Zep,z]
 exact UA (UA S.gr d λr e=>.inr ZdA) n λr e=>.inr ZdA
 .obtain⟨y,M⟩:=S.now;have u:InBox B b q W:=⟨_,y,M,KU F r done,G⟩;obtain⟨P,N,f⟩:=G.scan hc;obtain⟨O,C⟩:=f.obsL;refine⟨N,O,⟨_,x,g,?_,?_⟩,?_⟩
  .have:=KU F r (done+1);rwa[D]at this
  rw[f.eq];exact f.rt;rw[C,u.low A]
def qx(w:Z4)(G:Z3)(g:Hp)(e:Ending)(w':Z4):Prop:=∃x,e=.returned (.tuple #[ZO g x,.int .i64 0])/\Below (U (R w)) w w'/\∀j,j<5->Rd w' (λc=>G c\/(U (R w)<=c/\c<U (R w'))) (.sl ((Zv g j).map vu)) (x j)
def Z6D{B G:Z3}{w:Z4}{b:Nat}{h g:Hp}{k done:Nat}{W W8:Z4}{y:Z9}{D:Nat}(S:ScI B w b h k done W)(M:Yb h done=g)(J:done=k\/(Yb h done).cycle=xh)(hn:NowI B W b g y)(hB:B=λc=>G c\/xz (xj w)+4<=c)(hG:∀c,G c->c<xz (xj w))
  (hD:xz (xj w)+4<=D) (A:W.heap[D]?=xk (.deferred (xk []))) (R:Below (xz (xj w)) W W8) (T:xz (xj W8)=xz (xj W)) (F:∀c,c≠xz (xj w)+1+1->W8.heap[c]?=W.heap[c]?) (h8:W8.heap[xz (xj w)+1+1]?=xk (.cells (YN g y) 37 (0,0))):
  (W8.setCell ⟨xz (xj w)+1+1+1,0,xw⟩ (.int .i64 0)).heap[D]?=xk (.deferred (xk []))/\(∀j,((W8.setCell ⟨xz (xj w)+1+1+1,0,xw⟩ (.int .i64 0)).putObj D (.deferred xw)).cell? ⟨xz (xj w)+1+1,j,xw⟩=(YN g y)[j]?)/\((W8.setCell ⟨xz (xj w)+1+1+1,0,xw⟩ (.int .i64 0)).putObj D (.deferred xw)).cell? ⟨xz (xj w)+1+1+1,0,xw⟩=xk (.int .i64 0)/\
   qx w G (Yb h k) (.returned (.tuple #[ZO g y,.int .i64 0])) ((W8.setCell ⟨xz (xj w)+1+1+1,0,xw⟩ (.int .i64 0)).putObj D (.deferred xw)):=by
 have p:=Zg4 W8 (xz (xj w)+1+1+1) (.int .i64 0);have C:=S.r1;have e1:(W8.setCell ⟨xz (xj w)+1+1+1,0,xw⟩ (.int .i64 0)).heap[xz (xj w)+1+1+1]?=xk (.cells #[.int .i64 0] 32 (0,0)):=
  Boxed.set _ (show Boxed W8 (xz (xj w)+1+1+1) 32 (.int .i64 0)from(F _ Z0).trans C)
 have e0:(W8.setCell ⟨xz (xj w)+1+1+1,0,xw⟩ (.int .i64 0)).heap[xz (xj w)+1+1]?=xk (.cells (YN g y) 37 (0,0)):=(Ze5 _ _ _ _ (by show xz (xj w)+1+1≠xz (xj w)+1+1+1;omega)).trans h8;have x:∀c,c≠xz (xj w)+1+1->c≠xz (xj w)+1+1+1->(W8.setCell ⟨xz (xj w)+1+1+1,0,xw⟩ (.int .i64 0)).heap[c]?=W.heap[c]? :=λc z Q=>(Ze5 _ _ _ _ Q).trans (F c z);have a3:xz (xj (W8.setCell ⟨xz (xj w)+1+1+1,0,xw⟩ (.int .i64 0)))=xz (xj W):=by rw[<-T];simp[World.setCell]
 have P:Below (xz (xj w)) W (W8.setCell ⟨xz (xj w)+1+1+1,0,xw⟩ (.int .i64 0)):=R.trans ⟨p.os,p.tape,p.output,p.size,λc f=>p.block c (by have:=Yf C;omega) (λe=>ZdA)⟩;generalize W8.setCell ⟨xz (xj w)+1+1+1,0,xw⟩ (.int .i64 0)=t at*;have U:t.heap[D]?=xk (.deferred (xk [])):=(x D Z0 Z0).trans A;have a4:=S.gr.size;have a2:=Yf C;have f0:(t.putObj D (.deferred xw)).heap[xz (xj w)+1+1]?=xk (.cells (YN g y) 37 (0,0)):=(Zen Z0).trans e0;have f1:(t.putObj D (.deferred xw)).heap[xz (xj w)+1+1+1]?=xk (.cells #[.int .i64 0] 32 (0,0)):=(Zen Z0).trans e1;have K:=Zgd t D (.deferred xw);have heq:Yb h k=g:=by
  obtain e|e:=J;rw[<-e,M]
  .obtain⟨d,hd⟩:∃d,k=done+d:=⟨k-done,by have:=S.le;omega⟩;rw[hd,BT,J7 e,M]
 have N:∀c,c≠xz (xj w)+1+1->c≠xz (xj w)+1+1+1->c≠D->(t.putObj D (.deferred xw)).heap[c]?=W.heap[c]? :=λc z Q h3=>(Zen Z0).trans (x c z Q);refine⟨U,λj=>ZdT _ _ j _ _ _ f0,by rw[ZdT _ _ _ _ _ _ f1];rfl,y,by rw[heq],⟨?_,?_,?_,?_,λc f=> ?_⟩,λj hj=> ?_⟩;rw[K.os,P.os];exact S.gr.os;rw[K.tape,P.tape];exact S.gr.tape;rw[K.output,P.output];exact S.gr.output;have:=K.size;omega;rw[N c Z0 Z0 Z0];exact S.gr.block c f Z1;rw[heq];have z:=hn.rd j hj;have hW:xz (xj W)<=xz (xj (t.putObj D (.deferred xw))):=by have:=K.size;omega
 generalize hL:(Zv g j).map vu=L at z⊢;generalize y j=yj at z⊢;cases z with
 |nil a cap f=>exact .nil a cap f
 |sl _ d o cap O vs Z q2 q3 q4 q5 q6=>
  have r:G d\/xz (xj w)+4<=d:=by have:=q3.1;rw[hB]at this;exact this
  have H:G d->d<xz (xj w):=hG d;have l:∀i c,(flat L)[i]?=xk c->Rd (t.putObj D (.deferred xw)) (λc=>G c\/(xz (xj w)<=c/\c< xz (xj (t.putObj D (.deferred xw))))) c (vs i):=λi c f=>by
   have h7:=q6 i c f;rw[<-hL,LT,Ze1]at f;cases Y:(Zv g j)[i]? with
   |none=>rw[Y]at f;cases f
   |some u=>
    rw[Y]at f;cases f;rw[SP h7];exact .int _ _
  by_cases I:d=D;subst I;have a0:xq L*O=0:=by
   cases a1:xq L*O with
   |zero=>rfl
   |succ n=>
    have:=q5 0 Z0;unfold World.cell? at this;rw[A]at this;cases this
  refine .sl _ d o cap O vs Z q2 ?_ q4 (λi X=>Z0) l;obtain q|q:=r;exact .inl q;exact .inr ⟨Z0,by have:=Yf A;omega⟩;refine .sl _ d o cap O vs Z q2 ?_ q4 (λi X=> ?_) l;obtain q|q:=r;exact .inl q;exact .inr ⟨Z0,by have:=q3.2.1;omega⟩;rw[<-q5 i X];refine ZeC (a:=⟨d,o+i,xw⟩) (N d ?_ ?_ I);obtain q|q:=r;have:=H q;omega;omega;obtain q|q:=r;have:=H q;omega;omega
def Mz{B G:Z3}{w:Z4}{b:Nat}{h g:Hp}{k done:Nat}{W:Z4}{y:Z9}{D:Nat}(S:ScI B w b h k done W)(f:Yb h done=g)(a:done=k\/(Yb h done).cycle=xh)(q:NowI B W b g y)(l:B=λc=>G c\/U (R w)+4<=c)(o:∀c,G c->c<U (R w))
  (n:U (R w)+4<=D) (d:W.heap[D]?=xk (.deferred (xk []))):
  ((Q9 W (U (R w)+1+1) g y).setCell ⟨U (R w)+1+1+1,0,xw⟩ (.int .i64 0)).heap[D]?=xk (.deferred (xk []))/\(∀j,(((Q9 W (U (R w)+1+1) g y).setCell ⟨U (R w)+1+1+1,0,xw⟩ (.int .i64 0)).putObj D (.deferred xw)).cell? ⟨U (R w)+1+1,j,xw⟩=(YN g y)[j]?)/\(((Q9 W (U (R w)+1+1) g y).setCell ⟨U (R w)+1+1+1,0,xw⟩ (.int .i64 0)).putObj D (.deferred xw)).cell? ⟨U (R w)+1+1+1,0,xw⟩=xk (.int .i64 0)/\
    qx w G (Yb h k) (.returned (.tuple #[ZO g y,.int .i64 0])) (((Q9 W (U (R w)+1+1) g y).setCell ⟨U (R w)+1+1+1,0,xw⟩ (.int .i64 0)).putObj D (.deferred xw)):=by
 exact Z6D (W8:=Q9 W (U (R w)+1+1) g y) S f a q l o n d (VY (Zef (U (R w)) W) Z0 _ _ _ _ _ _ _ _ _ _) Zdk (λc p=>Kz p _ _ _ _ _ _ _ _ _ _) (IS S.r0 _ _ _ _ _ _ _ _ _ _)
def Z6H(w:Z4)(G:Z3)(hG:∀b,G b->b<xz (xj w))(h:Hp)(hh:h.ok)(a:Z9)(hs:∀j,j<5->Rd w G (.sl ((Zv h j).map vu)) (a j)){p:Pts}(r:Rt h p){k:Nat}(hk:(k:Int)<9223372036854775808):
  Calls Sol.prog 74 #[ZO h a,.int .i64 k] w (qx w G (Yb h k)):=by
 refine(ZfQ (n:=5)).1 ?_;have i2:∀(fn:Go.Fn) (first cap:Za) (w:Z4),(Instr.makeFunc fn first cap).run Sol.prog w=.ok (.func fn first cap) w:=λ_ _ _ _=>rfl;refine callsIn_of_wp_marks Sol.func74 rfl trivial ?_ rfl;simp only[Try.ntmps74,ZeW,Zf2,Zfg,Nat.reduceAdd,Nat.reduceSub,Zfy,Zfz,ZfZ,ZfG,ZeA,ZeT];have HO:=λW (hb:Below (xz (xj w)) w W)=>Z4p W G (λb q=>ZdS (hG b q) hb.size) h hh a λj hj=>(hs j hj).keep (λb f6=>hb.block b (hG b f6)) λ_ q=>q;have b2:=ZdP HO;clear HO;unfold ZO;gi_wp2
 refine Z8c ?_;gi_wp2
 refine⟨trivial,(ZfQ.2 (b2.out _ (((((Zef _ _).alloc (ZdL _) _).alloc Z1 _).alloc ZcL _).alloc ZcL _))).mono ?_⟩;rintro e w1 ⟨x1,rfl,b8,F⟩;obtain⟨a0,c0,e0⟩:=Rd.slfT (F 0 Z0);obtain⟨a1,c1,e1⟩:=Rd.slfT (F 1 Z0);obtain⟨a2,c2,e2⟩:=Rd.slfT (F 2 Z0);obtain⟨a3,c3,e3⟩:=Rd.slfT (F 3 Z0);obtain⟨a4,c4,e4⟩:=Rd.slfT (F 4 Z0);have b0:=ZdP (And.intro b8 F);clear b8 F;unfold ZO;gi_wp2
 refine wpIn_label ?_;gi_wp2
 refine⟨trivial,(ZfQ.2 (Z2G _ _)).mono ?_⟩;rintro e w3 ⟨rfl,d6⟩;obtain⟨w0,a8,g9,f8,k1,P,Q⟩:=Z10 w (.cells #[.int .u64 h.base,.int .i64 h.cap,.int .i64 h.to,.bool h.cycle,.int .i64 h.scan,a 0,a 1,a 2,a 3,a 4] 37) (.cells #[.int .i64 k] 3) (.cells Jk 37) (.cells #[.int .i64 0] 32);have hC:YN h x1=#[.int .u64 h.base,.int .i64 h.cap,.int .i64 h.to,.bool h.cycle,.int .i64 h.scan,.slice a0 (xq (Zv h 0)) c0,.slice a1 (xq (Zv h 1)) c1,.slice a2 (xq (Zv h 2)) c2,.slice a3 (xq (Zv h 3)) c3,.slice a4 (xq (Zv h 4)) c4]:=by
  simp only[YN,e0,e1,e2,e3,e4,Zek]
 have L:=b0.out;unfold Jk at a8;rw[a8]at L;obtain⟨i5,J,h0,i3,b7,b6⟩:=Z6F hG hh r g9 f8 k1 P Q L.1 L.2;rw[hC]at J;rw[J]at d6;subst d6;clear b0 L J hC e0 e1 e2 e3 e4 a8 k1 P Q b2;simp only[Zg3];gi_wp2
 have f7:xz (xj w)+4<=xz (xj w1):=Z0;have b4:¬(G (xz (xj w)+1)\/xz (xj w)+4<=xz (xj w)+1):=λh=>by
  obtain h|h:=h;have:=hG _ h;omega;omega
 generalize i0:xz (xj w1)=b at*;obtain⟨B,hB⟩:∃B:Z3,B=λc=>G c\/xz (xj w)+4<=c:=⟨_,rfl⟩;rw[<-hB]at b7 b6;have b5:¬B (xz (xj w)+1):=by rw[hB];exact b4
 have e9:∀c,xz (xj w)+4<=c->B c:=λc hc=>by rw[hB];exact .inr hc
 have b1:=ZdP hB;clear hB b4;have c9:=Z2F 4 (B:=B) (b:=b) (bk:=b+2) (kb:=xz (xj w)+1) b6 Z0 Z0 Z0 Z0
 refine Z8b rfl Z0 (gf:=115) (lb:=#[.pointer (xk ⟨b+2,0,xw⟩)]) ?hg trivial (enters_of Sol.func115 Z2 rfl)
  c9 KpN.trans (λW l o o' _ h2 h3 _=>KpN.put o' h2 h3) (Zef _ _) (λ_=>rfl)
  (λpre W=>∃done,ScI B w b h k done W/\(xq pre:Int)<=(Yb h done).scan)
  (λc pre W=>c=.exit 0/\∃done,ScI B w b h k done W/\(done=k\/(Yb h done).cycle=xh))
  ?hI (λ_ _ _=>trivial) ?hIx ?hPx ?hS ⟨0,b7,by have:=r.scan0;show((0:Nat):Int)<=h.scan;omega⟩
  (fun x=> {tmps:=#[.agg #[.int .u64 h.base,.int .i64 h.cap,.int .i64 h.to,.bool h.cycle,.int .i64 h.scan,a 0,a 1,a 2,a 3,a 4],.int .i64 k,.pointer (xk ⟨xz (xj w),0,xw⟩),.pointer (xk ⟨xz (xj w)+1,0,xw⟩),.pointer (xk ⟨xz (xj w)+1+1,0,xw⟩),.pointer (xk ⟨xz (xj w)+1+1+1,0,xw⟩),.pointer (xk ⟨b,0,xw⟩),.pointer (xk ⟨b+1,0,xw⟩),.int .i64 (x.1:Nat),.bool x.2,undef,
    .agg #[.int .u64 h.base,.int .i64 h.cap,.int .i64 h.to,.bool h.cycle,.int .i64 h.scan,a 0,a 1,a 2,a 3,a 4],.agg #[.int .u64 h.base,.int .i64 h.cap,.int .i64 h.to,.bool h.cycle,.int .i64 h.scan,.slice a0 (xq (Zv h 0)) c0,.slice a1 (xq (Zv h 1)) c1,.slice a2 (xq (Zv h 2)) c2,.slice a3 (xq (Zv h 3)) c3,.slice a4 (xq (Zv h 4)) c4],
    .func (.func 97) #[] #[.pointer (xk ⟨b,0,xw⟩)],.func (.func 115) #[] #[.pointer (xk ⟨b+2,0,xw⟩)],.int .i64 (x.1:Nat),.bool x.2,undef,undef,undef,undef,undef,undef,undef,undef,undef,undef,undef,undef,undef,undef,undef,undef,undef,undef,undef,undef,undef,undef,undef],defers:=[]})
  ?assign ?body ?done ?stop
 case hg=>rfl
 case hI=>
  rintro pre X Y row ⟨done,S,hl⟩ hg O;exact⟨done,S.abide hg λr e=>⟨by have:=(O r e).1;omega,(O r e).2⟩,hl⟩
 case hIx=>
  rintro c pre X Y row ⟨hc,done,S,hl⟩ hg O;exact⟨hc,done,S.abide hg λr e=>⟨by have:=(O r e).1;omega,(O r e).2⟩,hl⟩
 case hPx=>
  rintro pre x _ X Y row ⟨p',g6,hx⟩ hg O;exact⟨p',g6.abide hg λr e=>(O r e).2,hx⟩
 case hS=>
  rintro xs X Y row ⟨g,x,hx,hl⟩ hg O;exact⟨g,x,hx.abide hg λr e=>(O r e).2,hl⟩
 case assign=>
  rintro l x W K2 f5;simp only[List.zip_cons_cons,Array.zip,jZ];gi_wp2
  exact f5
 case body=>
  rintro l pre x W ⟨done,S,a6⟩ ⟨p',N,hx⟩ h8;obtain⟨q,sc⟩:=r.scans done;have b3:=KU hh r done;obtain⟨y,t⟩:=S.now;have rq:Rt (Yb h done) p'/\x=(xq pre,WC p'.low (xq pre)):=by
   obtain⟨g',x',h1,h2,h3⟩:=N;have:=t.uniq h1;subst this;exact⟨h3,hx⟩
  obtain⟨rg,g8⟩:=rq;subst g8;obtain⟨g,H⟩:∃g,Yb h done=g:=⟨_,rfl⟩;have d:=t.nb;have z:=Oj W B b (λc hc=>e9 c (by have:=Yf d;omega)) _ y t b3 rg;rw[H]at a6 b3 rg d z;unfold YN at d;have yb:∀j,W.cell? ⟨b,j,xw⟩=(#[.int .u64 g.base,.int .i64 g.cap,.int .i64 g.to,.bool g.cycle,.int .i64 g.scan,y 0,y 1,y 2,y 3,y 4]:Array Value)[j]? :=λj=>ZdT _ _ _ _ _ _ d;have h5:=ZdT _ _ 0 _ _ _ S.kb;have h4:=ZdT _ _ 0 _ _ _ S.fn;simp only[Zfk,Zfo]at h5 h4;have h9:W.frozen? ⟨xz (xj w)+1,0,xw⟩=xh:=Yz S.kb;by_cases A:done=k\/g.cycle=xh
  .have HE:=ZdP (And.intro S (And.intro A H));have g5:((k:Int) - (done:Nat)==0)=xy\/(((k:Int) - (done:Nat)==0)=xh/\g.cycle=xh):=by
    obtain e|e:=A;exact .inl ZcL
    .by_cases e2:done=k;exact .inl ZcL;exact .inr ⟨ZcL,e⟩
   clear t S d A H N z;obtain hq|⟨hq,i1⟩:=g5
   .gi_wp2
    exact⟨ZhX _ _,rfl,done,HE.out.1,by rw[HE.out.2.2];exact HE.out.2.1⟩
   .gi_wp2
    exact⟨ZhX _ _,rfl,done,HE.out.1,by rw[HE.out.2.2];exact HE.out.2.1⟩
  .have hd:done<k:=by have:=S.le;omega
   have M:g.cycle=xy:=by cases b9:g.cycle<;>simp_all
   have hq:((k:Int) - (done:Nat)==0)=xh:=ZcL;have g7:=rg.scanL;have HH:=ZdP (And.intro S (And.intro t (And.intro H (And.intro rg hd))));have d8:=ZdP (z M);have R:=t.rd 0 Z0;by_cases c5:xq pre<g.scan
   .have c6:((xq pre:Int)<g.scan)=True:=ZgE c5;clear t S d A H N z rg R;gi_wp2
    exact⟨ZhX _ _,⟨ZdL _,λ_ _ h _ _ _=>h,λp hp=>⟨p,[],hp,Z1⟩⟩,done,HH.out.1,by rw[HH.out.2.2.1];simp;omega⟩
   .have c6:((xq pre:Int)<g.scan)=False:=Zgl c5;have c8:(xq pre:Int)=g.scan:=Z0;clear t S d A H N z rg R;gi_wp2
    refine⟨trivial,(CallsIn.inRound l (ZfQ.2 d8.out)).mono ?_⟩;rintro e W2 ⟨rfl,a5,a7⟩;have i4:=Zz ((k:Int) - (done:Nat) -1) Z0 Z0;obtain⟨s1,s2,s3,s4,s5⟩:=HH.out;rw[<-s3]at a7;have d5:=s1.step hh r (by rw[s3];exact s4) (by rw[s3];exact M) b5 f7 s5 a5 a7;have I:W2.heap[xz (xj w)+1]?=xk (.cells #[.int .i64 ((k:Int) - (done:Nat))] 3 (0,0)):=(a5.block _ (Yf s1.kb) (λe=>ZdA)).trans s1.kb;have d7:=ZdT _ _ 0 _ _ _ I;simp only[Zfk,Zfo]at d7;have h7:W2.frozen? ⟨xz (xj w)+1,0,xw⟩=xh:=Yz I;have e5:=ZdP d5;have d9:=ZdP c8;clear s1 s2 s3 s4 s5 a5 a7 d5 I c8;gi_wp2
    obtain⟨t1,t2,t3,t4⟩:=e5.out;obtain⟨s1,s2,s3,s4,s5⟩:=HH.out;have h0:=s1.gr.size;refine⟨(KeepsFrom.of_grownBy t3 λj e=>ZdA).trans (KeepsFrom.of_grownBy t4 λj e=>ZdA),t2,done+1,t1,?_⟩;obtain⟨g',q',f⟩:=s4.scan M;rw[SU,s3,M];simp only[Zer];rw[f.eq,f.num.2.2.2];have:=d9.out;simp;omega
 case done=>
  rintro D xs W hD ⟨g0,x0,c7,f9⟩ ⟨done,S,a6⟩ Z;have u:done=k\/(Yb h done).cycle=xh:=by
   obtain⟨q,sc⟩:=r.scans done;obtain⟨y,t⟩:=S.now;have:=t.uniq c7;subst this;cases b9:(Yb h done).cycle with
   |false=>exact .inr rfl
   |true=>have:=sc.rt.cyc b9;omega
  obtain⟨y,t⟩:=S.now;have HF:=ZdP (And.intro S (And.intro u t));have d:=t.nb;obtain⟨d0,f0,C⟩:=Rd.slfT (t.rd 0 Z0);obtain⟨d1,f1,g1⟩:=Rd.slfT (t.rd 1 Z0);obtain⟨d2,f2,g2⟩:=Rd.slfT (t.rd 2 Z0);obtain⟨d3,f3,T⟩:=Rd.slfT (t.rd 3 Z0);obtain⟨d4,f4,U⟩:=Rd.slfT (t.rd 4 Z0);unfold YN at d;rw[C,g1,g2,T,U]at d;have yb:∀j,W.cell? ⟨b,j,xw⟩=_:=λj=>ZdT _ _ _ _ _ _ d;have a9:∀j,W.cell? ⟨xz (xj w)+1+1,j,xw⟩=_:=λj=>ZdT _ _ _ _ _ _ S.r0;have h6:∀j,W.cell? ⟨xz (xj w)+1+1+1,j,xw⟩=_:=λj=>ZdT _ _ _ _ _ _ S.r1;have e7:∀j,W.frozen? ⟨xz (xj w)+1+1,j,xw⟩=xh:=λj=>Yz S.r0;have e8:∀j,W.frozen? ⟨xz (xj w)+1+1+1,j,xw⟩=xh:=λj=>Yz S.r1;unfold Jk at a9;have K:=Mz (G:=G) S rfl u t b1.out hG Z0 Z;unfold Q9 SO at K;unfold YN ZO at K;rw[C,g1,g2,T,U]at K;simp only[Zek]at K;obtain⟨k1,P,k4,Q⟩:=K;have HK:=ZdP Q;clear c7 f9 a6 u t d S C g1 g2 T U Q;gi_wp2
  refine⟨Z1,.inl ⟨D,_,rfl,ZgV k1,?_⟩⟩;refine⟨_,?_,HK.out⟩;clear HK HF k1;generalize World.putObj _ D (.deferred xw)=e6 at P k4⊢;simp[results,Try.results74,go_sem,P,k4]
 case stop=>
  rintro D c pre W hD ⟨rfl,done,S,u⟩ Z;obtain⟨y,t⟩:=S.now;have HF:=ZdP (And.intro S (And.intro u t));have d:=t.nb;obtain⟨d0,f0,C⟩:=Rd.slfT (t.rd 0 Z0);obtain⟨d1,f1,g1⟩:=Rd.slfT (t.rd 1 Z0);obtain⟨d2,f2,g2⟩:=Rd.slfT (t.rd 2 Z0);obtain⟨d3,f3,T⟩:=Rd.slfT (t.rd 3 Z0);obtain⟨d4,f4,U⟩:=Rd.slfT (t.rd 4 Z0);unfold YN at d;rw[C,g1,g2,T,U]at d;have yb:∀j,W.cell? ⟨b,j,xw⟩=_:=λj=>ZdT _ _ _ _ _ _ d;have a9:∀j,W.cell? ⟨xz (xj w)+1+1,j,xw⟩=_:=λj=>ZdT _ _ _ _ _ _ S.r0;have h6:∀j,W.cell? ⟨xz (xj w)+1+1+1,j,xw⟩=_:=λj=>ZdT _ _ _ _ _ _ S.r1;have e7:∀j,W.frozen? ⟨xz (xj w)+1+1,j,xw⟩=xh:=λj=>Yz S.r0;have e8:∀j,W.frozen? ⟨xz (xj w)+1+1+1,j,xw⟩=xh:=λj=>Yz S.r1;unfold Jk at a9;have K:=Mz (G:=G) S rfl u t b1.out hG Z0 Z;unfold Q9 SO at K;unfold YN ZO at K;rw[C,g1,g2,T,U]at K;simp only[Zek]at K;obtain⟨k1,P,k4,Q⟩:=K;have HK:=ZdP Q;clear u t d S C g1 g2 T U Q;gi_wp2
  refine⟨Z1,.inl ⟨D,_,rfl,ZgV k1,?_⟩⟩;refine⟨_,?_,HK.out⟩;clear HK HF k1;generalize World.putObj _ D (.deferred xw)=e6 at P k4⊢;simp[results,Try.results74,go_sem,P,k4]
end
end Vm
end
section
namespace Vm
open Go Go.Proofs
section
structure Made (b:Bt) (x:Rw):Prop where
 pl:Placed b x
 lay:ZH (Zu b.h)=xy
 nine:∀n∈b.g.nodes,ZI n<=9
 cyc:b.h.cycle=xy->∀i,i<P b.g.nodes->(ZD b i).part=1->(Y2 b i).part≠0
 scan:0<=b.h.scan/\b.h.scan<=P b.h.low/\(if b.h.cycle then b.h.scan<(P b.h.low) else b.h.scan=P b.h.low/\b.h.old=[]/\b.h.far=[])
 room:(P b.h.low:Int)+P b.h.high+((Yx (obs b 3)+Yx (obs b 4):Nat):Int)<=b.h.cap
 fit:Ym b.h.scan
def RU(b:Bt):Pts:=⟨obs b 1,obs b 2,obs b 3,obs b 4⟩
theorem Bu(b:Bt){k:Int}(d:1<=k/\k<=4):(RU b).at k=obs b k:=by
 have a:k=1\/k=2\/k=3\/k=4:=Z0;obtain rfl|rfl|rfl|rfl:=a<;>rfl
section
variable {b:Bt}{x:Rw}
def Made.fill(m:Made b x):(Yr x b).ok/\Zu (Yr x b)=Zu b.h/\(Yr x b).scan=b.h.scan/\(Yr x b).cycle=b.h.cycle:=Ey m.pl.ok m.fit
def Made.tiles(m:Made b x){k:Int}(a:1<=k/\k<=4):Tiles (Zx (Yr x b) k) (decide (2<k)) 0 (obs b k):=Z3X m.pl m.lay m.nine a
def Made.start(m:Made b x){k a:Int}(f:1<=k/\k<=4)(d:0<=a/\a<YQ (Zu b.h) k):YV (Yr x b) k a=fstL (Zu b.h) k+a:=by
 unfold YV;rw[m.fill.2.1,R8 m.lay f d]
def qd(n:Nd):1<=ZI n:=by grind [ZI]
def Made.ob_here(m:Made b x){i:Nat}(a:i<P b.g.nodes)(d:(ZD b i).part≠0):∃o∈obs b (ZD b i).part,o.at_=(ZD b i).at_/\o.size=((ZN b i).ptrs.length:Int)+(ZN b i).data.length/\o.ptrs=(ZN b i).ptrs.length/\o.gone=xh:=
 ⟨_,QM.2 ⟨i,a,by unfold Xa;rw[if_pos rfl];exact .head _⟩,rfl,rfl,rfl,rfl⟩
def Made.ob_old(m:Made b x){i:Nat}(f:i<P b.g.nodes)(h:(Y2 b i).part≠0):∃o∈obs b (Y2 b i).part,o.at_=(Y2 b i).at_:=by
 obtain⟨j,k,l,n⟩:=m.pl.old_in f h;have a:¬(ZD b i).part=(Y2 b i).part:=by
  by_cases d:(ZD b i).part=0;omega;have:=(m.pl.here_in f d).1;omega
 by_cases d:(ZD b i).part=0;exact⟨_,QM.2 ⟨i,f,by unfold Xa;rw[if_neg a,if_pos rfl,if_pos d];exact .head _⟩,rfl⟩;exact⟨_,QM.2 ⟨i,f,by unfold Xa;rw[if_neg a,if_pos rfl,if_neg d];exact .head _⟩,rfl⟩
def Made.to_here(m:Made b x){i:Nat}(d:i<P b.g.nodes):Xs (Yr x b) (RU b) (YD b.h (ZD b i)) 1 2=xy:=by
 by_cases a:(ZD b i).part=0;simp_all[YD,ZD,if_pos,Xs];obtain⟨k,l,n⟩:=m.pl.here_in d a;have p:=qd (ZN b i);obtain⟨o,j,f,_⟩:=m.ob_here d a;rw[m.pl.ref_here m.lay d a];unfold Xs;rw[U3 m.lay Z0];have:(Yy (Yr x b) (ZD b i).part (obs b (ZD b i).part) (fstL (Zu b.h) (ZD b i).part+(ZD b i).at_)).isSome=xy:=by
  refine qG.2 ⟨o,j,?_⟩;rw[f,m.start Z0 ⟨Z0,Z0⟩]
 grind [Bu]
def Made.to_old(m:Made b x){i:Nat}(d:i<P b.g.nodes):Xs (Yr x b) (RU b) (YD b.h (Y2 b i)) 3 4=xy:=by
 by_cases a:(Y2 b i).part=0;simp_all[YD,Y2,if_pos,Xs];obtain⟨k,l,_,n⟩:=m.pl.old_in d a;have p:=qd (ZN b i);obtain⟨o,j,f⟩:=m.ob_old d a;rw[m.pl.ref_old m.lay d a];unfold Xs;rw[U3 m.lay Z0];have:(Yy (Yr x b) (Y2 b i).part (obs b (Y2 b i).part) (fstL (Zu b.h) (Y2 b i).part+(Y2 b i).at_)).isSome=xy:=by
  refine qG.2 ⟨o,j,?_⟩;rw[f,m.start Z0 ⟨Z0,Z0⟩]
 grind [Bu]
def Made.same_at(m:Made b x){k:Int}(j:1<=k/\k<=4){o q:Ob}(f:o∈obs b k)(g:q∈obs b k)(h:q.at_=o.at_):q=o:=by
 have d:=m.tiles j;obtain a|a|a:=d.apart q g o f;exact a;have:=Yv.1 (d.stands q g).1.shape;omega;have:=Yv.1 (d.stands o f).1.shape;omega
def Made.ob_in(m:Made b x){k:Int}(d:1<=k/\k<=4){o:Ob}(f:o∈obs b k):0<=o.at_/\o.at_<YQ (Zu b.h) k:=by
 have a:=((m.tiles d).stands o f).1;have g:=Yv.1 a.shape;have j:=a.fits;have l:=a.nat;have:YQ (Zu b.h) k=P (Zx (Yr x b) k):=by rw[<-m.fill.2.1,MN _ d]
 omega
def Made.find(m:Made b x){k:Int}(a:1<=k/\k<=4){o:Ob}(d:o∈obs b k):Yy (Yr x b) k (obs b k) (fstL (Zu b.h) k+o.at_)=xk o:=by
 rw[<-m.start a (m.ob_in a d)];refine DE d λq f e=>m.same_at a d f ?_;rw[m.start a (m.ob_in a d),m.start a (m.ob_in a f)]at e;omega
def Z3e{k:Int}{i:Nat}{o:Ob}(h:o∈Xa b k i)(a:o.gone=xy):¬(ZD b i).part=k/\(Y2 b i).part=k/\¬(ZD b i).part=0/\o=⟨(Y2 b i).at_,((ZN b i).ptrs.length:Int)+(ZN b i).data.length,(ZN b i).ptrs.length,xy,(adr (YD b.h (ZD b i))).1⟩:=by
 grind [Xa]
def Made.gone(m:Made b x){k:Int}(y:3<=k/\k<=4):Qe (Yr x b) (obs b 1) (obs b k):=by
 intro o n j;obtain⟨i,d,g⟩:=QM.1 n;obtain⟨u,w,f,rfl⟩:=Z3e g j;obtain⟨z,A,B⟩:=m.pl.here_in d f;have l:=(m.pl.old_in d Z0).2.2.1;have a:(ZD b i).part=1:=Z0;obtain⟨q,h,p,r,t,_⟩:=m.ob_here d f;rw[a]at h;refine⟨q,?_,r,t⟩;simp only;rw[m.pl.ref_here m.lay d f,U3 m.lay Z0,a,<-p];exact m.find Z0 h
def Made.parts(m:Made b x):XF (Yr x b)=xk (RU b):=
 Iz (m.tiles (k:=1) Z0) (m.tiles (k:=2) Z0) (m.tiles (k:=3) Z0) (m.tiles (k:=4) Z0) (m.gone Z0) (m.gone Z0)
def N9(l r:Zj)(a:Int):Xw (l++r) a=Xw l a+Xw r a:=by simp[Xw]
def Nb(b:Bt)(k:Int)(j:Nat)(a:Int):Xw (Xa b k j) a=if ¬(ZD b j).part=k/\(Y2 b j).part=k/\¬(ZD b j).part=0/\(adr (YD b.h (ZD b j))).1=a then 1 else 0:=by
 unfold Xa;by_cases d:(ZD b j).part=k;simp_all[if_pos,if_neg,Xw];rw[if_neg d];by_cases f:(Y2 b j).part=k;rw[if_pos f];by_cases g:(ZD b j).part=0;simp_all[if_pos,if_neg,Xw];rw[if_neg g];by_cases l:(adr (YD b.h (ZD b j))).1=a;simp_all[if_pos,Xw];simp_all[if_neg,Xw];simp_all[if_neg,Xw]
def Made.once(m:Made b x)(hc:b.h.cycle=xy){i:Nat}(n:i<P b.g.nodes)(q:(ZD b i).part=1):UQ (RU b) (fstL (Zu b.h) 1+(ZD b i).at_)=1:=by
 have key:∀j,j<=P b.g.nodes->Xw ((List.range j).flatMap (Xa b 3)) (fstL (Zu b.h) 1+(ZD b i).at_)+Xw ((List.range j).flatMap (Xa b 4)) (fstL (Zu b.h) 1+(ZD b i).at_)=if i<j then 1 else 0:=by
  intro j;induction j with
  |zero=>grind [Xw]
  |succ j t=>
   intro G;have t:=t Z0;have a:j<P b.g.nodes:=Z0;rw[Zg0,ZfH,ZfH,N9,N9];simp only[Zhp,List.flatMap_nil,Zf5];have p:Xw (Xa b 3 j) (fstL (Zu b.h) 1+(ZD b i).at_)+Xw (Xa b 4 j) (fstL (Zu b.h) 1+(ZD b i).at_)=if j=i then 1 else 0:=by
    rw[Nb,Nb];by_cases l:(ZD b j).part=0;grind;obtain⟨H,C,I⟩:=m.pl.here_in a l;by_cases d:(ZD b j).part=1;have y:=m.cyc hc j a d;obtain⟨v1,_⟩:=m.pl.old_in a y;have B:(adr (YD b.h (ZD b j))).1=fstL (Zu b.h) 1+(ZD b j).at_:=by rw[m.pl.ref_here m.lay a l,U3 m.lay Z0,d]
    have heq:(fstL (Zu b.h) 1+(ZD b j).at_=fstL (Zu b.h) 1+(ZD b i).at_)↔j=i:=by
     constructor;intro e;obtain⟨w1,w2,w3⟩:=m.pl.here_in n Z0;rw[d]at C;rw[q]at w2;have z:=qd (ZN b i);have A:=qd (ZN b j);have D:P (YR b x 1 i)=ZI (ZN b i):=by unfold YR;rw[if_pos q];exact Uc _ _ _ _
     have F:P (YR b x 1 j)=ZI (ZN b j):=by unfold YR;rw[if_pos d];exact Uc _ _ _ _
     by_cases w:j<i;obtain⟨r,k⟩:=JA b x 1 (Z0:j+1<=i);rw[VP]at k;grind;by_cases u:i<j;obtain⟨r,k⟩:=JA b x 1 (Z0:i+1<=j);rw[VP]at k;grind;omega;simp_all
    grind;have f:(ZD b j).part=2:=Z0;have o:(Y2 b j).part=0:=by
     by_cases h:(Y2 b j).part=0;exact h;exact absurd f (m.pl.old_in a h).2.2.1
    grind
   grind
 have:=key (P b.g.nodes) (ZdL _);rw[if_pos n]at this;exact this
end
end
section
section
variable {b:Bt}{x:Rw}
def Made.word(m:Made b x){k:Int}(a:1<=k/\k<=4){i t:Nat}(d:i<P b.g.nodes)(h:t< P (YR b x k i)):(Zx (Yr x b) k)[P (YZ b x k i)+t]?=(YR b x k i)[t]? :=by
 rw[Ez m.pl a];obtain⟨r,f⟩:=JA b x k (Z0:i+1<=P b.g.nodes);simp_all[VP,Zew,Ze6,ZgA,Zea]
def G5{p:Pl}{n:Nd}{tw:Int}{j:Nat}(a:j<P n.ptrs):∃q∈n.ptrs,(XL b p n tw)[1+j]?=xk (V4 b ⟨p.part,((p.at_.toNat+1+j:Nat):Int)⟩ q (IntKind.i64.wrap (tw+j))):=by
 refine⟨n.ptrs[j],Ze0 a,?_⟩;simp_all[XL,ZgS,Zgw,Zea,XI]
theorem ju(h:Hp)(p:Pts)(k j:Int):Xs h p 0 k j=xy:=Zdz
def Made.ptr_ok(m:Made b x)(r:∀n∈b.g.nodes,∀q∈n.ptrs,-1<=q/\q< (P b.g.nodes:Int)){i:Nat}(y:i<P b.g.nodes){k:Int}{p:Pl}(o:p.part=k){a:Nat}{d tw:Int}(f:d∈(ZN b i).ptrs)(u:((Zx (Yr x b) k)[a]?).getD 0=V4 b ⟨p.part,(a:Int)⟩ d tw):VX (Yr x b) (RU b) k a=xy:=by
 have w:=r (ZN b i) (by simp_all[ZN,ZdG,Ze0]) d f;unfold VX;simp only[u];unfold V4;rw[o];by_cases l:d<0;simp_all[if_pos,ju];obtain⟨t,rfl⟩:=ZdV (Z0:0<=d);have j:t<P b.g.nodes:=Z0;rw[if_neg l];have g1:=m.to_here (i:=t) j;have g2:=m.to_old (i:=t) j;unfold ZD at g1;unfold Y2 at g2;simp only[ZdW];by_cases h:2<k;simp_all;rw[if_neg h,if_neg h];rw[m.fill.2.2.1];grind
def Made.ptrs(m:Made b x)(C:∀n∈b.g.nodes,∀q∈n.ptrs,-1<=q/\q< (P b.g.nodes:Int)){k:Int}(u:1<=k/\k<=4):Wp (Yr x b) (RU b) k=xy:=by
 unfold Wp;rw[Bu b u,ZdR];intro o D;obtain⟨i,d,a⟩:=QM.1 D;unfold zS;rw[ZdR];intro j h;rw[ZfW]at h;unfold Xa at a;split at a;rename_i f;simp at a;subst a;simp only[ZdW]at h;obtain⟨_,B,_⟩:=m.pl.here_in d Z0;rw[f]at B;have r:YR b x k i=XL b (ZD b i) (ZN b i) (IntKind.i64.wrap (x.slack+i)):=by unfold YR;rw[if_pos f]
 obtain⟨q,z,A⟩:=G5 (b:=b) (p:=ZD b i) (tw:=IntKind.i64.wrap (x.slack+i)) h;have w:=m.word u d (t:=1+j) ZcJ;rw[r,A]at w;simp only;refine m.ptr_ok C d f (tw:=IntKind.i64.wrap (IntKind.i64.wrap (x.slack+i)+j)) z ?_;grind;rename_i f;split at a;rename_i l;obtain⟨_,B,_⟩:=m.pl.old_in d Z0;rw[l]at B;split at a;rename_i y;simp at a;subst a;simp only[ZdW]at h;have r:YR b x k i=XL b (Y2 b i) (ZN b i) 0:=by unfold YR;rw[if_neg f,if_pos l,if_pos y]
 obtain⟨q,z,A⟩:=G5 (b:=b) (p:=Y2 b i) (tw:=0) h;have w:=m.word u d (t:=1+j) ZcJ;rw[r,A]at w;simp only;refine m.ptr_ok C d l (tw:=IntKind.i64.wrap (0+j)) z ?_;grind;rename_i y;simp at a;subst a;simp only[ZdW]at h;have r:YR b x k i=Vq b (ZD b i) (ZN b i):=by unfold YR;rw[if_neg f,if_pos l,if_neg y]
 have w:=m.word u d (t:=1+j) (by grind [Ru,ZI]);have F:(Vq b (ZD b i) (ZN b i))[1+j]?=xk 0:=by
  unfold Vq;rw[ZgS 1 j,Zgw,List.getElem?_replicate,if_pos (by grind [ZI])]
 grind [VX,Int.toNat_natCast,YZ,ju];grind
theorem Made.right(m:Made b x)(z:∀n∈b.g.nodes,∀q∈n.ptrs,-1<=q/\q< (P b.g.nodes:Int)):X5 (Yr x b)=xy:=by
 have j:=m.fill.2.1;have a:(Yr x b).low.length=P b.h.low:=by have:=ZeX Ly.low j;simp only[Zu]at this;omega
 have d:(Yr x b).high.length=P b.h.high:=by have:=ZeX Ly.high j;simp only[Zu]at this;omega
 have u:(Yr x b).old.length=P b.h.old:=by have:=ZeX Ly.old j;simp only[Zu]at this;omega
 have p:(Yr x b).far.length=P b.h.far:=by have:=ZeX Ly.far j;simp only[Zu]at this;omega
 have l:(Yr x b).cap=b.h.cap:=ZeX Ly.cap j;refine Mj ?_ m.parts ?_;unfold Tg;have M:=m.scan;have y:=m.pl.ok.rl;have K:(Yr x b).roots.length<=5:=by simp only[Yr,Zek];exact y
 rw[j,m.lay,m.fill.2.2.1,m.fill.2.2.2,a,u,p];grind;unfold S5;simp only[ZdJ,Ze2];refine⟨⟨⟨⟨⟨⟨?_,?_⟩,m.ptrs z Z0⟩,m.ptrs z Z0⟩,m.ptrs z Z0⟩,m.ptrs z Z0⟩,?_⟩;rw[m.fill.2.2.2];cases I:b.h.cycle;rfl;simp only[Zgt,Zgh,ZdR];intro o G;obtain⟨i,F,f⟩:=QM.1 G;have D:(ZD b i).part=1/\o.at_=(ZD b i).at_:=by
  unfold Xa at f;split at f;simp_all;split at f;rename_i L;have:=(m.pl.old_in F Z0).1;omega;grind
 have A:=m.ob_in (k:=1) Z0 G;unfold R0;rw[m.start Z0 A,D.2,Ze2];exact m.once I F D.1;rw[ZdR];intro w H;simp only[Yr,ZdX]at H;obtain⟨r,J,rfl⟩:=H;have y:=m.pl.ok.rts r J;by_cases C:0<=r;rw[if_pos C];have B:=K4 (x:=x) m.pl.ok (P b.g.nodes) (ZdL _);rw[BE B];obtain⟨t,rfl⟩:=ZdV C;exact m.to_here (i:=t) Z0;simp_all[if_neg,ju];rw[a,d,l];exact m.room
end
end
section
def NO(l r:Zj):Yx (l++r)=Yx l+Yx r:=by simp[Yx]
section
variable {x:Rw}{c:Bool}
def Z8j{b:Bt}(f:Placed b x){i:Nat}(p:i<P b.g.nodes):Yx (Xa b 3 i)+Yx (Xa b 4 i)=if(ZD b i).part=0 then ZI (ZN b i)else 0:=by
 have q:((1:Nat)+(((ZN b i).ptrs.length:Int)+(ZN b i).data.length).toNat)=ZI (ZN b i):=by unfold ZI;omega
 obtain⟨l,k,a,d⟩|⟨l,_⟩:=f.here i p;have j:(ZD b i).part=0:=by rw[l]
 rw[if_pos j];obtain rfl|rfl:=a<;>simp[Xa,j,d,Yx,WT,q];have h:¬(ZD b i).part=0:=Z0;have n:¬(ZD b i).part=3:=Z0;have o:¬(ZD b i).part=4:=Z0;have:∀k:Int,¬(ZD b i).part=k->Yx (Xa b k i)=0:=λk a=>by
  unfold Xa;rw[if_neg a,if_neg h];split<;>simp[Yx,WT]
 rw[if_neg h,this 3 n,this 4 o]
def NT(hx:x.ok):∀j,j<=(ZS x.nodes x.roots).nodes.length->Yx ((List.range j).flatMap (Xa (Ys x c) 3))+Yx ((List.range j).flatMap (Xa (Ys x c) 4))=(Y0 x c (ZS x.nodes x.roots) j).wt
 |0,_=>rfl
 |j+1,g=>by
  have h:=NT hx j Z0;have a:=Z8j (N0 (c:=c) hx) (i:=j) (by rw[SZ];omega);rw[JS Z0]at a;have f:ZN (Ys x c) j=((ZS x.nodes x.roots).nodes[j]?).getD default:=rfl;rw[f]at a;rw[Zg0,ZfH,ZfH,NO,NO,Y0];simp only[Zhp,List.flatMap_nil,Zf5];generalize ((ZS x.nodes x.roots).nodes[j]?).getD default=n at*;unfold Rx at a;simp only[X2];obtain d|d|⟨d,rfl⟩:=So x j c;simp[d]at a⊢;omega;simp[d]at a⊢;omega;simp[d]at a⊢;omega
def Z3l(x:Rw)(c:Bool):∀n∈(Ys x c).g.nodes,∀q∈n.ptrs,-1<=q/\q< ((Ys x c).g.nodes.length:Int):=by
 rw[SZ];exact GD x.nodes x.roots
def GQ(hc:c=xh):∀j,(Y0 x c (ZS x.nodes x.roots) j).n3=0/\(Y0 x c (ZS x.nodes x.roots) j).n4=0
 |0=>⟨rfl,rfl⟩
 |j+1=>by
  have:=GQ hc j;subst hc;simpa[Y0,X2]using this
def Gw(hx:x.ok)(hc:c=xy->(Ys x xy).h.low.length≠0):Made (Ys x c) x:=by
 obtain⟨k1,y,z⟩:=L4 hx c;refine⟨N0 hx,z,?_,?_,?_,?_,y⟩;rw[SZ];exact Cm x;intro a i l j;have k:c=xy:=a;subst k;rw[SZ]at l;rw[JS l]at j;rw[zZ l];unfold Rx at j;unfold QU;obtain f|f|⟨f,_⟩:=So x i xy;simp[f]at j;simp[f];cases Wj x i<;>simp;simp[f]at j;have d:(Ys x c).h.low.length=(Y0 x c (ZS x.nodes x.roots) (ZS x.nodes x.roots).nodes.length).n1:=by simp[Ys]
 cases c;obtain⟨p,q⟩:=GQ (x:=x) (c:=xh) rfl (ZS x.nodes x.roots).nodes.length;rw[d];have o:(Ys x xh).h.scan=((Y0 x xh (ZS x.nodes x.roots) (ZS x.nodes x.roots).nodes.length).n1:Int):=by simp[Ys]
 have a:(Ys x xh).h.cycle=xh:=rfl;rw[o,a];simp only[ZdZ,Zeu];refine⟨Z0,Z0,trivial,?_,?_⟩<;>simp[Ys,p,q];have f:=hc rfl;rw[d]at f;rw[d];have o:(Ys x xy).h.scan=pick x.scan (Y0 x xy (ZS x.nodes x.roots) (ZS x.nodes x.roots).nodes.length).n1:=by
  simp only[Ys];rw[if_pos ⟨trivial,Z0⟩]
 have a:(Ys x xy).h.cycle=xy:=rfl;have u:=UK (c:=x.scan) (n:=((Y0 x xy (ZS x.nodes x.roots) (ZS x.nodes x.roots).nodes.length).n1:Int)) Z0;rw[o,a];simp only[Zer];omega;have w:=NT (c:=c) hx (ZS x.nodes x.roots).nodes.length (ZdL _);have t:(Ys x c).h.low.length=(Y0 x c (ZS x.nodes x.roots) (ZS x.nodes x.roots).nodes.length).n1:=by simp[Ys]
 have r:(Ys x c).h.high.length=(Y0 x c (ZS x.nodes x.roots) (ZS x.nodes x.roots).nodes.length).n2:=by simp[Ys]
 have g:(Ys x c).h.cap=max (((Y0 x c (ZS x.nodes x.roots) (ZS x.nodes x.roots).nodes.length).n1:Int)+(Y0 x c (ZS x.nodes x.roots) (ZS x.nodes x.roots).nodes.length).n2+(Y0 x c (ZS x.nodes x.roots) (ZS x.nodes x.roots).nodes.length).wt) (((Y0 x c (ZS x.nodes x.roots) (ZS x.nodes x.roots).nodes.length).n3:Int)+(Y0 x c (ZS x.nodes x.roots) (ZS x.nodes x.roots).nodes.length).n4)+pick x.slack 12:=rfl;have u:=UK (c:=x.slack) (n:=12) Z0;unfold obs;rw[SZ,w,t,r,g];omega
def Z1g(hx:x.ok):∃c,UB x=Yr x (Ys x c)/\Made (Ys x c) x:=by
 unfold UB;by_cases h:(Ys x xy).h.low.length=0;rw[if_pos h];exact⟨xh,rfl,Gw hx Z1⟩;rw[if_neg h];exact⟨xy,rfl,Gw hx λ_=>h⟩
def Z1i(hx:x.ok):X5 (UB x)=xy:=by
 obtain⟨c,h,m⟩:=Z1g hx;rw[h];exact m.right (Z3l x c)
end
end
def R7:Prop:=∀(h:Hp) (p:Pts) (k:Int),h.ok->Rt h p->0<=k->Ym k->VC Sol.prog 74 xh [ZJ h,vi k] (.tup [ZJ (Yb h k.toNat),vi 0])
def VZ(h:Hp)(k:Int):Hp×Int:=if k<0\/X5 h=xh then(Hp.zero,1)else(Yb h k.toNat,0)
def Rm(h:Hp):Hp×Int:=if X5 h=xh then(Hp.zero,1)else(Yb h 9223372036854775807,0)
def Jr(j:R7){h:Hp}(f:h.ok){k:Int}(l:Ym k):VC Sol.prog 39 xh [ZJ h,vi k] (.tup [ZJ (VZ h k).1,vi (VZ h k).2]):=by
 refine ZU Sol.func39 follows Z2 PY rfl ?_;have k1:=Lf f;simp only[ZJ]at k1;unfold VZ;simp[I9];by_cases a:0<=k;case neg=>simp[a,show k<0 by omega,ZJ,Hp.zero]
 have d:¬k<0:=Z0;simp only[a,d,Zer,false_or];refine Zy k1 Z1 ?_;cases n:X5 h;simp[ZJ,Hp.zero];obtain⟨p,r⟩:=yL.1 n;have g:=j h p k f r Z0 l;simp only[ZJ]at g⊢;simp;refine Zy g Z1 ?_;simp
def CS(f:R7){h:Hp}(a:h.ok):VC Sol.prog 41 xh [ZJ h] (.tup [ZJ (Rm h).1,vi (Rm h).2]):=by
 refine ZU Sol.func41 follows Z2 p5 rfl ?_;have k1:=Lf a;simp only[ZJ]at k1;unfold Rm;simp[Ib];refine Zy k1 Z1 ?_;cases g:X5 h;simp[ZJ,Hp.zero];obtain⟨p,r⟩:=yL.1 g;have d:=f h p 9223372036854775807 a r Z0 ⟨Z0,Z0⟩;simp only[ZJ]at d⊢;simp;refine Zy d Z1 ?_;simp
def Tx:Hp:=⟨10,5,1,xy,0,[2,6],[],[31,0],[],[31]⟩
def Tz:Hp:=⟨10,5,1,xy,1,[2,6],[],[31,0],[],[31]⟩
def Uw:Hp:=⟨10,5,1,xh,2,[2,6],[],[],[],[31]⟩
def je:Tx.ok:=by refine⟨?_,?_,?_,?_,?_,?_,?_,?_,?_,?_,?_,?_,?_,?_⟩<;>simp[Tx,ZC,Ym]
def Es:Tz.ok:=by refine⟨?_,?_,?_,?_,?_,?_,?_,?_,?_,?_,?_,?_,?_,?_⟩<;>simp[Tz,ZC,Ym]
def Et:Uw.ok:=by refine⟨?_,?_,?_,?_,?_,?_,?_,?_,?_,?_,?_,?_,?_,?_⟩<;>simp[Uw,ZC,Ym]
def Z8o:Hp.zero.ok:=by refine⟨?_,?_,?_,?_,?_,?_,?_,?_,?_,?_,?_,?_,?_,?_⟩<;>simp[Hp.zero,ZC,Ym]
def OX(a:R7):VC Sol.prog 37 xh [] (.bool xy):=by
 refine ZU Sol.func37 follows Z2 PW rfl ?_;have p:X5 Tx=xy:=ZcM;have w:X5 Tz=xy:=ZcM;have x:X5 Hp.zero=xh:=ZcM;have y:X5 Uw=xy:=ZcM;have q:VZ Tx 1=(Tz,0):=by
  unfold VZ;rw[p,if_neg Z1];have:Yb Tx (1:Int).toNat=Tz:=ZcM;rw[this]
 have r:VZ Tx 2=(Uw,0):=by
  unfold VZ;rw[p,if_neg Z1];have:Yb Tx (2:Int).toNat=Uw:=ZcM;rw[this]
 have t:Rm Tz=(Uw,0):=by
  unfold Rm;rw[w,if_neg Z1,show(9223372036854775807:Nat)=1+9223372036854775806 from rfl,BT];have:Yb Tz 1=Uw:=ZcM;rw[this,J7 rfl]
 have u:VZ Tx (-1)=(Hp.zero,1):=by unfold VZ;rw[if_pos Z1]
 have r5:Rm Hp.zero=(Hp.zero,1):=by unfold Rm;rw[x,if_pos rfl]
 have r6:VZ Uw 9=(Uw,0):=by
  unfold VZ;rw[y,if_neg Z1,J7 rfl]
 have f:=Jr a je (k:=1) ⟨Z0,Z0⟩;have g:=Jr a je (k:=2) ⟨Z0,Z0⟩;have h:=CS a Es;have j:=Jr a je (k:= -1) ⟨Z0,Z0⟩;have l:=CS a Z8o;have n:=Jr a Et (k:=9) ⟨Z0,Z0⟩;have o:=BQ (b:=Tz) Es;have d:=BQ (b:=Uw) Et;rw[q]at f;rw[r]at g;rw[t]at h;rw[u]at j;rw[r5]at l;rw[r6]at n;simp only[ZJ,Tx,Tz,Uw,Hp.zero,Zee,Zfm]at f g h j l n o d;simp[I8];refine Zy f Z1 ?_;simp;refine Zy g Z1 ?_;simp;refine Zy h Z1 ?_;simp;refine Zy j Z1 ?_;simp;refine Zy l Z1 ?_;simp;refine Zy n Z1 ?_;simp;refine Zy o Z1 ?_;simp;refine Zy d Z1 ?_;simp;refine Zy d Z1 ?_;simp;refine Zy d Z1 ?_;simp
def Z4D{c n:Int}(hc:Ym c)(f:0<n):VC Sol.prog 38 xh [vi c,vi n] (vi (pick c n)):=by
 refine ZU Sol.func38 follows Z2 PX rfl ?_;obtain⟨a,d⟩:=hc;by_cases h:c<0;simp[AT,h];simp(disch:=omega) only[Zz];refine⟨Z0,?_⟩;unfold pick;rw[if_pos h,ZeR Z0];simp[AT,h];refine⟨Z0,?_⟩;unfold pick;rw[if_neg h,ZeR Z0]
def Z5j{h:Hp}{p:Pts}(r:Rt h p)(k:Nat):VZ h k=(Yb h k,0):=by
 unfold VZ;rw[if_neg (by rw[r.right];simp),ZdW]
end Vm
end
section
namespace Vm
open Go Go.Proofs Go.RowKit
def Z6G:R7:=by
 intro h p k D r I C;obtain⟨n,rfl⟩:=ZdV I;rw[ZdW];refine⟨Z2,λw G vs z l d=> ?_⟩;have r0:=d 0 _ rfl;have L:=d 1 _ rfl;have B:vs=#[vs.getD 0 undef,vs.getD 1 undef]:=by
  have a:vs.size=2:=l;apply ZgO;simp[a];intro i M N;have F:i<2:=Z0
  match i,F with
  |0,_=>simp[Array.getD,a]
  |1,_=>simp[Array.getD,a]
 obtain⟨o,t,K⟩:=Fg r0;have u:=SP L;rw[B,t,u];refine(Z6H w G z h D o K r (by have:=C.2;omega)).mono ?_;rintro e O ⟨x,rfl,g,J⟩;refine⟨_,rfl,g,?_⟩;refine .tup _ _ rfl ?_;intro i y f
 match i,f with
 |0,f=>cases f;exact Ff λj H=>(J j H).mono λb A=>A.imp (λq=>⟨rfl,q⟩) id
 |1,f=>cases f;exact .int _ _
end Vm
end
section
namespace Vm
open Go Go.Conc Go.ConcN
section
section
variable {P:Z5}{Stop:Z7}{b:Zf}{k:Zp}{cs:Z6}{a:Act}{w:Z4}
def Walk.two{x y:Code}(h:Walk P Stop (b.at a (.code x:: .code y::k)) cs w):Walk P Stop (b.at a (.code (.seq x y)::k)) cs w:=.go (λw=>stepG_seq) h
def Walk.region{id:Nat}{ops:Zq}(h:Walk P Stop (b.at a (.inRegion ops (List.range ops.size)::k)) cs w):Walk P Stop (b.at a (.code (.region id ops xh)::k)) cs w:=.go (λw=>stepG_region) h
def Walk.regEnd{ops:Zq}(h:Walk P Stop (b.at a k) cs w):Walk P Stop (b.at a (.inRegion ops []::k)) cs w:=.go (λw=>stepG_region_end) h
def Walk.val{ops:Zq}{i:Nat}{rest:Zd}{o:Oper}{v:Ze}(q:ops[i]?=xk o)(r:Region.wanted o (yielded ops a.tmps)=xy)(p:b.kind≠.early)(n:Qm P o.op=xy)(j:∀g:Z4,g.heap=w.heap->(execOp a.eval o).run P g=.ok (.value v) g)
  (h:Walk P Stop (b.at (a.put o.dst v) (.inRegion ops rest::k)) cs w):Walk P Stop (b.at a (.inRegion ops (i::rest)::k)) cs w:=by
 refine .one λd=> ?_;have f:EvsB (U (R (Y9 ((execOp a.eval o).run P (w.at d))))) (listed P b.fn a o (w.at d)):=λe l=>En n a (w.at d) e (mem_listed l);rw[j (w.at d) rfl]at f;exact⟨_,_,_,_,stepG_value q r p (j (w.at d) rfl),ZdL _,f,h.at d⟩
def Walk.chan{ops:Zq}{i:Nat}{rest:Zd}{o:Oper}{t p:Zg}{dir:ChanDir}{inf:TypeInfo}{f:Zs}(z:ops[i]?=xk o)(B:Region.wanted o (yielded ops a.tmps)=xy)(y:b.kind≠.early)(j:o.op=.makeChan t (.const (.int f 0)))(l:P.underlying t=xk (.chan dir p))(g:P.info? p=xk inf)
  (h:Walk P Stop (b.at (a.put o.dst (.chan (xk (U (R w))))) (.inRegion ops rest::k)) cs (w.alloc (.chan 0 #[] xh 0 0 xh))):Walk P Stop (b.at a (.inRegion ops (i::rest)::k)) cs w:=by
 refine .one λd=> ?_;have n:execOp a.eval o=(do pure (.value (<-Instr.makeChan t (.int f (0:Nat)))):Sem Next):=by unfold execOp;simp only[j];rfl
 have A:(execOp a.eval o).run P (w.at d)=.ok (.value (.chan (xk (U (R w))))) ((w.alloc (.chan 0 #[] xh 0 0 xh)).at d):=by
  rw[n];simp only[Zel,run_makeChan (w:=w.at d) l g f 0 Z0 Z0,Zem];rfl
 have x:(execOp a.eval o).events P (w.at d) #[]=#[]:=by
  rw[n];have q:=events_makeChan (P:=P) (w:=w.at d) l g f 0 Z0 Z0 #[];have r:(Instr.makeChan t (.int f (0:Nat))).runT P (w.at d) #[]=(.ok (.chan (xk (U (R w)))) ((w.alloc (.chan 0 #[] xh 0 0 xh)).at d), #[]):=by
   refine Zg9 ?_ q;rw[ZfP];exact run_makeChan (w:=w.at d) l g f 0 Z0 Z0
  show((Sem.bind _ _).runT P (w.at d) #[]).2=_;rw[ZfT,r];rfl
 refine⟨_,_,_,_,stepG_value z B y A,by show U (R w)<=U (R (w.alloc _));simp,λe u=> ?_,h.at d⟩;have:=mem_listed u;simp_all
def Walk.fork{fr D:Zf}{l:Zi}(T:∀w:Z4,stepG P xy (G fr cs) w=.spawn (G D cs) l w #[])
  (H:∀(n d:Nat) (gs:Zc) (sl:Option (Nat×Nat)) (t:Trace) (q:Zk),0<n->gs.size=n+1->gs[0]?=xk (G D cs)->gs[n]?=xk l->YG P n gs q->(∀Y Z M,TI n Y Z M (xz (xj w)) t)->Win P (CQ P Stop) gs (w.at d) sl t):Walk P Stop fr cs w:=by
 intro d0 gs sl t q hl N r;have R:∀(f:Zc) g,f[f.size]? ≠xk g:=λf g e=>by
  simp_all
 refine skip hl (λi g O z=> ?_) ⟨0,_,.inl rfl,N,rfl⟩ λf d L q' i g a1 B Q O a2 a0=> ?_;obtain rfl|rfl:=O;rw[N]at z;cases z;exact⟨awake_of (.inl rfl),λg1 g2 d=>woken_run rfl⟩;simp_all;obtain rfl|rfl:=O;have F:f[0]?=xk (G fr cs):=by rw[B 0 (.inl rfl)];exact N
 have J:0<f.size:=(ZdM.1 F).1;have A:=runT_crowd_spawn (P:=P) (sl:=L) (i:=0) (w:=w.at d) F (T (w.at d));refine⟨_,_,_,_,A,?_⟩;generalize hx:({g:=0,fn:=(G fr cs).frame.fn,pos:=(G fr cs).frame.place,act:=.go f.size}:MemOp)=x;generalize hy:({g:=f.size,fn:=l.frame.fn,pos:=(G fr cs).frame.place,act:=.start}:MemOp)=y;have I:((MemOp.ofEvents 0 (G fr cs).frame.fn (G fr cs).frame.place #[]).push x).push y=#[x,y]:=by simp[MemOp.ofEvents]
 rw[I];have U:x.g=0/\x.act=.go f.size:=by rw[<-hx];exact⟨rfl,rfl⟩
 have W:y.g=f.size/\y.act=.start:=by rw[<-hy];exact⟨rfl,rfl⟩
 refine H f.size d _ L _ q' J Z1 ?_ ZcJ (λj g hj a3 z=> ?_) λY Z M=> ?_;grind;rw[Zg1]at z;simp only[ZfY]at z;rw[if_neg Z0,ZeE Z0]at z;exact Q j g hj Z0 z;have t0:TI f.size (λ_=>True) (λ_=>False) M (xz (xj w)) t:=⟨r.clean,r.hears,r.low,λi op x p o C=>.inl (r.known i op x p o C),λi op x p o C=>.inr (.inr ⟨λ_=>by simp_all[GB,trivial],λb _ h=>h⟩)⟩
 have X:=t0.comm (ZdL _) #[x,y] (λop S=>by
  have:op=x\/op=y:=by simpa using S
  obtain rfl|rfl:=this;simp_all[MemAct.touch?];simp_all[MemAct.touch?])
 have K:∀(i:Nat) (op:MemOp) (u:Touch),(t++ #[x,y])[i]?=xk op->op.act.touch?=xk u->t[i]?=xk op:=λi op u p o=>by
  obtain⟨_,h⟩|⟨_,h⟩:=getElem?_append_cases p;exact h;have:op=x\/op=y:=by simpa using h
  obtain rfl|rfl:=this;simp_all[MemAct.touch?];simp_all[MemAct.touch?]
 refine⟨X.clean,X.hears,X.low,λi op u p o C=>.inl ((r.known i op u (K i op u p o) o C).app _),λi op u p o C=>.inr (.inl ?_)⟩;exact fork_knows U W (r.hears 0) (r.hears _) (r.known i op u (K i op u p o) o C);simp_all
def Walk.meet{fr p:Zf}{f:Zi}{c:Nat}{KA KB OA0:Z3}{StopA:(Nat->Prop)->Goroutine->World->Prop}{vs:Zl}{z:Ze}(D:∀w:Z4,stepG P xy (G fr cs) w=.spawn (G p cs) f w #[])
  (O:Play P xy c KA StopA (vs.map .recv++[.closed z]) OA0 (G p cs) w) (Q:Play P xh c KB (Uo P c) (vs.map .send) (λ_=>False) f w) (r:w.heap[c]?=xk (.chan 0 #[] xh 0 0 xh))
  (la:∀b,OA0 b->b<xz (xj w)) (ka:∀b,KA b->b<xz (xj w)) (kb:∀b,KB b->b<xz (xj w)) (I:∀b,OA0 b->¬KB b) (M:¬OA0 c) (y:¬KA c) (A:¬KB c)
  (u:∀x a j,StopA x a j->xz (xj w)<=xz (xj j)->j.tape=w.tape->(j.os,j.output)=(w.os,w.output)->(∀b,x b->(OA0 b\/xz (xj w)<=b)/\b<xz (xj j))->(∀b,b<xz (xj w)->¬OA0 b->b≠c->j.heap[b]?=w.heap[b]?)->∃o l,a=G o l/\Walk P Stop o l j):Walk P Stop fr cs w:=by
 refine .fork D λn d gs sl t q U F N C T H=> ?_;have R:Cfg P n c KA KB OA0 (w.at d) OA0 (λ_=>False) gs (w.at d) t q:=
  ⟨U,T,H _ _ _,la,λ_ h=>h.elim,ka,kb,λ_ _ h=>h,I,M,y,A,(ZdM.1 r).1,ZdL _,rfl,rfl,λ_ h=>.inl h,λ_ h=>h.elim,λ_ _ _ _=>rfl⟩
 have W:=(Z4B (P:=P) (n:=n) (KB:=KB) (OA0:=OA0) (w0:=w.at d) O).opn vs z (λ_=>False) f gs (w.at d) sl t q 0 0 xh rfl R F N C (Rely.at _ _ _ d) (.run (Q.rely (Rely.at _ _ _ d))) r;refine W.bind λB w1 J t1 ⟨L,x,OB,q1,X,k1,Y,g,Z,k5⟩=> ?_;obtain⟨o,l,rfl,S⟩:=u x L w1 Y g.b0 g.tape g.os (λb K=>⟨g.oa b K,g.la b K⟩) g.fr;exact S w1.drawn B J t1 q1 Z X ⟨g.ti.clean,g.ti.hears,g.ti.low,k5⟩
end
end
end Vm
end
section
namespace Vm
open Go Go.Conc
section
section
variable {Q:Z5}{c:Nat}{Post:Z7}{es:ZcH}{fr fr':Zf}{cs cs':Z6}{w w':Z4}
def LS.steps:∀ {es:ZcH} {fr fr':Zf} {cs cs':Z6} {w w':Z4},Steps Q (lone fr (cs++[YL Q]) w) (lone fr' (cs'++[YL Q]) w')->LS Q c Post es fr' cs' w'->LS Q c Post es fr cs w
 | [],_,_,_,_,_,_,h,⟨n,d,c2,w2,f,g⟩=>let⟨m,j⟩:=Steps.trans h ⟨n,f⟩;⟨m,d,c2,w2,j,g⟩
 |e::es,_,_,_,_,_,_,h,⟨n,d,c2,w2,f,g⟩=>let⟨m,j⟩:=Steps.trans h ⟨n,f⟩;⟨m,d,c2,w2,j,g⟩
def LS.ev{e:Ev}(h:Vk Q c e fr)(k:LS Q c Post es (Xq e fr) cs w):LS Q c Post (e::es) fr cs w:=⟨0,fr,cs,w,rfl,h,k⟩
def LS.now(h:Post fr cs w):LS Q c Post [] fr cs w:=⟨0,fr,cs,w,rfl,h⟩
end
def CG{P:Z5}{ops:Zq}{w:Z4}{Q g:Act->Prop}(h:∀a,Q a->g a):∀(l:List Oper) (a:Act),wpStill P ops w Q l a->wpStill P ops w g l a
 | [],a,d=>h a d
 |o::l,a,d=>by
  simp only[wpStill]at d⊢;split;rename_i f;rw[if_pos f]at d;exact Oper.still_mono (λa=>CG h l a) d;rename_i f;rw[if_neg f]at d;exact CG h l _ d
def Yn:Code->List Nat->Code
 |c,[]=>c
 |.seq a _,0::l=>Yn a l
 |.seq _ b,_::l=>Yn b l
 |.cond _ a _,0::l=>Yn a l
 |.cond _ _ b,_::l=>Yn b l
 |.block _ a,_::l=>Yn a l
 |.loop a,_::l=>Yn a l
 |.scope a,_::l=>Yn a l
 |c,_=>c
def Kl:Code->Array Oper
 |.region _ ops _=>ops
 |_=> #[]
def qv(Q:Z5)(c:Nat)(Post:Z7)(es:ZcH)(b:Zf)(k:Zp)(cs:Z6):Exit->Act->World->Prop
 |.normal,a,w=>LS Q c Post es (b.at a k) cs w
 |.exit id,a,w=>∃k',exitTo id k=xk k'/\LS Q c Post es (b.at a k') cs w
 |.ret,a,w=>∀d,LS Q c Post es {b.at a d with mode:=.returning} cs w
 |_,_,_=>False
def SC(Q:Z5)(c:Nat)(x:Code)(R:List Ev->Exit->Act->World->Prop)(es:ZcH)(a:Act)(w:Z4):Prop:=
 ∀(Post:Z7) (b:Zf) (k:Zp) (cs:Z6),(∀d e f w',R d e f w'->qv Q c Post d b k cs e f w')->LS Q c Post es (b.at a (.code x::k)) cs w
def ST(Q:Z5)(c:Nat)(ops:Zq)(R:List Ev->Exit->Act->World->Prop)(l:Zd)(es:ZcH)(a:Act)(w:Z4):Prop:=
 ∀(Post:Z7) (b:Zf) (k:Zp) (cs:Z6),(∀d e f w',R d e f w'->qv Q c Post d b k cs e f w')->LS Q c Post es (b.at a (.inRegion ops l::k)) cs w
section
variable {Q:Z5}{c:Nat}{R R':List Ev->Exit->Act->World->Prop}{es:ZcH}{a:Act}{w:Z4}{x y:Code}
variable {ops:Zq}{l:Zd}
def SC.draw{id:Nat}(h:∀t,ST Q c ops R (Region.schedule (Q.follows .mixedOrders) ops t) es a {w with drawn:=w.drawn+1}):SC Q c (.region id ops xy) R es a w:=λPost b k cs d=>LS.steps (.one step_region_draw) (h _ Post b k cs d)
def ST.nil(h:R es .normal a w):ST Q c ops R [] es a w:=λPost b k cs d=>LS.steps (.one step_region_end) (d _ _ _ _ h)
def ST.omit{i:Nat}(g:((ops[i]?).map (Region.wanted · (yielded ops a.tmps))).getD xh=xh)(f:ST Q c ops R l es (a.put ((ops[i]?).bind (·.dst)) undef) w):ST Q c ops R (i::l) es a w:=λPost b k cs d=>
 LS.steps (.one (step_op_skip g)) (f Post b k cs d)
def ST.still{i:Nat}{K:Act->Prop}(h:stOp Q ops w i K a)(t:∀a,K a->ST Q c ops R l es a w):ST Q c ops R (i::l) es a w:=by
 unfold stOp at h;cases q:ops[i]? with
 |none=>
  rw[q]at h;refine .omit (by simp[q]) ?_;simp_all[Option.bind_none,Act.put]
 |some o=>
  rw[q]at h;dsimp only at h;by_cases u:Region.wanted o (yielded ops a.tmps)=xy;rw[if_pos u]at h;unfold Oper.still at h;intro Post b k cs r;have B:=stepG_op (P:=Q) (b:=b) (k:=k) (cs:=cs++[YL Q]) (w:=w) (rest:=l) q u;have z:∀v,(b.at a (.inRegion ops (i::l)::k)).finish v=b.at (a.put o.dst v) (.inRegion ops l::k):=λv=>by grind [Frame.finish_at]
  revert h
  cases C:(execOp a.eval o).run Q w with
  |halt x w'=>exact False.elim
  |ok n w'=>
   cases n<;>first|exact False.elim|skip
   rename_i v;rintro⟨rfl,h⟩;refine LS.steps (.one (Zhe ?_)) (t _ h Post b k cs r);simp_all[stepG.apply];rintro⟨rfl,h⟩;refine LS.steps (.one (Zhe ?_)) (t _ h Post b k cs r);simp_all[stepG.apply];rename_i f args;rintro⟨rfl,v,A,h⟩;obtain⟨e,j,fr,⟨rfl,rfl⟩,g,_,p⟩:=A (b.at a (.inRegion ops (i::l)::k)::(cs++[YL Q]));have d:step Q (lone (b.at a (.inRegion ops (i::l)::k)) (cs++[YL Q]) j)=.next (lone (Frame.enter Q f args .normal) (b.at a (.inRegion ops (i::l)::k)::(cs++[YL Q])) j):=
    Zhe (by simp_all[stepG.apply,Frame.at])
   refine LS.steps (.head d (g.trans (.one ?_))) (t _ h Post b k cs r);grind [step_leave_returned]
  rw[if_neg u]at h;refine .omit ZcK ?_;simp_all
def ST.ev{i:Nat}{o:Oper}{e:Ev}(B:ops[i]?=xk o)(H:Region.wanted o (yielded ops a.tmps)=xy)(A:match e with
   |.recv _|.closed _=>∃t f d h inf z,o.op=.recv t f xy/\ZV f=xy/\a.eval f=.chan (xk c)/\Q.underlying t=xk (.chan d h)/\Q.info? h=xk inf/\inf.zero=xk z/\∀C,e=.closed C->C=z
   |.send v=>∃f x,o.op=.send f x/\ZV f=xy/\ZV x=xy/\a.eval f=.chan (xk c)/\a.eval x=v)
  (G:ST Q c ops R l es (a.put o.dst e.val) w):ST Q c ops R (i::l) (e::es) a w:=λPost b k cs F=>by
 refine LS.ev ⟨ops,i,l,k,o,rfl,rfl,B,H,?_⟩ ?_;have g:∀x,(b.at a (.inRegion ops (i::l)::k)).eval x=a.eval x:=Frame.eval_at b a _;cases e with
 |recv v=>obtain⟨t,f,d,h,inf,z,j,n,p,q,r,u,_⟩:=A;exact⟨t,f,d,h,inf,z,j,n,by rw[g];exact p,q,r,u⟩
 |closed v=>obtain⟨t,f,d,h,inf,z,j,n,p,q,r,u,D⟩:=A;exact⟨t,f,d,h,inf,j,n,by rw[g];exact p,q,r,by rw[D v rfl];exact u⟩
 |send v=>obtain⟨f,x,j,n,p,q,r⟩:=A;exact⟨f,x,j,n,p,by rw[g];exact q,by rw[g];exact r⟩
 have:Xq e (b.at a (.inRegion ops (i::l)::k))=b.at (a.put o.dst e.val) (.inRegion ops l::k):=by
  unfold Xq;rw[Zgc,B];rfl
 rw[this];exact G Post b k cs F
def ST.head{md:Region.Mode}{n g:Nat}{L:Array Bool->Act->Prop}:∀(f t:Nat) (listed:Array Bool) (a:Act),wpAnyL Q md ops w n L f listed a->(∀listed a t,L listed a->ST Q c ops R (Region.linearise.go md ops g t listed []) es a w)->
  ST Q c ops R (Region.linearise.go md ops (f+g) t listed []) es a w
 |0,t,listed,a,h,j=>by rw[Zet];exact j _ _ _ h
 |f+1,t,listed,a,h,j=>by
  obtain⟨r,u⟩:=h;rw[show f+1+g=(f+g)+1 by omega];simp only[Region.linearise.go]
  change ST Q c ops R (match(Region.ready md ops listed)[t% P (Region.ready md ops listed)]? with
   |some i=>Region.linearise.go md ops (f+g) (t / P (Region.ready md ops listed)) (listed.setIfInBounds i xy) [i]
   |none=>[].reverse) es a w
  cases o:(Region.ready md ops listed)[t% P (Region.ready md ops listed)]? with
  |none=>
   exfalso;have d:0< P (Region.ready md ops listed):=Zgq.2 r;have:=ZfV.1 o;have:=Zh0 t d;omega
  |some i=>
   simp only[];rw[linearise_go_acc,ZhD,ZgR];exact ST.still (u i (ZdO o)).2 λp q=>ST.head f _ _ p q j
def ST.last{n:Nat}{listed:Array Bool}{t:Nat}(h:Region.seqB .any ops 1 n listed=xy)(d:ST Q c ops R [n] es a w):ST Q c ops R (Region.linearise.go .any ops 1 t listed []) es a w:=by
 simp only[Region.seqB,ZdJ,Ze2]at h;simp only[Region.linearise.go]
 change ST Q c ops R (match(Region.ready .any ops listed)[t% P (Region.ready .any ops listed)]? with
   |some i=>[i]
   |none=>[]) es a w
 grind
def SC.last{id n:Nat}{l:List Oper}(F:Q.follows .mixedOrders=xy)(z:Region.lexTailB .any l.toArray n=xy)(r:P l=n+1)(h:wpStill Q l.toArray {w with drawn:=w.drawn+1} (λq=>ST Q c l.toArray R [n] es q {w with drawn:=w.drawn+1}) (l.take n) a):SC Q c (.region id l.toArray xy) R es a w:=by
 refine SC.draw λt=> ?_;simp only[Region.lexTailB,ZdJ,Ze2]at z;obtain⟨⟨⟨⟨o,B⟩,I⟩,C⟩,f⟩:=z;have G:n<P l:=by simpa using B
 have u:P (l.take n)=n:=ZcL;have D:l.toArray.size-n=1:=ZcL;rw[D]at f;have p:HeadInv .any l.toArray n (Array.replicate l.toArray.size xh):=
  ⟨Z1,λj N _ K=>(by grind [getD_replicate_false]),λt _ M=>getD_in ZcJ (getD_replicate_false _ _)⟩
 have H:=wpAnyL_lex (md:=.any) (g:=1) o I C B (l.take n) 0 _ a (λj J=>by
  simp_all) Z0 p ZcK h
 simp only[Region.schedule,F,Bool.true_or,Zer,Region.linearise];have e:l.toArray.size=P (l.take n)+1:=by rw[u];simpa using r
 rw[e];exact ST.head (L:=λd q=>Region.seqB .any l.toArray 1 n d=xy/\ST Q c l.toArray R [n] es q {w with drawn:=w.drawn+1}) _ t _ a (by rw[<-e];exact H) λlisted q O A=>ST.last A.1 A.2
end
section
variable {Q:Z5}{c:Nat}{Post:Z7}{es:ZcH}{a:Act}{w:Z4}{x y:Code}{b:Zf}{k k':Zp}{cs:Z6}
def LS.two(h:LS Q c Post es (b.at a (.code x:: .code y::k)) cs w):LS Q c Post es (b.at a (.code (.seq x y)::k)) cs w:=LS.steps (.one step_seq) h
def LS.condT{o:Operand}(hc:a.eval o=.bool xy)(h:LS Q c Post es (b.at a (.code x::k)) cs w):LS Q c Post es (b.at a (.code (.cond o x y)::k)) cs w:=LS.steps (.one (step_cond hc)) h
def LS.condF{o:Operand}(hc:a.eval o=.bool xh)(h:LS Q c Post es (b.at a (.code y::k)) cs w):LS Q c Post es (b.at a (.code (.cond o x y)::k)) cs w:=LS.steps (.one (step_cond hc)) h
def LS.skip(h:LS Q c Post es (b.at a k) cs w):LS Q c Post es (b.at a (.code .skip::k)) cs w:=LS.steps (.one step_skip) h
def LS.block{id:Nat}(h:LS Q c Post es (b.at a (.code x:: .inBlock id::k)) cs w):LS Q c Post es (b.at a (.code (.block id x)::k)) cs w:=LS.steps (.one step_block) h
def LS.inBlock{id:Nat}(h:LS Q c Post es (b.at a k) cs w):LS Q c Post es (b.at a (.inBlock id::k)) cs w:=LS.steps (.one step_inBlock) h
theorem LS.inLoop(h:LS Q c Post es (b.at a (.code x:: .inLoop x::k)) cs w):LS Q c Post es (b.at a (.inLoop x::k)) cs w:=LS.steps (.one step_inLoop) h
def LS.exit{id:Nat}(d:exitTo id k=xk k')(h:LS Q c Post es (b.at a k') cs w):LS Q c Post es (b.at a (.code (.exit id)::k)) cs w:=LS.steps (.one (step_exit d)) h
def LS.loopI(I:Nat->List Ev->Act->World->Prop){n:Nat}(d:I n es a w)(f:∀n es a w,I n es a w->(∀m es a w,m<n->I m es a w->LS Q c Post es (b.at a (.inLoop x::k)) cs w)->LS Q c Post es (b.at a (.code x:: .inLoop x::k)) cs w):LS Q c Post es (b.at a (.code (.loop x)::k)) cs w:=by
 have key:∀n es a w,I n es a w->LS Q c Post es (b.at a (.code x:: .inLoop x::k)) cs w:=by
  intro n;induction n using Nat.strongRecOn with
  |_ n g=>grind [inLoop]
 exact LS.steps (.one step_loop) (key n es a w d)
def LS.wp{R:Zh}(h:x.wp Q R a w)(o:∀e f w',R e f w'->qv Q c Post es b k cs e f w'):LS Q c Post es (b.at a (.code x::k)) cs w:=by
 obtain⟨e,f,w',q,r⟩:=h b k (cs++[YL Q]);have g:=o e f w' q;cases e with
 |normal=>exact LS.steps r g
 |exit id=>obtain⟨k',j,n⟩:=g;exact LS.steps (r k' j) n
 |ret=>obtain⟨d,r⟩:=r;exact LS.steps r (g d)
 |_=>exact g.elim
def LS.regK(h:∀K:Act->World->Prop,(∀a w,LS Q c Post es (b.at a k) cs w->K a w)->x.wp Q (λe a w=>e=.normal/\K a w) a w):LS Q c Post es (b.at a (.code x::k)) cs w:=
 LS.wp (h _ λ_ _ q=>q) λe g w' ⟨d,f⟩=>by subst d;exact f
def LS.send{id n:Nat}{l:List Oper}{v:Ze}(B:Q.follows .mixedOrders=xy)(z:Region.lexTailB .any l.toArray n=xy)(q:P l=n+1){o:Oper}{g j:Operand}(D:l[n]?=xk o)(A:o.guard=xw)(p:o.op=.send g j)(u:ZV g=xy)(h2:ZV j=xy)
  (h:wpStill Q l.toArray {w with drawn:=w.drawn+1} (λd=>d.eval g=.chan (xk c)/\d.eval j=v/\LS Q c Post es (b.at (d.put o.dst undef) k) cs {w with drawn:=w.drawn+1}) (l.take n) a):LS Q c Post (.send v::es) (b.at a (.code (.region id l.toArray xy)::k)) cs w:=
 SC.last (R:=λf e d w'=>e=.normal/\LS Q c Post f (b.at d k) cs w') B z q (CG (λd ⟨r,t,C⟩=>ST.ev (o:=o) ZcJ (by simp[Region.wanted,A]) ⟨g,j,p,u,h2,r,t⟩ (.nil ⟨rfl,C⟩)) _ _ h) Post b k cs λf e d w' ⟨r,t⟩=>by subst r;exact t
def LS.region{id:Nat}{ops:Zq}(h:LS Q c Post es (b.at a (.inRegion ops (List.range ops.size)::k)) cs w):LS Q c Post es (b.at a (.code (.region id ops xh)::k)) cs w:=LS.steps (.one step_region) h
def LS.value{ops:Zq}{i:Nat}{l:Zd}{o:Oper}{v:Ze}{w':Z4}(g:ops[i]?=xk o)(j:Region.wanted o (yielded ops a.tmps)=xy)(h:(execOp a.eval o).run Q w=.ok (.value v) w')(f:LS Q c Post es (b.at (a.put o.dst v) (.inRegion ops l::k)) cs w'):LS Q c Post es (b.at a (.inRegion ops (i::l)::k)) cs w:=by
 have d:(b.at a (.inRegion ops (i::l)::k)).finish v=b.at (a.put o.dst v) (.inRegion ops l::k):=by grind [Frame.finish_at]
 refine LS.steps (.one (Zhe ?_)) f;simp_all[stepG_op,stepG.apply]
def LS.regEnd{ops:Zq}(h:LS Q c Post es (b.at a k) cs w):LS Q c Post es (b.at a (.inRegion ops []::k)) cs w:=LS.steps (.one step_region_end) h
def LS.event{ops:Zq}{i:Nat}{l:Zd}{o:Oper}{e:Ev}(n:ops[i]?=xk o)(p:Region.wanted o (yielded ops a.tmps)=xy)(q:match e with
   |.recv _|.closed _=>∃t f d g inf z,o.op=.recv t f xy/\ZV f=xy/\a.eval f=.chan (xk c)/\Q.underlying t=xk (.chan d g)/\Q.info? g=xk inf/\inf.zero=xk z/\∀h,e=.closed h->h=z
   |.send v=>∃f x,o.op=.send f x/\ZV f=xy/\ZV x=xy/\a.eval f=.chan (xk c)/\a.eval x=v)
  (r:LS Q c Post es (b.at (a.put o.dst e.val) (.inRegion ops l::k)) cs w):LS Q c Post (e::es) (b.at a (.inRegion ops (i::l)::k)) cs w:=by
 refine LS.ev ⟨ops,i,l,k,o,rfl,rfl,n,p,?_⟩ ?_;have j:∀x,(b.at a (.inRegion ops (i::l)::k)).eval x=a.eval x:=Frame.eval_at b a _;grind;simp_all[Xq,Zgc]
end
end
end Vm
end
section
namespace Vm
open Go
open Go.Proofs
noncomputable def ofC:Code:=match Try.f15.body with|some c=>c|none=>.skip
def C2(f:Zo):Option (List OT):=if f=43 then xk [.fz,.mem [.fz],.mem [.fz]]else sig f
def Ns:List Nat:=[0,1,2,3,16,4,5,6,7,23,25,8,24,29,9,10,48,47,49,12,46,13]
def Z7T:List Nat:=[15,63,76,79]
def vf(P:Z5):FC:= {P,ix:=pos (Ns++Z7T),fresh,sig:=C2,tr:=[3],fix:=[4,23],n:=82,keep:=Ns}
def yz:SS:=[(0,.fz)]
def r0N:SS:=[(0,.fz),(1,(.mem [.fz,.fz,.fz,.fz,.fz,.fz,.fz,.fz,.fz,.fz])),(2,(.mem [.nil,.nil])),(3,.fz)]
def r0:Stm:=
(.reg ⟨[],[],[(1,.m [(.fld (.sz (.s 0) 10) 0),(.fld (.sz (.s 0) 10) 1),(.fld (.sz (.s 0) 10) 2),(.fld (.sz (.s 0) 10) 3),(.fld (.sz (.s 0) 10) 4),(.fld (.sz (.s 0) 10) 5),(.fld (.sz (.s 0) 10) 6),(.fld (.sz (.s 0) 10) 7),(.fld (.sz (.s 0) 10) 8),(.fld (.sz (.s 0) 10) 9)]),(2,.m [(.c (.sl [])),(.c (.sl []))]),(3,.v (.c (.int .i64 (0))))]⟩)
def r0c:comp (vf (YI Try.prog)) (Yn ofC [0]) yz=xk (r0,⟨xk r0N,[],[]⟩):=Z2
def rXS:SS:=[(0,.fz),(1,(.mem [.fz,.fz,.fz,.fz,.fz,.fz,.fz,.fz,.fz,.fz])),(2,(.mem [.nil,.nil])),(3,.fz)]
def M1:SS:=[(0,.fz),(1,(.mem [.fz,.fz,.fz,.fz,.fz,.fz,.fz,.fz,.fz,.fz])),(2,(.mem [.nil,.nil])),(3,.fz),(16,.fz)]
def BA:SS:=[(0,.fz),(1,(.mem [.fz,.fz,.fz,.fz,.fz,.fz,.fz,.fz,.fz,.fz])),(2,(.mem [.nil,.nil])),(3,.fz),(16,.fz)]
def rX:Stm:=
(.seq
(.reg ⟨[.call 22 [] (.id 25) xh xh [(.mm 1 0 10)]],[],[(4,.v (.un .not (.s 22)))]⟩)
(.cond (.s 4)
 (.seq
 (.reg ⟨[],[([],(.ag [(.c (.sl [])),(.c (.sl []))]))],[(2,.m [(.c (.sl [])),(.c (.sl []))]),(3,.v (.c (.int .i64 (1))))]⟩)
 .ret)
 .skip))
def rXc:comp (vf (YI Try.prog)) (Yn ofC [1,0]) rXS=xk (rX,⟨xk M1,[],[BA]⟩):=Z2
def KH:SS:=[(1,(.mem [.fz,.fz,.fz,.fz,.fz,.fz,.fz,.fz,.fz,.fz])),(2,(.mem [.fz,.fz])),(3,.fz)]
def r5N:SS:=[(1,(.mem [.fz,.fz,.fz,.fz,.fz,.fz,.fz,.fz,.fz,.fz])),(2,(.mem [.fz,.fz])),(3,.fz),(5,.nil)]
def r5:Stm:=
(.reg ⟨[],[],[(6,.v (.c (.sl [])))]⟩)
def r5c:comp (vf (Sol.prog)) (Yn ofC [1,1,1,1,0]) KH=xk (r5,⟨xk r5N,[],[]⟩):=Z2
def r6S:SS:=[(1,(.mem [.fz,.fz,.fz,.fz,.fz,.fz,.fz,.fz,.fz,.fz])),(2,(.mem [.fz,.fz])),(3,.fz),(5,.nil)]
def r6N:SS:=[(1,(.mem [.fz,.fz,.fz,.fz,.fz,.fz,.fz,.fz,.fz,.fz])),(2,(.mem [.fz,.fz])),(3,.fz),(5,.nil),(6,(.mem [(.own 84)]))]
def r6:Stm:=
(.reg ⟨[],[],[(7,.m [(.c (.mp 0 [] []))])]⟩)
def r6c:comp (vf (Sol.prog)) (Yn ofC [1,1,1,1,1,0]) r6S=xk (r6,⟨xk r6N,[],[]⟩):=Z2
def r7S:SS:=[(1,(.mem [.fz,.fz,.fz,.fz,.fz,.fz,.fz,.fz,.fz,.fz])),(2,(.mem [.fz,.fz])),(3,.fz),(5,.nil),(6,(.mem [(.own 84)]))]
def r7N:SS:=[(1,(.mem [.fz,.fz,.fz,.fz,.fz,.fz,.fz,.fz,.fz,.fz])),(2,(.mem [.fz,.fz])),(3,.fz),(5,.nil),(6,(.mem [(.own 84)])),(7,(.mem [(.own 85)]))]
def r7:Stm:=
(.reg ⟨[],[],[(8,.m [(.c (.mp 0 [] []))])]⟩)
def r7c:comp (vf (Sol.prog)) (Yn ofC [1,1,1,1,1,1,0]) r7S=xk (r7,⟨xk r7N,[],[]⟩):=Z2
def Bx:SS:=[(1,(.mem [.fz,.fz,.fz,.fz,.fz,.fz,.fz,.fz,.fz,.fz])),(2,(.mem [.fz,.fz])),(3,.fz),(5,(.own 87)),(6,(.mem [(.own 84)])),(7,(.mem [(.own 85)])),(24,.fz),(25,.fz)]
def rDN:SS:=[(1,(.mem [.fz,.fz,.fz,.fz,.fz,.fz,.fz,.fz,.fz,.fz])),(2,(.mem [.fz,.fz])),(3,.fz),(5,(.own 87)),(6,(.mem [(.own 84)])),(7,(.mem [(.own 85)])),(25,.fz),(8,(.mem [.fz,.fz,.fz,.fz,.fz,.fz,.fz])),(24,.fz),(29,.fz)]
def By:SS:=[(1,(.mem [.fz,.fz,.fz,.fz,.fz,.fz,.fz,.fz,.fz,.fz])),(2,(.mem [.fz,.fz])),(3,.fz),(5,(.own 87)),(6,(.mem [(.own 84)])),(7,(.mem [(.own 85)])),(24,.fz),(25,.fz)]
def rD:Stm:=
(.seq
(.cond (.s 10)
 .skip
 (.exit 0))
(.block 1
 (.seq
 (.reg ⟨[],[],[(11,.m [(.fld (.sz (.ext (.s 12) 0) 7) 0),(.fld (.sz (.ext (.s 12) 0) 7) 1),(.fld (.sz (.ext (.s 12) 0) 7) 2),(.fld (.sz (.ext (.s 12) 0) 7) 3),(.fld (.sz (.ext (.s 12) 0) 7) 4),(.fld (.sz (.ext (.s 12) 0) 7) 5),(.fld (.sz (.ext (.s 12) 0) 7) 6)])]⟩)
 (.seq
 (.seq
 (.reg ⟨[],[],[(13,.v (.m 11 3))]⟩)
 (.cond (.s 13)
  (.seq
  (.reg ⟨[],[],[(8,.m [(.mput (.i .u64) (.m 8 0) (.m 11 5) (.m 11 4))])]⟩)
  (.exit 1))
  .skip))
 (.seq
 (.reg ⟨[],[],[(7,.m [(.mput (.i .u64) (.m 7 0) (.m 11 5) (.len (.s 6)))])]⟩)
 (.reg ⟨[],[],[(6,.v (.app (.s 6) (.lit [(.mm 11 0 7)]) 7))]⟩))))))
def M0:comp (vf (Sol.prog)) (Yn ofC [1,1,1,1,1,1,1,0,1,0,0,1]) Bx=xk (rD,⟨xk rDN,[(0,By)],[]⟩):=Z2
def IZ:SS:=[(1,(.mem [.fz,.fz,.fz,.fz,.fz,.fz,.fz,.fz,.fz,.fz])),(2,(.mem [.fz,.fz])),(3,.fz),(5,.fz),(6,(.mem [.fz])),(7,(.mem [.fz]))]
def Bw:SS:=[(1,(.mem [.fz,.fz,.fz,.fz,.fz,.fz,.fz,.fz,.fz,.fz])),(2,(.mem [.fz,.fz])),(3,.fz),(5,.fz),(6,(.mem [.fz])),(7,(.mem [.fz])),(9,(.clo 43 [7,6])),(10,(.mem [.fz,.fz])),(48,.fz),(47,.fz),(49,.fz),(46,.fz)]
def rC:Stm:=
(.seq
(.reg ⟨[],[],[(14,.no)]⟩)
(.seq
(.reg ⟨[],[],[(14,.no),(15,.m [(.c (.sl [])),(.c (.sl []))])]⟩)
(.seq
(.seq
(.reg ⟨[],[],[(14,.no),(16,.v (.c (.int .i64 (0)))),(17,.v (.len (.s 6))),(20,.v (.s 6))]⟩)
(.block 2
 (.loop [1,2,3,6,7,8,14,15,16,17,20]
  (.seq
  (.reg ⟨[],[],[(14,.no),(18,.v (.bin .lss (.s 16) (.s 17)))]⟩)
  (.seq
  (.cond (.s 18)
   .skip
   (.exit 2))
  (.seq
  (.block 3
   (.seq
   (.reg ⟨[],[],[(14,.no),(19,.m [(.fld (.flds (.idx (.s 20) (.s 16) 7) 0 7) 0),(.fld (.flds (.idx (.s 20) (.s 16) 7) 0 7) 1),(.fld (.flds (.idx (.s 20) (.s 16) 7) 0 7) 2),(.fld (.flds (.idx (.s 20) (.s 16) 7) 0 7) 3),(.fld (.flds (.idx (.s 20) (.s 16) 7) 0 7) 4),(.fld (.flds (.idx (.s 20) (.s 16) 7) 0 7) 5),(.fld (.flds (.idx (.s 20) (.s 16) 7) 0 7) 6)])]⟩)
   (.seq
   (.reg ⟨[],[],[(14,.no),(21,.v (.m 19 2))]⟩)
   (.reg ⟨[.callm 23 [] (.id 43) [.fz,(.mem [.fz]),(.mem [.fz])] [(.slc (.m 19 6) (.c (.int .i64 (0))) (.s 21) 1),(.ag [(.m 8 0)]),(.ag [(.m 7 0)])]],[],[(7,.m [(.fld (.ext (.s 23) 2) 0)]),(8,.m [(.fld (.ext (.s 23) 1) 0)]),(14,.no),(15,.m [(.app (.m 15 0) (.lit [(.ag [(.one (.ext (.s 23) 0)),(.slcl (.m 19 6) (.s 21) 1)])]) 2),(.m 15 1)])]⟩))))
  (.reg ⟨[],[],[(14,.no),(16,.v (.bin .add (.s 16) (.c (.int .i64 (1)))))]⟩)))))))
(.seq
(.reg ⟨[.callm 24 [] (.id 43) [.fz,(.mem [.fz]),(.mem [.fz])] [(.m 1 9),(.ag [(.m 8 0)]),(.ag [(.m 7 0)])]],[],[(7,.m [(.fld (.ext (.s 24) 2) 0)]),(8,.m [(.fld (.ext (.s 24) 1) 0)]),(14,.no),(15,.m [(.m 15 0),(.one (.ext (.s 24) 0))])]⟩)
(.seq
(.reg ⟨[.call 25 [] (.id 17) xh xh [(.mm 15 0 2)]],[],[(2,.m [(.fld (.sz (.ext (.s 25) 0) 2) 0),(.fld (.sz (.ext (.s 25) 0) 2) 1)]),(3,.v (.fl (.ext (.s 25) 1))),(14,.no)]⟩)
.ret)))))
def rCc:comp (vf (Sol.prog)) (Yn ofC [1,1,1,1,1,1,1,1]) IZ=xk (rC,⟨xw,[],[Bw]⟩):=Z2
def Iw:Fn:=⟨16,[0,1,2,4,5,14,13,15,7,12,19,8,9,10,11,34],
(.seq
(.reg ⟨[],[],[(3,.v (.c (.sl [])))]⟩)
(.seq
(.reg ⟨[],[],[(4,.v (.c (.sl [])))]⟩)
(.seq
(.seq
(.reg ⟨[],[],[(5,.v (.c (.int .i64 (0)))),(6,.v (.len (.s 0))),(9,.v (.s 0))]⟩)
(.block 0
 (.loop [0,1,2,3,4,5,6,9]
  (.seq
  (.reg ⟨[],[],[(7,.v (.bin .lss (.s 5) (.s 6)))]⟩)
  (.seq
  (.cond (.s 7)
   .skip
   (.exit 0))
  (.seq
  (.block 1
   (.seq
   (.reg ⟨[],[],[(8,.v (.fld (.idx (.s 9) (.s 5) 1) 0))]⟩)
   (.seq
   (.seq
   (.reg ⟨[],[],[(10,.v (.bin .eql (.s 8) (.c (.int .u64 (0)))))]⟩)
   (.cond (.s 10)
    (.seq
    (.reg ⟨[],[],[(4,.v (.app (.s 4) (.lit [(.c (.int .i64 (-1)))]) 1))]⟩)
    (.exit 1))
    .skip))
   (.seq
   (.reg ⟨[.call 16 [] (.id 44) xh xh [(.s 8)]],[],[(11,.v (.ext (.s 16) 0)),(12,.v (.ext (.s 16) 1))]⟩)
   (.seq
   (.seq
   (.reg ⟨[],[],[(13,.v (.ext (.lk (.i .u64) (.m 1 0) (.s 11) (.int .u64 (0)) xy) 0)),(14,.v (.ext (.lk (.i .u64) (.m 1 0) (.s 11) (.int .u64 (0)) xy) 1))]⟩)
   (.seq
   (.reg ⟨[],[],[(15,.v (.s 14))]⟩)
   (.cond (.s 15)
    (.reg ⟨[],[],[(11,.v (.s 13))]⟩)
    .skip)))
   (.reg ⟨[],[],[(4,.v (.app (.s 4) (.lit [(.one (.lk (.i .u64) (.m 2 0) (.s 11) (.int .i64 (0)) xh))]) 1))]⟩))))))
  (.reg ⟨[],[],[(5,.v (.bin .add (.s 5) (.c (.int .i64 (1)))))]⟩)))))))
(.seq
(.reg ⟨[],[],[(3,.v (.s 4)),(4,.no)]⟩)
.ret)))),
[(3,.v)]⟩
def cTo:ZK Sol.prog fresh sig [.fz,(.mem [.fz]),(.mem [.fz])] (TU [.fz,(.mem [.fz]),(.mem [.fz])]) Try.f43=xk Iw:=Z2
def HZ:Fn:=⟨5,[0,1,2,3,6],
pQ [pR [(1,pS 0 2),(2,.m [pN,pN]),pV 3 (pI 0)],pQ [pC [pK 5 19 [.mm 1 0 2]] [pV 4 (.un .not (.s 5))]] (.cond (.s 4) (pQ [.reg ⟨[],[([],.ag [pN,pN])],[(2,.m [pN,pN]),pV 3 (pI 1)]⟩] .ret) .skip),pC [.callm 6 [] (.id 47) [.fz,(.own 97)] [.mm 1 0 2,.c (.mp 0 [] [])]] [(2,pM (.sz (.ext (.s 6) 0) 2) 2),pV 3 (pI 0)]] .ret,[(2,(.ag 2)),(3,.v)]⟩
def PL:ZK Sol.prog fresh sig [.fz] [] Try.f17=xk HZ:=Z2
def I0:Fn:=⟨12,[0,1,2,3,4,5,24,6,29,7,8,63],
pQ [pR [(2,pS 0 2),(3,pS 1 2),pV 4 pF],pC [pK 12 48 [.m 2 1,.m 3 1]] [pV 5 (.s 12)],pQ [.reg ⟨[.lt 13 [] (.un .not (.s 5))],[([(13,xh)],.bin .neq (.len (.m 2 0)) (.len (.m 3 0)))],[pV 6 (.ite (.s 13) pT (.bin .neq (.len (.m 2 0)) (.len (.m 3 0))))]⟩] (.cond (.s 6) (pQ [pR [pV 4 pF]] .ret) .skip),pQ [pR [pV 7 (pI 0)]] (.block 0 (.loop [0,1,2,3,4,5,6,7] (pQ [pQ [pR [pV 8 (.bin .lss (.s 7) (.len (.m 2 0)))]] (.cond (.s 8) .skip (.exit 0)),.block 1 (pQ [pC [pK 14 48 [.fld (.idx (.m 2 0) (.s 7) 2) 0,.fld (.idx (.m 3 0) (.s 7) 2) 0]] [pV 9 (.s 14)],pC [pK 15 49 [.fld (.idx (.m 2 0) (.s 7) 2) 1,.fld (.idx (.m 3 0) (.s 7) 2) 1]] [pV 10 (.s 15)],.reg ⟨[.lt 16 [] (.un .not (.s 9))],[([(16,xh)],.un .not (.s 10))],[pV 11 (.ite (.s 16) pT (.un .not (.s 10)))]⟩] (.cond (.s 11) (pQ [pR [pV 4 pF]] .ret) .skip))] (pR [pV 7 (.bin .add (.s 7) (pI 1))])))),pR [pV 4 pT]] .ret,[(4,.v)]⟩
def PM:ZK Sol.prog fresh sig [.fz,.fz] [] Try.f18=xk I0:=Z2
def I1:Fn:=⟨11,[0,1,2,9,3,14,13,15,5,12,32],
pQ [pR [(1,pS 0 2),pV 2 pF],pQ [pR [pV 3 (.bin .gtr (.len (.m 1 1)) (pI 16))]] (.cond (.s 3) (pQ [pR [pV 2 pF]] .ret) .skip),pR [(4,.no)],pQ [pR [(4,.no),pV 5 (pI 0),pV 6 (.len (.m 1 0)),pV 9 (.m 1 0)]] (.block 0 (.loop [0,1,2,3,4,5,6,9] (pQ [pR [(4,.no),pV 7 (.bin .lss (.s 5) (.s 6))],.cond (.s 7) .skip (.exit 0),.block 1 (pQ [pR [(4,.no),(8,pM (.flds (.idx (.s 9) (.s 5) 2) 0 2) 2)],.reg ⟨[.lt 11 [] (.bin .gtr (.bin .add (.len (.m 8 0)) (.len (.m 8 1))) (pI 255)),.callm 12 [(11,xh)] (.id 50) [.fz,(.mem [.fz,.fz])] [.m 8 0,.ag [.m 1 0,.m 1 1]]],[([(11,xh)],.un .not (.ext (.s 12) 0))],[(1,pM (.ext (.s 12) 1) 2),(4,.no),pV 10 (.ite (.s 11) pT (.un .not (.ext (.s 12) 0)))]⟩] (.cond (.s 10) (pQ [pR [pV 2 pF,(4,.no)]] .ret) .skip))] (pR [(4,.no),pV 5 (.bin .add (.s 5) (pI 1))])))),pC [.callm 13 [] (.id 50) [.fz,(.mem [.fz,.fz])] [.m 1 1,.ag [.m 1 0,.m 1 1]]] [(1,pM (.ext (.s 13) 1) 2),pV 2 (.ext (.s 13) 0),(4,.no)]] .ret,[(2,.v)]⟩
def PN:ZK Sol.prog fresh sig [.fz] [] Try.f19=xk I1:=Z2
def Ie:Fn:=⟨11,[0,1,2,4,5,13,12,14,7,11,8],
pQ [pR [(2,pS 0 2),(3,.m [pN,pN])],pR [(4,.m [pN,pN])],pQ [pC [.callm 9 [] (.id 80) [.fz,(.own 97)] [.mm 2 0 2,.s 1]] [pV 1 (.ext (.s 9) 1),pV 5 (pI 0),pV 6 (.len (.ext (.s 9) 0)),pV 9 (.ext (.s 9) 0)]] (.block 0 (.loop [0,1,2,3,4,5,6,9] (pQ [pR [pV 7 (.bin .lss (.s 5) (.s 6))],.cond (.s 7) .skip (.exit 0),.block 1 (pQ [pR [pV 8 (.fld (.idx (.s 9) (.s 5) 1) 0)],pR [(10,pM (.flds (.idx (.m 2 0) (.s 8) 2) 0 2) 2)]] (pC [.call 11 [] (.id 81) xy xh [.m 10 0,.s 1]] [(4,.m [.app (.m 4 0) (.lit [.ag [.one (.s 11),.app pN (.m 10 1) 1]]) 2,.m 4 1])]))] (pR [pV 5 (.bin .add (.s 5) (pI 1))])))),pC [.call 12 [] (.id 81) xy xh [.m 2 1,.s 1]] [(4,.m [.m 4 0,.one (.s 12)])],pR [(3,pM (.mm 4 0 2) 2)]] .ret,[(3,(.ag 2))]⟩
def p9:ZK Sol.prog fresh sig [.fz,(.own 97)] [(1,(.own 97))] Try.f47=xk Ie:=Z2
def AU:Fn:=⟨7,[0,1,4,10,5,14,25],
pQ [pR [pV 2 pF],pQ [pR [pV 3 (.bin .neq (.len (.s 0)) (.len (.s 1)))]] (.cond (.s 3) (pQ [pR [pV 2 pF]] .ret) .skip),pQ [pR [pV 4 (pI 0)]] (.block 0 (.loop [0,1,2,3,4] (pQ [pQ [pR [pV 5 (.bin .lss (.s 4) (.len (.s 0)))]] (.cond (.s 5) .skip (.exit 0)),.block 1 (pQ [pR [pV 6 (.bin .neq (.fld (.idx (.s 0) (.s 4) 1) 0) (.fld (.idx (.s 1) (.s 4) 1) 0))]] (.cond (.s 6) (pQ [pR [pV 2 pF]] .ret) .skip))] (pR [pV 4 (.bin .add (.s 4) (pI 1))])))),pR [pV 2 pT]] .ret,[(2,.v)]⟩
def r8:ZK Sol.prog fresh sig [.fz,.fz] [] Try.f48=xk AU:=Z2
def If:Fn:=⟨9,[0,1,3,8,7,9,5,6,20],
pQ [pR [pV 2 pF],pQ [pR [pV 3 (pI 0),pV 4 (.len (.s 0)),pV 7 (.s 0)]] (.block 0 (.loop [0,1,2,3,4,7] (pQ [pR [pV 5 (.bin .lss (.s 3) (.s 4))],.cond (.s 5) .skip (.exit 0),.block 1 (pQ [pR [pV 6 (.fld (.idx (.s 7) (.s 3) 1) 0)],.reg ⟨[.lt 9 [] (.bin .lss (.s 6) (pI (-1)))],[([(9,xh)],.bin .geq (.s 6) (.len (.m 1 0)))],[pV 8 (.ite (.s 9) pT (.bin .geq (.s 6) (.len (.m 1 0))))]⟩] (.cond (.s 8) (pQ [pR [pV 2 pF]] .ret) .skip))] (pR [pV 3 (.bin .add (.s 3) (pI 1))])))),pR [pV 2 pT]] .ret,[(2,.v)]⟩
def s9:ZK Sol.prog fresh sig [.fz,(.mem [.fz,.fz])] [(1,(.mem [.fz,.fz]))] Try.f50=xk If:=Z2
def Kq:Fn:=⟨9,[0,1,2,3,4,5,6,7,17],
pQ [pR [(1,.no),(2,pS 0 2),(3,.m [.s 1]),pV 4 pN],pR [(3,.m [.mclr (.m 3 0)])],pR [(5,.m [pN])],pR [(6,.no)],pC [.callm 9 [] (.id 102) [.fz,(.mem [(.own 97)]),(.mem [(.own 3)])] [.m 2 1,.ag [.m 3 0],.ag [.m 5 0]]] [(3,.m [.fld (.ext (.s 9) 1) 0]),(5,.m [.fld (.ext (.s 9) 2) 0]),(6,.no)],pQ [pR [(6,.no),pV 7 (pI 0)]] (.block 0 (.loop [0,2,3,4,5,6,7] (pQ [pQ [pR [(6,.no),pV 8 (.bin .lss (.s 7) (.len (.m 5 0)))]] (.cond (.s 8) .skip (.exit 0)),.block 1 (pC [.callm 10 [] (.id 102) [.fz,(.mem [(.own 97)]),(.mem [(.own 3)])] [.fld (.idx (.m 2 0) (.fld (.idx (.m 5 0) (.s 7) 1) 0) 2) 0,.ag [.m 3 0],.ag [.m 5 0]]] [(3,.m [.fld (.ext (.s 10) 1) 0]),(5,.m [.fld (.ext (.s 10) 2) 0]),(6,.no)])] (pR [(6,.no),pV 7 (.bin .add (.s 7) (pI 1))])))),pR [pV 4 (.m 5 0),(6,.no)]] .ret,[(4,.v)]⟩
def c80:ZK Sol.prog fresh sig [.fz,(.own 97)] [(3,(.mem [(.own 97)]))] Try.f80=xk Kq:=Z2
def Iq:Fn:=⟨10,[0,1,4,5,10,9,11,7,8,15],
pQ [pR [pV 2 pN],pR [pV 3 pN],pQ [pR [pV 4 (pI 0),pV 5 (.len (.s 0)),pV 8 (.s 0)]] (.block 0 (.loop [0,1,2,3,4,5,8] (pQ [pR [pV 6 (.bin .lss (.s 4) (.s 5))],.cond (.s 6) .skip (.exit 0),.block 1 (pQ [pR [pV 7 (.fld (.idx (.s 8) (.s 4) 1) 0)],pQ [pR [pV 9 (.bin .geq (.s 7) (pI 0))]] (.cond (.s 9) (pR [pV 7 (.lk (.i .i64) (.s 1) (.s 7) (.int .i64 0) xh)]) .skip)] (pR [pV 3 (.app (.s 3) (.lit [.one (.s 7)]) 1)]))] (pR [pV 4 (.bin .add (.s 4) (pI 1))])))),pR [pV 2 (.s 3),(3,.no)]] .ret,[(2,.v)]⟩
def c81:ZK Sol.prog fresh sig [.fz,.fz] [(4,(.own 3))] Try.f81=xk Iq:=Z2
def Ht:Fn:=⟨11,[0,1,2,10,9,11,5,8,6,7,25],
pQ [pR [pV 3 (pI 0),pV 4 (.len (.s 0)),pV 7 (.s 0)]] (.block 0 (.loop [0,1,2,3,4,7] (pQ [pR [pV 5 (.bin .lss (.s 3) (.s 4))],.cond (.s 5) .skip (.exit 0),.block 1 (pQ [pR [pV 6 (.fld (.idx (.s 7) (.s 3) 1) 0)],pR [pV 8 (.fl (.ext (.lk (.i .i64) (.m 1 0) (.s 6) (.int .i64 0) xy) 0)),pV 9 (.fl (.ext (.lk (.i .i64) (.m 1 0) (.s 6) (.int .i64 0) xy) 1))],.reg ⟨[.lt 11 [] (.bin .geq (.s 6) (pI 0))],[([(11,xy)],.un .not (.s 9))],[pV 10 (.ite (.s 11) (.un .not (.s 9)) pF)]⟩] (.cond (.s 10) (pQ [pR [(1,.m [.mput (.i .i64) (.m 1 0) (.s 6) (.len (.m 2 0))])]] (pR [(2,.m [.app (.m 2 0) (.lit [.one (.s 6)]) 1])])) .skip))] (pR [pV 3 (.bin .add (.s 3) (pI 1))])))),[]⟩
def Pm:ZK Sol.prog fresh sig [.fz,(.mem [(.own 97)]),(.mem [(.own 3)])] [(1,(.mem [(.own 97)])),(2,(.mem [(.own 3)]))] Try.f102=xk Ht:=Z2
end Vm
end
section
namespace Vm
open Go Go.Proofs
def Gr.sm(g:Gr):Prop:=P g.nodes<=100000/\P g.roots<=100000/\∀n∈g.nodes,P n.ptrs<=100000/\P n.data<=100000
def UC(n:Nat)(p:Int):Bool:=decide (-1<=p/\p<n)
def SE(k:Nat)(n:Nd):Bool:=decide (P n.ptrs+P n.data<=255)&&n.ptrs.all (UC k)
def right(g:Gr):Bool:=decide (P g.roots<=16)&&g.nodes.all (SE (P g.nodes))&&g.roots.all (UC (P g.nodes))
theorem Dm{α:Type}{p:α->Bool}{l:List α}{i:Nat}{x:α}(h:l[i]?=xk x):(l.take (i+1)).all p=((l.take i).all p&&p x):=by
 rw[ZeI,h,ZhK];simp
theorem Dj{α:Type}{p:α->Bool}{l:List α}{i:Nat}{x:α}(h:l[i]?=xk x)(a:p x=xh):l.all p=xh:=by
 grind
def EJ{l:List Int}{ns:List V}{a:V}(g:P l<=100000)(k:a.one=xy)(j:YP a=xk a):
  V6 Sol.prog 50 [.fz,.mem [.fz,.fz]] [.sl (l.map vi),.agg [.sl ns,a]] (.tup [.bool (l.all (UC (P ns))),.agg [.sl ns,a]]):=by
 refine Jg Sol.func50 follows Z2 s9 Z2 ?_;simp[-List.all_eq_true,-List.all_eq_false,If];refine UT (λt=>∃i:Nat,i<=P l/\(l.take i).all (UC (P ns))=xy/\t=[.v (.sl (l.map vi)),.m [.sl ns,a],.v (.bool xh),.v (vi i),.v (vi (P l)),.no,.no,.v (.sl (l.map vi))]) (λt=>match get t 3 with|.v (.int _ n)=>P l-n.toNat|_=>0) ?_ ?_;exact⟨0,Z1,Z1,Z1⟩;rintro t ⟨i,f,d,rfl⟩;by_cases h:i<P l;have o:l[i]?=xk l[i]:=ZdG h;simp[-List.all_eq_true,-List.all_eq_false,h];simp(disch:=omega) only[Zz];grind [Dj,UC,Dm];have:i=P l:=Z0;simp_all
def Z64{g:Gr}(r:g.sm):VC Sol.prog 19 xh [Yj g] (.bool (right g)):=by
 obtain⟨u,j,k⟩:=r;refine ZU Sol.func19 follows Z2 PN rfl ?_;simp[-List.all_eq_true,-List.all_eq_false,I1];split;grind [List.all_eq_true,List.all_eq_false,right];rename_i h;refine UT (λt=>∃i:Nat,i<=P g.nodes/\(g.nodes.take i).all (SE (P g.nodes))=xy/\t=[.v (Yj g),.m [.sl (g.nodes.map Ye),.sl (g.roots.map vi)],.v (.bool xh),.v (.bool xh),.no,.v (vi i),.v (vi (P g.nodes)),.no,.no,.v (.sl (g.nodes.map Ye))]) (λt=>match get t 5 with|.v (.int _ n)=>P g.nodes-n.toNat|_=>0) ?_ ?_;exact⟨0,Z1,Z1,by simp[h]⟩;rintro t ⟨i,z,a,rfl⟩;by_cases d:i<P g.nodes;have A:g.nodes[i]?=xk g.nodes[i]:=ZdG d;obtain⟨q,y⟩:=k _ (Ze0 d);have p:=Zz ((i:Int)+1) Z0 Z0;simp[-List.all_eq_true,-List.all_eq_false,d,p];simp(disch:=omega) only[Zz];have w:SE (P g.nodes) g.nodes[i]=xh->right g=xh:=λx=>by grind [List.all_eq_true,List.all_eq_false,right,Dj]
 by_cases l:(g.nodes[i].ptrs.length:Int)+(g.nodes[i].data.length:Int)<=255;rw[if_pos l];refine VN (EJ q Zdz Zdz) ?_;have f:¬(255:Int)< (g.nodes[i].ptrs.length:Int)+(g.nodes[i].data.length:Int):=Z0;cases o:g.nodes[i].ptrs.all (UC (P g.nodes));simp[-List.all_eq_true,-List.all_eq_false,f,o];simp_all[ZdR,Zgk,SE];simp[-List.all_eq_true,-List.all_eq_false,f,o,p];grind [Dm,List.all_eq_true,List.all_eq_false,SE];rw[if_neg l];grind [List.all_eq_true,List.all_eq_false,SE];have:i=P g.nodes:=Z0;subst this;simp[-List.all_eq_true,-List.all_eq_false];refine VN (EJ j Zdz Zdz) ?_;rw[Zfa]at a;simp[-List.all_eq_true,-List.all_eq_false,right,a];omega
end Vm
namespace Vm
open Go Go.Proofs
def FT{a b:List Int}(g:P a<=100000):VC Sol.prog 48 xh [.sl (a.map vi),.sl (b.map vi)] (.bool (decide (a=b))):=by
 refine ZU Sol.func48 follows Z2 r8 rfl ?_;by_cases d:P a=P b;simp[AU,d];refine UT (λt=>∃i:Nat,i<=P b/\a.take i=b.take i/\t=[.v (.sl (a.map vi)),.v (.sl (b.map vi)),.v (.bool xh),.v (.bool xh),.v (vi i)]) (λt=>match get t 4 with|.v (.int _ n)=>P b-n.toNat|_=>0) ?_ ?_;exact⟨0,Z1,Z1,Z1⟩;rintro t ⟨i,j,heq,rfl⟩;by_cases h:i<P b;have f:i<P a:=Z0;by_cases k:a[i]=b[i];simp_all;simp(disch:=omega) only[Zz];grind [Co];simp_all;grind;simp_all[Zfa,ZeK];simp[AU,show ¬((P a:Int)=(P b:Int))by omega];grind
end Vm
namespace Vm
open Go Go.Proofs
def Cu(n:Nat):List V:=(List.range n).map λ(i:Nat)=>vi i
def Xy(id:Nat)(l:List Int):V:=.mp id (l.map vi) (Cu (P l))
def Y8:List Int->List Int->List Int
 |a,[]=>a
 |a,x::l=>Y8 (if 0<=x/\x∉a then a++[x]else a) l
def ji{x:Int}:∀ {l:List Int},T6 (vi x) (l.map vi)=xk (l.findIdx? (· ==x))
 | []=>rfl
 |y::l=>by
  simp only[Zee,T6,K3,Zer,Zgu];by_cases h:x=y;subst h;simp;have a:(x==y)=xh:=by simpa using h
  have d:(y==x)=xh:=by simpa using ZfK h
  simp[a,d,ji]
def EE{x:Int}{l:List Int}:l.findIdx? (· ==x)=xw↔x∉l:=by
 grind
theorem Gh{id:Nat}{l:List Int}{x:Int}{z:V}{ok:Bool}:Ud (.i .i64) (Xy id l) (vi x) z ok=match l.findIdx? (· ==x)with
  |some i=>xk (if ok then .tup [vi i,.bool xy]else vi i)
  |none=>xk (if ok then .tup [z,.bool xh]else z):=by
 unfold Ud Xy;simp only[WY,Zgg,Zfn,Zeu,ji];grind [List.findIdx?_eq_some_iff_getElem,Cu]
def Z3w{id:Nat}{l:List Int}{x:Int}(hx:x∉l):UG (.i .i64) (Xy id l) (vi x) (vi (P l))=xk (Xy id (l++[x])):=by
 unfold UG Xy;simp only[WY,Zgg,Zfn,Zeu,ji,EE.2 hx];simp[Cu,Zg0]
@[simp]theorem Zbh(id:Nat)(l:List Int):YP (Xy id l)=xk (Xy id l):=rfl
def GU{ns acc:List Int}{id:Nat}(q:P ns<=100000)(k:P acc<=1000000):V6 Sol.prog 102 [.fz,.mem [.own 97],.mem [.own 3]] [.sl (ns.map vi),.agg [Xy id acc],.agg [.sl (acc.map vi)]]
  (.tup [.tup [],.agg [Xy id (Y8 acc ns)],.agg [.sl ((Y8 acc ns).map vi)]]):=by
 refine Jg Sol.func102 follows Z2 Pm Z2 ?_;simp[Ht];refine UT (λt=>∃i l,i<=P ns/\Y8 l (ns.drop i)=Y8 acc ns/\P l<=1000000+i/\t=[.v (.sl (ns.map vi)),.m [Xy id l],.m [.sl (l.map vi)],.v (vi (i:Nat)),.v (vi (P ns)),.no,.no,.v (.sl (ns.map vi))]) (λt=>match get t 3 with|.v (.int _ n)=>P ns-n.toNat|_=>0) ?_ ?_;exact⟨0,acc,Z1,Z1,Z0,Z1⟩;rintro t ⟨i,l,r,f,u,rfl⟩;by_cases h:i<P ns;have p:ns.drop i=ns[i]::ns.drop (i+1):=(ZeF h);rw[p,Y8]at f;simp[h,Gh];by_cases d:ns[i]∈l;have a:∃j,l.findIdx? (· ==ns[i])=xk j:=by
  cases o:l.findIdx? (· ==ns[i])with
  |none=>grind
  |some j=>simp
 obtain⟨j,o⟩:=a;simp[o,Wl,V.flatc];simp(disch:=omega) only[Zz];grind;simp[EE.2 d,Wl,V.flatc];simp(disch:=omega) only[Zz];by_cases g:0<=ns[i];rw[if_pos g,Z3w d];rw[if_pos ⟨g,d⟩]at f;simp;refine⟨by grind [Y4],⟨i+1,Z0,l++[ns[i]],f,ZcL,rfl,Z1,Z1⟩,Z0⟩;grind;have:i=P ns:=Z0;simp_all[Y8]
@[simp]theorem Z9l(id:Nat)(l:List Int):(Xy id l).cells=[Xy id l]:=rfl
def Good(n:Nat)(l:List Int):Prop:=l.Nodup/\∀x∈l,0<=x/\x<n
def Av:∀(n:Nat) {l:List Int},l.Nodup->(∀x∈l,0<=x/\x<n)->P l<=n
 |0,l,_,h=>by
  obtain _|⟨x,l⟩:=l;simp;have:=h x Z1;omega
 |n+1,l,d,h=>by
  by_cases j:(n:Int)∈l;have g:=Av n (d.erase (n:Int)) λx a=>by
   have f:=(d.mem_erase_iff).1 a;have:=h x f.2;omega
  rw[List.length_erase_of_mem j]at g;omega;have:=Av n d λx a=>by
   have g:=h x a;have:x≠n:=λe=>j (e▸a);omega
  omega
def Good.len{n:Nat}{l:List Int}(h:Good n l):P l<=n:=Av n h.1 h.2
def Tf{n:Nat}:∀ {g d:List Int},Good n d->(∀x∈g,x<n)->Good n (Y8 d g)
 | [],d,h,_=>h
 |x::g,d,h,l=>by
  simp only[Y8];refine Tf ?_ λy f=>l y (by simp[f]);split;rename_i k;refine⟨?_,λy f=> ?_⟩;rw[ZgJ];exact⟨h.1,Z1,λa o b j=>by simp at j;subst j;exactλe=>k.2 (e▸o)⟩;obtain f|f:=Ze8.1 f;exact h.2 y f;simp at f;subst f;exact⟨k.1,l _ Z1⟩;exact h
def XN(g:Gr):Nat->Nat->List Int->List Int
 |0,_,l=>l
 |f+1,i,l=>match l[i]? with
  |some x=>XN g f (i+1) (Y8 l ((g.nodes[x.toNat]?).getD default).ptrs)
  |none=>l
def order(g:Gr):List Int:=XN g (P g.nodes+1) 0 (Y8 [] g.roots)
def FQ{n:Nat}{p:Int}(h:UC n p=xy): -1<=p/\p<n:=by grind [UC]
def RZ{g:Gr}(a:right g=xy):∀x∈g.roots,-1<=x/\x<P g.nodes:=by
 simp only[right,ZdJ,ZdR]at a;exactλx d=>FQ (a.2 x d)
def BI{g:Gr}(a:right g=xy):∀n∈g.nodes,∀x∈n.ptrs,-1<=x/\x<P g.nodes:=by
 simp only[right,ZdJ,ZdR,SE]at a;exactλn d x f=>FQ ((a.1.2 n d).2 x f)
def Z4k{g:Gr}(C:g.sm)(B:right g=xy)(id:Nat)(ks vs:List V):
  Yq Sol.prog Kq.body [.v (Yj g),.v (.mp id ks vs)] (λs=>get s 4=.v (.sl ((order g).map vi))/\get s 3=.m [Xy id (order g)]) (λ_ _=>False) (λs=>get s 4=.v (.sl ((order g).map vi))/\get s 3=.m [Xy id (order g)]):=by
 obtain⟨D,q,r⟩:=C;simp[Kq];refine VN (GU (ns:=g.roots) (acc:=[]) (id:=id) q Z1) ?_;simp;have d:=RZ B;have j:Good (P g.nodes) (Y8 [] g.roots):=Tf ⟨Z1,Z1⟩ λx p=>(d x p).2;refine UT (λt=>∃i l,i<=P l/\Good (P g.nodes) l/\XN g (P g.nodes+1-i) i l=order g/\t=[.v (Yj g),.no,.m [.sl (g.nodes.map Ye),.sl (g.roots.map vi)],.m [Xy id l],.v (.sl []),.m [.sl (l.map vi)],.no,.v (vi (i:Nat))]) (λt=>match get t 7 with|.v (.int _ n)=>P g.nodes-n.toNat|_=>0) ?_ ?_;exact⟨0,_,Z1,j,rfl,Z1⟩;rintro t ⟨i,l,I,u,A,rfl⟩;have z:=u.len;by_cases h:i<P l;obtain⟨G,K⟩:=u.2 _ (Ze0 h);obtain⟨k,w⟩:=ZdV G;have o:k<P g.nodes:=Z0;have p:l[i]?=xk (k:Int):=by rw[ZdG h,w]
 simp[h,w,o];refine VN (GU (r _ (Ze0 o)).1 Z0) ?_;simp;simp(disch:=omega) only[Zz];have a:Good (P g.nodes) (Y8 l g.nodes[k].ptrs):=Tf u λx p=>(BI B _ (Ze0 o) x p).2;refine⟨⟨i+1,_,?_,a,?_,rfl,rfl,Z1⟩,Z0⟩;have:∀ {ns acc:List Int},P acc<=P (Y8 acc ns):=by
  intro ns;induction ns with
  |nil=>simp_all[Y8]
  |cons y ns J=>
   intro acc;simp only[Y8];grind
 grind;rw[show P g.nodes+1-i=(P g.nodes+1- (i+1))+1 by omega,XN,p]at A;simp_all;have:i=P l:=Z0;subst this;have F:l=order g:=by
  rw[<-A];cases H:P g.nodes+1-(P l) with
  |zero=>omega
  |succ f=>simp[XN]
 simp_all
def Z4j{g:Gr}(hg:g.sm)(hr:right g=xy)(id:Nat)(ks vs:List V):V6 Sol.prog 80 [.fz,.own 97] [Yj g,.mp id ks vs] (.tup [.sl ((order g).map vi),Xy id (order g)]):=by
 refine⟨Z2,λB w h us a8 hA=> ?_⟩;obtain⟨b5,a0,a1⟩:=hA;obtain⟨c8,Q,a9⟩:=a1 1 (.own 97) (.mp id ks vs) rfl rfl;simp only[Wc,ZdF]at Q;subst Q;obtain⟨x1,R,O⟩:=a9;simp only[eval,ZdF]at R;subst R;obtain⟨_,_,hl,_⟩|⟨c1,c6,d0,b,es,T,he,hv,a4,hB,hid,hh,Y,h2,h3,h4⟩:=O;cases hl;cases he;have Z:Ll Sol.prog B w h [.fz,.own 97] [Yj g,.mp (b+1) ks vs] us:=by
  refine⟨rfl,a0,λi k x f j=> ?_⟩
  match i,f,j with
  |0,f,j=>grind
  |1,f,j=>
   simp at f j;subst f j;exact⟨_,rfl,_,rfl,.inr ⟨b+1,ks,vs,b,es,T,rfl,hv,a4,hB,.inr rfl,hh,Y,h2,h3,h4⟩⟩
  |i+2,f,j=>simp at f
 refine LV (cf:=Kq) (fin:=[(3,.mem [.own 97])]) (xs:=[Yj g,.mp (b+1) ks vs]) (Rt:=λs=>get s 4=.v (.sl ((order g).map vi))/\get s 3=.m [Xy (b+1) (order g)]) Sol.func80 follows c80 (Z4k hg hr (b+1) ks vs) a8 Z λc s S a w' W hP b7 M z J r p hK o l=> ?_;rw[<-hP]at l z⊢;simp only[SG,ZdJ,ZdR]at l;obtain⟨A,a6⟩:=l;obtain⟨d,a7⟩:=Lm r p a6;have N:c.ix 3=3:=M 3 (by decide);have hr:W9 s (KO c.P c.ix Try.f80)=xk (.sl ((order g).map vi)):=by
  rw[<-z];simp[Kq,J.1]
 obtain⟨v,b0,b1⟩:=KP (D:=(W.drop (Vc S [(3,.mem [.own 97])])).F) r p (λb hb=>.inl hb) (λq hq=>by
  have Y:=A q hq;have h2:=ZdR.1 (Z2:Mc Try.f80 [(3,.mem [.own 97])]=xy) q hq;refine⟨Y,λi b hb=>.inr ⟨SR q,i+1,?_,Z0,hb⟩⟩;simp_all[Vc,Zhm,SR]) hr
 obtain⟨u,hu,b3,c9,T3,e1,e2,e3,e4,e5⟩:=d.at_ 3 (by grind [Yt,Yp]) Zdz;obtain⟨X,hX,C⟩:=e5 0 (.own 97,.m (c.ix 3) 0) rfl;have a2:X=Xy (b+1) (order g):=by
  simp only[eval,N,J.2]at hX;simpa using hX.symm
 subst a2;obtain⟨_,_,hl,_⟩|⟨c5,c7,d5,H,U,I,L,b9,n,b6,b4,a5,q1,q2,q3,q4⟩:=C;cases hl;simp only[Xy,V.mp.injEq]at L;obtain⟨rfl,rfl,rfl⟩:=L;have a3:H=b:=Z0;subst a3;obtain⟨r1,r2,r3⟩:=d.ok.b_lt 3 1 H n
 refine⟨v,b0,v,.sl ((order g).map vi),[.bool xh,Xy id (order g)],{F:=(W.drop (Vc S [(3,.mem [.own 97])])).F,bl:=λt i=>if t=1/\i=1 then xk H else xw,K:=W.K},rfl,o.below,o.same,
  ⟨d.ok.base,d.ok.f_lt,d.ok.f_or,d.ok.g_F,λt i x j=> ?_,λt i t' i' x j c0=> ?_,d.ok.k_lt,λt i x j=> ?_,d.ok.k_F⟩,hK,b1,⟨rfl,λi k y f b8 G=> ?_⟩,rfl⟩
 grind;grind;simp only at j;split at j;simp only[ZdF]at j;subst j;exact d.ok.k_bl 3 1 H n;cases j
 match i,f,G with
 |0,f,G=>grind
 |1,f,G=>
  simp at f G;subst f G;exact⟨_,rfl,_,rfl,.inr ⟨id,_,_,H,U,I,rfl,hv,Z1,hB,hid,a5,q1,q2,q3,q4⟩⟩
 |i+2,f,G=>simp at f
end Vm
namespace Vm
open Go Go.Proofs
def Rc(l:List Int)(p:Int):Int:=match l.findIdx? (· ==p)with
 |some i=>(i:Nat)
 |none=>0
def V1(l a:List Int):List Int:=a.map λp=>if 0<=p then Rc l p else p
def Qn(g:Gr)(l:List Int)(x:Int):Nd:=let n:=(g.nodes[x.toNat]?).getD default;⟨V1 l n.ptrs,n.data⟩
def Xj(g:Gr):Gr:=⟨(order g).map (Qn g (order g)),V1 (order g) g.roots⟩
def Z2S{id:Nat}{l:List Int}{x:Int}:Ud (.i .i64) (Xy id l) (vi x) (vi 0) xh=xk (vi (Rc l x)):=by
 grind [Gh,Rc]
def Z0X{l:List Int}:∀c∈flat (l.map vi),c.flatc=xy:=by
 intro c d;simp only[flat,ZfN,ZdX]at d;obtain⟨y,⟨a,_,rfl⟩,d⟩:=d;have:c=vi a:=by simpa[V.cells]using d
 subst this;rfl
def GK{a l:List Int}{id:Nat}(o:P a<=100000):VC Sol.prog 81 xy [.sl (a.map vi),Xy id l] (.sl ((V1 l a).map vi)):=by
 refine Z7R (t:=4) (ty:=3) Sol.func81 follows Z2 rfl c81 rfl Z0X ?_;simp[Iq];refine UT (λt=>∃i:Nat,i<=P a/\t=[.v (.sl (a.map vi)),.v (Xy id l),.v (.sl []),.v (.sl ((V1 l (a.take i)).map vi)),.v (vi i),.v (vi (P a)),.no,.no,.v (.sl (a.map vi))]) (λt=>match get t 4 with|.v (.int _ n)=>P a-n.toNat|_=>0) ?_ ?_;exact⟨0,Z1,by simp[V1]⟩;rintro t ⟨i,k,rfl⟩;by_cases h:i<P a;have j:a[i]?=xk a[i]:=ZdG h;have d:V1 l (a.take (i+1))=V1 l (a.take i)++[if 0<=a[i]then Rc l a[i]else a[i]]:=by
  unfold V1;rw[ZeI,j,Zf6];rfl
 have g:P (V1 l (a.take i))<=100000:=by simp[V1];omega
 simp[h];simp(disch:=omega) only[Zz];by_cases f:0<=a[i];simp[f,Z2S];refine⟨Zda,⟨i+1,Z0,by rw[d];simp[f],Z1⟩,Z0⟩;simp[f];refine⟨Zda,⟨i+1,Z0,by rw[d];simp[f],Z1⟩,Z0⟩;have:i=P a:=Z0;subst this;simp
def Hg{g:Gr}(d:right g=xy):∀ {f i:Nat} {l:List Int},Good (P g.nodes) l->Good (P g.nodes) (XN g f i l)
 |0,i,l,h=>h
 |f+1,i,l,h=>by
  simp only[XN];split;rename_i x k;refine Hg d (Tf h λy j=> ?_);obtain⟨n,o⟩:=h.2 x (ZdO k);have a:x.toNat<P g.nodes:=Z0;rw[ZdG a]at j;exact(BI d _ (Ze0 a) y j).2;exact h
def AK{g:Gr}(a:right g=xy):Good (P g.nodes) (order g):=
 Hg a (Tf ⟨Z1,Z1⟩ λx d=>(RZ a x d).2)
def Z09{g:Gr}(p:g.sm)(r:right g=xy)(id:Nat)(ks vs:List V):V6 Sol.prog 47 [.fz,.own 97] [Yj g,.mp id ks vs] (.tup [Yj (Xj g),Xy id (order g)]):=by
 refine Jg Sol.func47 follows Z2 p9 Z2 ?_;simp[Ie];refine VN (Z4j p r id ks vs) ?_;simp;obtain⟨u,j,o⟩:=p;have a:=AK r;have f:=a.len;generalize A:order g=l at a f;refine UT (λt=>∃i:Nat,i<=P l/\t=[.v (Yj g),.v (Xy id l),.m [.sl (g.nodes.map Ye),.sl (g.roots.map vi)],.m [.sl [],.sl []],.m [.sl (((l.take i).map (Qn g l)).map Ye),.sl []],.v (vi i),.v (vi (P l)),.no,.no,.v (.sl (l.map vi))]) (λt=>match get t 5 with|.v (.int _ n)=>P l-n.toNat|_=>0) ?_ ?_;exact⟨0,Z1,Z1⟩;rintro t ⟨i,z,rfl⟩;by_cases h:i<P l;have B:l[i]?=xk l[i]:=ZdG h;obtain⟨y,D⟩:=a.2 _ (Ze0 h);obtain⟨k,q⟩:=ZdV y;have d:k<P g.nodes:=Z0;obtain⟨x,C⟩:=o _ (Ze0 d);simp[h,q,d];refine Zy (GK x) Z1 ?_;simp;simp(disch:=omega) only[Zz];have w:V.agg [V.sl (List.map vi (V1 l g.nodes[k].ptrs)),V.sl (List.map vu g.nodes[k].data)]=Ye (Qn g l l[i]):=by
  simp[Qn,q,d,Ye]
 refine⟨by grind [Y4],by grind [Y4],⟨i+1,Z0,?_,Z1⟩,Z0⟩;simp_all[ZeI,Ze1];have:i=P l:=Z0;simp_all;refine Zy (GK j) Z1 ?_;simp_all[Xj,Yj]
def Z08{g:Gr}(h:g.sm)(o:right g=xy):(Xj g).sm:=by
 obtain⟨j,k,l⟩:=h;have a:=AK o;have d:=a.len;refine⟨by grind [Xj],by simp_all[Xj,V1],λn f=> ?_⟩;simp only[Xj,ZdX]at f;obtain⟨x,p,rfl⟩:=f;obtain⟨q,r⟩:=a.2 x p;simp_all[Ze0,Qn,V1]
def TP:Gr:=⟨[],[]⟩
def WU(g:Gr):V:=if right g=xy then .tup [Yj (Xj g),vi 0]else .tup [Yj TP,vi 1]
def O3{g:Gr}(a:g.sm):VC Sol.prog 17 xh [Yj g] (WU g):=by
 refine ZU Sol.func17 follows Z2 PL rfl ?_;simp[HZ];refine Zy (Z64 a) Z1 ?_;cases d:right g;simp[WU,d,TP,Yj];simp;refine VN (Z09 a d 0 [] []) ?_;simp_all[WU,Yj]
def Ow{a b:Gr}(p:a.sm):VC Sol.prog 18 xh [Yj a,Yj b] (.bool (decide (a=b))):=by
 refine ZU Sol.func18 follows Z2 PM rfl ?_;obtain⟨u,l,o⟩:=p;simp[I0];refine Zy (FT l) Z1 ?_;by_cases k:a.roots=b.roots;simp[k];by_cases g:P a.nodes=P b.nodes;simp[g];refine UT (λt=>∃i:Nat,i<=P b.nodes/\a.nodes.take i=b.nodes.take i/\t=[.v (Yj a),.v (Yj b),.m [.sl (a.nodes.map Ye),.sl (a.roots.map vi)],.m [.sl (b.nodes.map Ye),.sl (b.roots.map vi)],.v (.bool xh),.v (.bool xy),.v (.bool xh),.v (vi i)]) (λt=>match get t 7 with|.v (.int _ n)=>P b.nodes-n.toNat|_=>0) ?_ ?_;exact⟨0,Z1,Z1,by simp[k]⟩;rintro t ⟨i,w,heq,rfl⟩;by_cases h:i<P b.nodes;have j:i<P a.nodes:=Z0;obtain⟨q,r⟩:=o _ (Ze0 j);simp[h,j,g];refine Zy (FT q) Z1 ?_;simp[h,j,g];refine Zy (QQ (Zeh r Z0)) Z1 ?_;by_cases d:a.nodes[i].ptrs=b.nodes[i].ptrs;by_cases f:a.nodes[i].data=b.nodes[i].data;simp[d,f];simp(disch:=omega) only[Zz];have z:a.nodes[i]=b.nodes[i]:=by
  generalize a.nodes[i]=x at d f;generalize b.nodes[i]=y at d f;cases x;cases y;simp at d f;simp[d,f]
 grind [Co];simp[d,f];grind;simp[d];grind;have:i=P b.nodes:=Z0;subst this;rw[Zfa,ZeK Z0]at heq;simp[g];cases a;simp_all;simp[show ¬((P a.nodes:Int)=(P b.nodes:Int))by omega];grind;simp[k];grind
end Vm
namespace Vm
open Go Go.Proofs
end Vm
end
section
namespace Vm
open Go Go.Proofs
def g0:Gr:=⟨[⟨[],[]⟩,⟨[],[4]⟩,⟨[1],[]⟩,⟨[],[]⟩],[2,0]⟩
def g1:Gr:=⟨[],[0]⟩
def g2:Gr:=⟨[],[-1,-1]⟩
end Vm
end
section

end
section
namespace Vm
open Go Go.Proofs
def outs(g:Gr)(x:Int):List Int:=((g.nodes[x.toNat]?).getD default).ptrs
def GS:∀(a:Z8) {d b:Z8},Y8 d (a++b)=Y8 (Y8 d a) b
 | [],_,_=>rfl
 |x::a,d,b=>by simp only[ZeT,Y8];exact GS a
def zP:∀(l:Z8) {acc:Z8},∃t,Y8 acc l=acc++t
 | [],acc=>⟨[],by simp[Y8]⟩
 |x::l,acc=>by
  simp only[Y8];obtain⟨t,a⟩:=zP l (acc:=if 0<=x/\x∉acc then acc++[x]else acc);rw[a];split;exact⟨x::t,Z1⟩;exact⟨t,rfl⟩
def RO:∀ {l d:Z8} {x:Int},x∈Y8 d l↔x∈d\/(x∈l/\0<=x)
 | [],d,x=>by simp[Y8]
 |y::l,d,x=>by
  simp only[Y8,RO (l:=l),Ze3];split;rename_i h;simp only[Ze8,ZeO];constructor;rintro((a|rfl)|a);exact .inl a;exact .inr ⟨.inl rfl,h.1⟩;exact .inr ⟨.inr a.1,a.2⟩;rintro(a|⟨rfl|a,f⟩);exact .inl (.inl a);exact .inl (.inr rfl);exact .inr ⟨a,f⟩;rename_i h;constructor;rintro(a|a);exact .inl a;exact .inr ⟨.inr a.1,a.2⟩;rintro(a|⟨rfl|a,f⟩);exact .inl a;exact .inl (by by_cases g:x∈d;exact g;exact(h ⟨f,g⟩).elim);exact .inr ⟨a,f⟩
def z5{g:Gr}(f:right g=xy)(x:Int):∀y∈outs g x,-1<=y/\y<P g.nodes:=by
 intro y a;unfold outs at a;cases d:g.nodes[x.toNat]? with
 |none=>rw[d]at a;cases a
 |some n=>rw[d]at a;exact BI f n (ZdO d) y a
def Hi{g:Gr}(n:right g=xy):∀ {f i:Nat} {l:Z8},Good (P g.nodes) l->i<=P l->P g.nodes<f+i->l=Y8 [] (g.roots++(l.take i).flatMap (outs g))->
  XN g f i l=Y8 [] (g.roots++(XN g f i l).flatMap (outs g))
 |0,i,l,j,p,o,a=>by have:=j.len;omega
 |f+1,i,l,j,p,o,a=>by
  simp only[XN];cases d:l[i]? with
  |none=>
   have:P l<=i:=ZcW;rw[ZeK this]at a;exact a
  |some x=>
   have q:i<P l:=by
    obtain h|h:=ZhS i (P l);exact h;rw[ZeJ h]at d;cases d
   obtain⟨t,k⟩:=zP (outs g x) (acc:=l);refine Hi n (Tf j λy r=>(z5 n x y r).2) ?_ Z0 ?_;show i+1<=P (Y8 l (outs g x));rw[k,Zes];omega;show Y8 l (outs g x)=Y8 [] (g.roots++((Y8 l (outs g x)).take (i+1)).flatMap (outs g));rw[k,ZgX Z0,ZeI,d,<-k];simp only[ZfH,Option.toList,<-Zew];rw[GS,<-a];simp
def Hj{g:Gr}(a:right g=xy):order g=Y8 [] (g.roots++(order g).flatMap (outs g)):=by
 refine Hi a (Tf ⟨List.nodup_nil,Z1⟩ λy d=>(RZ a y d).2) (ZeQ _) Z0 ?_;simp
end Vm
end
section
namespace Vm
open Go
open Go.Proofs

end Vm
end
section
namespace Vm
open Go Go.Proofs
def ndW(n:Nd):Nat:=1+P n.ptrs+P n.data
def Z8i(l:List Nd):Nat:=(l.map ndW).sum
def words(g:Gr):Nat:=if right g=xy then Z8i g.nodes else 0
@[simp]theorem Zci{α β:Type}{f:α->β}{l:List α}:(l.map f).take (P l)=l.map f:=ZeK (by simp)
end Vm
namespace Vm
open Go Go.Proofs
def zQ{f:Int->Int}:∀ {o l:List Int},(∀x∈Y8 l o,∀y∈Y8 l o,f x=f y->x=y)->(∀x∈Y8 l o,0<=f x)->(∀x∈o,x<0->f x<0)->Y8 (l.map f) (o.map f)=(Y8 l o).map f
 | [],l,_,_,_=>rfl
 |y::o,l,d,g,k=>by
  simp only[Zee,Y8];simp only[Y8]at d g;by_cases j:0<=y/\y∉l;rw[if_pos j]at d g⊢;have h:y∈Y8 (l++[y]) o:=RO.2 (.inl Z1)
  have a:0<=f y/\f y∉l.map f:=⟨g y h,λu=>by
   obtain⟨z,p,t⟩:=ZdX.1 u;have:=d z (RO.2 (.inl (by simp[p]))) y h t;subst this;exact j.2 p⟩
  rw[if_pos a,show l.map f++[f y]=(l++[y]).map f by simp];exact zQ d g λx n=>k x (by simp[n]);rw[if_neg j]at d g⊢;have a:¬(0<=f y/\f y∉l.map f):=by
   rintro⟨w,r⟩;by_cases q:0<=y;exact r (ZdX.2 ⟨y,by by_cases h:y∈l;exact h;exact(j ⟨q,h⟩).elim,rfl⟩);have:=k y Z1 Z0;omega
  rw[if_neg a];exact zQ d g λx n=>k x (by simp[n])
def AJ{g:Gr}:∀ {F i:Nat} {l:List Int},∃t,XN g F i l=l++t
 |0,i,l=>⟨[],by simp[XN]⟩
 |F+1,i,l=>by
  simp only[XN];cases l[i]? with
  |none=>exact⟨[],Z1⟩
  |some x=>
   obtain⟨t,d⟩:=zP ((g.nodes[x.toNat]?).getD default).ptrs (acc:=l);obtain⟨f,a⟩:=AJ (g:=g) (F:=F) (i:=i+1) (l:=Y8 l ((g.nodes[x.toNat]?).getD default).ptrs);refine⟨t++f,?_⟩;show XN g F (i+1) (Y8 l ((g.nodes[x.toNat]?).getD default).ptrs)=_;rw[a,d,Zew]
def AI{g:Gr}(d:right g=xy):∀ {F i:Nat} {l:List Int} (k:Nat),Good (P g.nodes) l->P g.nodes<F+i->XN g (F+k) i l=XN g F i l
 |0,i,l,k,a,f=>by
  have:=a.len;cases k with
  |zero=>rfl
  |succ k=>
   simp only[Zet,XN];rw[ZeJ Z0]
 |F+1,i,l,k,a,f=>by
  rw[show F+1+k=(F+k)+1 by omega];simp only[XN];cases j:l[i]? with
  |none=>rfl
  |some x=>
   exact AI d k (Tf a λy h=>(z5 d x y h).2) Z0
def Hh{g h:Gr}{f:Int->Int}(d:∀x∈order g,(h.nodes[(f x).toNat]?).map (·.ptrs)=xk ((outs g x).map f))(n:∀x∈order g,∀y∈outs g x,y<0->f y<0)(k:∀x∈order g,∀y∈order g,f x=f y->x=y)(o:∀x∈order g,0<=f x):
  ∀ {F i:Nat} {l:List Int},(∀x∈XN g F i l,x∈order g)->XN h F i (l.map f)=(XN g F i l).map f
 |0,i,l,_=>rfl
 |F+1,i,l,q=>by
  simp only[XN,Ze1];simp only[XN]at q;cases A:l[i]? with
  |none=>rfl
  |some x=>
   rw[A]at q;simp only[Ze4];simp only at q;have u:x∈order g:=by
    obtain⟨t,C⟩:=zP ((g.nodes[x.toNat]?).getD default).ptrs (acc:=l);obtain⟨G,p⟩:=AJ (g:=g) (F:=F) (i:=i+1) (l:=Y8 l ((g.nodes[x.toNat]?).getD default).ptrs);refine q x ?_;rw[p,C];simp[ZdO A]
   have r:=d x u;cases z:h.nodes[(f x).toNat]? with
   |none=>rw[z]at r;cases r
   |some H=>
    rw[z]at r;simp only[Ze4,ZdF]at r;simp only[Zec,r];have j:∀y∈Y8 l (outs g x),y∈order g:=λy D=>by
     obtain⟨G,p⟩:=AJ (g:=g) (F:=F) (i:=i+1) (l:=Y8 l (outs g x));refine q y ?_;show y∈XN g F (i+1) (Y8 l (outs g x));rw[p];simp[D]
    rw[zQ (λa w b B=>k a (j a w) b (j b B)) (λa w=>o a (j a w)) (n x u)];exact Hh d n k o q
def zu{g:Gr}(d:right g=xy){x:Int}(hx:x∈g.roots)(a:0<=x):x∈order g:=by
 rw[Hj d,RO];exact .inr ⟨by simp[hx],a⟩
def Z2R{g:Gr}(d:right g=xy){x y:Int}(hx:x∈order g)(f:y∈outs g x)(a:0<=y):y∈order g:=by
 rw[Hj d,RO];exact .inr ⟨Zgf _ (ZfN.2 ⟨x,hx,f⟩),a⟩
def OL{L:List Int}{f:Int->Int}{p:Int}(d:∀x∈L,f x=f p->x=p):Rc (L.map f) (f p)=Rc L p:=by
 unfold Rc;rw[List.findIdx?_map];have:L.findIdx? ((λx=>x==f p)∘f)=L.findIdx? (λx=>x==p):=by
  induction L with
  |nil=>rfl
  |cons a L k=>
   simp only[Zgu,Function.comp];have g:(f a==f p)=(a==p):=by
    rw[Zh4];simp only[Zeq];exact⟨d a Z1,λe=>by rw[e]⟩
   have h:=k λx j=>d x (by simp[j]);simp only[g];rw[h]
 rw[this]
def Z07{g h:Gr}(o:right g=xy)(J:right h=xy)(f:Int->Int)(N:f (-1)= -1)(q:∀x∈order g,∀y∈order g,f x=f y->x=y)(r:∀x∈order g,0<=f x)
  (n:h.roots=g.roots.map f) (k:∀x∈order g,h.nodes[(f x).toNat]?=xk ⟨(outs g x).map f,((g.nodes[x.toNat]?).getD default).data⟩):
  order h=(order g).map f/\Xj h=Xj g:=by
 have z:∀x:Int,-1<=x->x<0->f x=x:=λx C D=>by
  have:x= -1:=Z0;subst this;exact N
 have w:∀x∈order g,(h.nodes[(f x).toNat]?).map (·.ptrs)=xk ((outs g x).map f):=λx a=>by rw[k x a];rfl
 have G:order h=(order g).map f:=by
  have t:Good (P g.nodes) (Y8 [] g.roots):=Tf ⟨Z1,Z1⟩ λx a=>(RZ o x a).2;have u:Good (P h.nodes) (Y8 [] h.roots):=Tf ⟨Z1,Z1⟩ λx a=>(RZ J x a).2;have C:=AI o (F:=P g.nodes+1) (i:=0) (P h.nodes) t Z0;have D:=AI J (F:=P h.nodes+1) (i:=0) (P g.nodes) u Z0;have K:=Hh (f:=f) w (λx a y B d=>by rw[z y (z5 o x y B).1 d];exact d) q r (F:=P g.nodes+1+P h.nodes) (i:=0) (l:=Y8 [] g.roots) (λx a=>by rw[C]at a;exact a);have L:Y8 [] h.roots=(Y8 [] g.roots).map f:=by
   rw[n];refine zQ (l:=[]) (λx a y B=> ?_) (λx a=> ?_) (λx a d=> ?_);rw[RO]at a B;simp at a B;exact q x (zu o a.1 a.2) y (zu o B.1 B.2);rw[RO]at a;simp at a;exact r x (zu o a.1 a.2);rw[z x (RZ o x a).1 d];exact d
  unfold order;rw[<-D,<-C,L,<-K];congr 1;omega
 refine⟨G,?_⟩;have j:∀H:List Int,(∀p∈H,-1<=p/\(0<=p->p∈order g))->V1 (order h) (H.map f)=V1 (order g) H:=by
  intro H I;unfold V1;rw[Zge];refine Zfv λp A=> ?_;obtain⟨C,D⟩:=I p A;simp only[Function.comp];by_cases d:0<=p;rw[if_pos (r p (D d)),if_pos d,G];exact OL λx a M=>q x a p (D d) M;rw[z p C Z0];rw[if_neg d,if_neg d]
 unfold Xj;congr 1;rw[G,Zge];refine Zfv λx a=> ?_;simp only[Function.comp,Qn,k x a,Zec];congr 1;rw[<-G];exact j _ λp A=>⟨(z5 o x p A).1,λd=>Z2R o a A d⟩;rw[n];exact j _ λp A=>⟨(RZ o p A).1,λd=>zu o A d⟩
end Vm
end
section

end
section
namespace Vm
open Go Go.Proofs
structure Fo where
 ob:Ob
 ad:Int
 sl:List Int
 deriving Inhabited
def X6(f:Fo):V:=.agg [vi f.ob.at_,vi f.ob.size,vi f.ob.ptrs,.bool f.ob.gone,vu f.ob.target,vu f.ad,.sl (f.sl.map vu)]
@[simp]theorem ZaD(f:Fo):(X6 f).cells=[vi f.ob.at_,vi f.ob.size,vi f.ob.ptrs,.bool f.ob.gone,vu f.ob.target,vu f.ad,.sl (f.sl.map vu)]:=rfl
@[simp]theorem Zc9(f:Fo):Vi (X6 f) 7=xk (X6 f):=rfl
@[simp]theorem Zaw(f:Fo):U9 (X6 f) 0 7=xk (X6 f):=rfl
@[simp]theorem Z9K(f:Fo):ZX (X6 f) 0=xk (vi f.ob.at_):=rfl
@[simp]theorem Z9L(f:Fo):ZX (X6 f) 1=xk (vi f.ob.size):=rfl
@[simp]theorem Z9M(f:Fo):ZX (X6 f) 2=xk (vi f.ob.ptrs):=rfl
@[simp]theorem Z9N(f:Fo):ZX (X6 f) 3=xk (.bool f.ob.gone):=rfl
@[simp]theorem Z9O(f:Fo):ZX (X6 f) 4=xk (vu f.ob.target):=rfl
@[simp]theorem Z9P(f:Fo):ZX (X6 f) 5=xk (vu f.ad):=rfl
@[simp]theorem Z9Q(f:Fo):ZX (X6 f) 6=xk (.sl (f.sl.map vu)):=rfl
@[simp]theorem ZbX(l:List Fo):Xp 7 (l.map X6)=xy:=Ja λ_=>rfl
structure Vw where
 ns:List Fo
 nm:List (Int×Int)
 tm:List (Int×Int)
 deriving Inhabited
def Vw.put(s:Vw)(f:Fo):Vw:=if f.ob.gone then {s with tm:=XH s.tm f.ad f.ob.target}else {s with ns:=s.ns++[f],nm:=XH s.nm f.ad (P s.ns)}
def Vw.toA(s:Vw)(w:Int):Int:=if w=0 then-1 else(ZY s.nm ((ZY s.tm (adr w).1).getD (adr w).1)).getD 0
def UH(s:Vw)(f:Fo):Nd:=⟨(f.sl.take f.ob.ptrs.toNat).map s.toA,f.sl.drop f.ob.ptrs.toNat⟩
def Vw.gr(s:Vw)(a:Z8):Gr:=⟨s.ns.map (UH s),a.map s.toA⟩
def D8(s:Vw){ws:Z8}(B:P ws<=1000000)(x:∀w∈ws,ZC w):
  V6 Sol.prog 43 [.fz,.mem [.fz],.mem [.fz]] [.sl (ws.map vu),.agg [Yd vu s.tm],.agg [Yd vi s.nm]] (.tup [.sl ((ws.map s.toA).map vi),.agg [Yd vu s.tm],.agg [Yd vi s.nm]]):=by
 refine Jg Sol.func43 follows Z2 cTo Z2 ?_;simp[Iw];refine VK 5 (P ws) (λi=>[(4,.v (.sl (((ws.take i).map s.toA).map vi))),(5,.v (vi i))]) (λ_=>True) Z1 Z1 trivial ?_;intro i A _;by_cases h:i<P ws;have y:ws[i]?=xk ws[i]:=ZdG h;have r:=x _ (Ze0 h);have o:=Zz ((i:Int)+1) Z0 Z0;have q:List.take (i+1) (List.map (vi∘s.toA) ws)=List.take i (List.map (vi∘s.toA) ws)++[vi (s.toA ws[i])]:=by
  rw[ZeI,Ze1,y];rfl
 have a:min i (P ws)+1<=Y4:=by unfold Y4;omega
 simp[h,o,q,a];split;simp_all[Vw.toA];rename_i p;refine Zy (Js r) Z1 ?_;have j:=RH (f:=vu) (l:=s.tm) (k:=(adr ws[i]).1) (z:=.int .u64 0) (ok:=xy);cases n:ZY s.tm (adr ws[i]).1 with
 |none=>
  rw[n]at j;have d:=RH (f:=vi) (l:=s.nm) (k:=(adr ws[i]).1) (z:=.int .i64 0) (ok:=xh);cases g:ZY s.nm (adr ws[i]).1 with
  |none=>rw[g]at d;simp[j,d,Vw.toA,p,n,g,o,a]
  |some t=>rw[g]at d;simp[j,d,Vw.toA,p,n,g,o,a]
 |some u=>
  rw[n]at j;have d:=RH (f:=vi) (l:=s.nm) (k:=u) (z:=.int .i64 0) (ok:=xh);cases g:ZY s.nm u with
  |none=>rw[g]at d;simp[j,d,Vw.toA,p,n,g,o,a]
  |some t=>rw[g]at d;simp[j,d,Vw.toA,p,n,g,o,a]
 have:i=P ws:=Z0;simp_all
def Z5q{s:St}{st:Vw}{f:Fo}{N R:St->Prop}{X:Nat->St->Prop}(o:get s 6=.v (.sl (st.ns.map X6)))(p:get s 7=.m [Yd vi st.nm])(q:get s 8=.m [Yd vu st.tm])(h:get s 12=.v (.tup [X6 f,.bool xy]))(g:get s 10=.v (.bool xy))(u:P st.ns<=4000000)
  (r:∀a,get a 6=.v (.sl ((st.put f).ns.map X6))->get a 7=.m [Yd vi (st.put f).nm]->get a 8=.m [Yd vu (st.put f).tm]->get a 1=get s 1->get a 2=get s 2->get a 3=get s 3->N a):Yq Sol.prog rD s N X R:=by
 have j:=K8 (f:=vu) (l:=st.tm) (k:=f.ad) (x:=f.ob.target);have n:=K8 (f:=vi) (l:=st.nm) (k:=f.ad) (x:=(P st.ns:Int));have d:P st.ns+1<=Y4:=by unfold Y4;omega
 cases t:f.ob.gone;simp_all[rD,YX,Vw.put,X6];simp_all[rD,YX,Vw.put]
def Z5p{s:St}{N R:St->Prop}{X:Nat->St->Prop}(a:get s 10=.v (.bool xh))(d:X 0 s):Yq Sol.prog rD s N X R:=by
 simp[rD,a,d]
structure Vw.sm (st:Vw) (roots:List Int):Prop where
 n:P st.ns<=100000
 f:∀f∈st.ns,0<=f.ob.ptrs/\f.ob.ptrs<=P f.sl/\P f.sl<=100000/\∀w∈f.sl,ZC w
 r:P roots<=100000/\∀w∈roots,ZC w
def Vw.sm.gr{st:Vw}{a:Z8}(h:st.sm a):(st.gr a).sm:=by
 refine⟨by simpa[Vw.gr]using h.n,by simpa[Vw.gr]using h.r.1,λn d=> ?_⟩;simp only[Vw.gr,ZdX]at d;obtain⟨f,g,rfl⟩:=d;obtain⟨_,_,j,_⟩:=h.f f g;grind [UH,List.length_map,List.length_take,List.length_drop]
def Z5o{s:St}{st:Vw}{roots:Z8}{b c t y sc:V}{I J K L:V}{N R:St->Prop}{X:Nat->St->Prop}(k:st.sm roots)(x:get s 1=.m [b,c,t,y,sc,I,J,K,L,.sl (roots.map vu)])(o:get s 6=.v (.sl (st.ns.map X6)))(z:get s 7=.m [Yd vi st.nm])(A:get s 8=.m [Yd vu st.tm])
  (a:∀D,W9 D [(2,.ag 2),(3,.v)]=xk (WU (st.gr roots))->R D):Yq Sol.prog rC s N X R:=by
 simp[rC,o,YX];refine VK 16 (xq st.ns) (λi=>[(15,.m [.sl (((st.ns.take i).map (UH st)).map Ye),.sl []]),(16,.v (vi i))]) (λ_=>True) (by simp[YX]) (by simp[YX]) trivial ?_;intro i M _;by_cases h:i<xq st.ns;have G:st.ns[i]?=xk st.ns[i]:=ZdG h;obtain⟨H,Q,p2,p3⟩:=k.f _ (Ze0 h);have O:=k.n;obtain⟨P,B⟩:=ZdV H;have d:P<=st.ns[i].sl.length:=Z0;have u:=Zz ((i:Int)+1) Z0 Z0;have q:List.take (i+1) (List.map (Ye∘UH st) st.ns)=List.take i (List.map (Ye∘UH st) st.ns)++[Ye (UH st st.ns[i])]:=by
  rw[ZeI,Ze1,G];rfl
 have l:=D8 st (ws:=st.ns[i].sl.take P) ZcL λw u=>p3 w (ZeD u);have j:min i (xq st.ns)+1<=Y4:=by unfold Y4;omega
 simp[YX,h,x,o,z,A,B,SW,d];rw[List.map_take]at l;refine VN l ?_;simp[YX,Q3,d,u,q,j,B,UH,Ye];have:i=xq st.ns:=Z0;subst this;simp[YX,x,o,z,A];refine VN (D8 st (ws:=roots) (by have:=k.r.1;omega) k.r.2) ?_;simp;have C:=O3 k.gr;simp only[Vw.gr,Yj,Zge]at C;refine Zy C Z1 ?_;have F:WU (st.gr roots)=WU {nodes:=List.map (UH st) st.ns,roots:=List.map st.toA roots}:=rfl;rw[F]at a;generalize ({nodes:=List.map (UH st) st.ns,roots:=List.map st.toA roots}:Gr)=g at*;unfold WU at a⊢;split;rename_i p;rw[if_pos p]at a;simp;refine a _ ?_;simp[W9,VG,UN,Yj];rename_i p;rw[if_neg p]at a;simp[TP,Yj];refine a _ ?_;simp[W9,VG,UN,TP,Yj]
end Vm
end
section
namespace Vm
open Go Go.Proofs Go.RowKit Go.Conc
def DB{t:Za}(h:t.size=71):t=#[t.getD 0 undef,t.getD 1 undef,t.getD 2 undef,t.getD 3 undef,t.getD 4 undef,t.getD 5 undef,t.getD 6 undef,t.getD 7 undef,t.getD 8 undef,t.getD 9 undef,t.getD 10 undef,t.getD 11 undef,t.getD 12 undef,t.getD 13 undef,t.getD 14 undef,t.getD 15 undef,t.getD 16 undef,t.getD 17 undef,t.getD 18 undef,t.getD 19 undef,t.getD 20 undef,t.getD 21 undef,t.getD 22 undef,t.getD 23 undef,t.getD 24 undef,t.getD 25 undef,t.getD 26 undef,t.getD 27 undef,t.getD 28 undef,t.getD 29 undef,t.getD 30 undef,t.getD 31 undef,t.getD 32 undef,t.getD 33 undef,t.getD 34 undef,t.getD 35 undef,t.getD 36 undef,t.getD 37 undef,t.getD 38 undef,t.getD 39 undef,t.getD 40 undef,t.getD 41 undef,t.getD 42 undef,t.getD 43 undef,t.getD 44 undef,t.getD 45 undef,t.getD 46 undef,t.getD 47 undef,t.getD 48 undef,t.getD 49 undef,t.getD 50 undef,t.getD 51 undef,t.getD 52 undef,t.getD 53 undef,t.getD 54 undef,t.getD 55 undef,t.getD 56 undef,t.getD 57 undef,t.getD 58 undef,t.getD 59 undef,t.getD 60 undef,t.getD 61 undef,t.getD 62 undef,t.getD 63 undef,t.getD 64 undef,t.getD 65 undef,t.getD 66 undef,t.getD 67 undef,t.getD 68 undef,t.getD 69 undef,t.getD 70 undef]:=by
 refine ZgO Z0 λi f d=> ?_;have a:i<71:=ZcW;have e:t[i]=t.getD i undef:=by simp[Array.getD,f]
 rw[e]
 revert d
 match i,a with
 |0,_=>simp
 |1,_=>simp
 |2,_=>simp
 |3,_=>simp
 |4,_=>simp
 |5,_=>simp
 |6,_=>simp
 |7,_=>simp
 |8,_=>simp
 |9,_=>simp
 |10,_=>simp
 |11,_=>simp
 |12,_=>simp
 |13,_=>simp
 |14,_=>simp
 |15,_=>simp
 |16,_=>simp
 |17,_=>simp
 |18,_=>simp
 |19,_=>simp
 |20,_=>simp
 |21,_=>simp
 |22,_=>simp
 |23,_=>simp
 |24,_=>simp
 |25,_=>simp
 |26,_=>simp
 |27,_=>simp
 |28,_=>simp
 |29,_=>simp
 |30,_=>simp
 |31,_=>simp
 |32,_=>simp
 |33,_=>simp
 |34,_=>simp
 |35,_=>simp
 |36,_=>simp
 |37,_=>simp
 |38,_=>simp
 |39,_=>simp
 |40,_=>simp
 |41,_=>simp
 |42,_=>simp
 |43,_=>simp
 |44,_=>simp
 |45,_=>simp
 |46,_=>simp
 |47,_=>simp
 |48,_=>simp
 |49,_=>simp
 |50,_=>simp
 |51,_=>simp
 |52,_=>simp
 |53,_=>simp
 |54,_=>simp
 |55,_=>simp
 |56,_=>simp
 |57,_=>simp
 |58,_=>simp
 |59,_=>simp
 |60,_=>simp
 |61,_=>simp
 |62,_=>simp
 |63,_=>simp
 |64,_=>simp
 |65,_=>simp
 |66,_=>simp
 |67,_=>simp
 |68,_=>simp
 |69,_=>simp
 |70,_=>simp
 |i+71,h=>omega
def SX(v:Ze)(a n:Nat):Value:=match v with
 |.slice (xk ⟨b,o,q⟩) _ c=>.slice (xk (if c=a then⟨b,o,q⟩else⟨b,o+a,q⟩)) n (c-a)
 |v=>v
def Ua(h:Hp)(x:Z9)(p:Nat)(o:Ob):Value:=.agg #[.int .i64 o.at_,.int .i64 o.size,.int .i64 o.ptrs,.bool o.gone,.int .u64 o.target,.int .u64 (Y1 (Zu h) ((p:Int)+1) o.at_).1,SX (x p) (o.at_+1).toNat o.size.toNat]
def obP(h:Hp)(p:Nat):List Ob:=(Ue h ((p:Int)+1)).1
def Wg(h:Hp)(x:Z9):Nat->Nat->List Value
 |0,_=>[]
 |n+1,p=>(obP h p).map (Ua h x p)++Wg h x n (p+1)
noncomputable def seC:Code:=match Try.f42.body with|some c=>c|none=>.skip
noncomputable def clOps:Array Oper:=Kl (Yn seC [1,1,1])
def CO(c:Nat)(b:Zf)(d:Z6)(fr:Zf)(cs:Z6)(w:Z4):Prop:=cs=d/\∃a,fr=b.at a [.inRegion clOps [1]]/\a.tmps[70]?=xk (.chan (xk c))/\a.defers=[]
def Z5v{w:Z4}{G:Z3}{h:Hp}{x:Z9}(d:∀j,j<5->Rd w G (.sl ((Zv h j).map vu)) (x j)):Rd w G (ZJ h) (ZO h x):=by
 refine .agg _ _ rfl Z1 ?_;intro i y a
 match i,a with
 |0,a=>cases a;exact .int _ _
 |1,a=>cases a;exact .int _ _
 |2,a=>cases a;exact .int _ _
 |3,a=>cases a;exact .bool _
 |4,a=>cases a;exact .int _ _
 |5,a=>cases a;exact d 0 Z0
 |6,a=>cases a;exact d 1 Z0
 |7,a=>cases a;exact d 2 Z0
 |8,a=>cases a;exact d 3 Z0
 |9,a=>cases a;exact d 4 Z0
def Oh{w:Z4}{G:Z3}{h:Hp}(u:h.ok){x:Z9}(o:∀b,G b->b<U (R w))(z:∀j,j<5->Rd w G (.sl ((Zv h j).map vu)) (x j))(p:Int):
  Calls Sol.prog 27 #[ZO h x,.int .i64 p] w λe f=>∃s,e=.returned (.tuple #[s,.int .i64 (Ue h p).2])/\Below (U (R w)) w f/\Rd f (λb=>b<U (R f)) (.sl ((Ue h p).1.map ZL)) s:=by
 refine Zhn ((NZ u (k:=p)).2 w G _ o rfl ?_) ?_;intro i y d
 match i,d with
 |0,d=>cases d;exact Z5v z
 |1,d=>cases d;exact .int _ _
 rintro e f ⟨v,rfl,q,A⟩;cases A with
 |tup _ vs l n=>
  have t:=n 0 _ rfl;have g:=TV (n 1 _ rfl);simp only[Zf2,Zfg]at l;refine⟨vs.getD 0 undef,?_,q,t.mono λb a=> ?_⟩;congr 2;refine ZgO (by simpa using l) λi r B=> ?_;have:i=0\/i=1:=by simp at B;omega
  obtain rfl|rfl:=this;simp[Array.getD,r];simp[Array.getD,r]at g;simpa using g;obtain⟨_,a⟩|a:=a;exact ZdS (o b a) q.size;exact a.2
def u71(a b:Ze):(#[a,b]:Array Value)++Array.replicate (71- (#[a,b]:Array Value).size) undef=#[a,b,undef,undef,undef,undef,undef,undef,undef,undef,undef,undef,undef,undef,undef,undef,undef,undef,undef,undef,undef,undef,undef,undef,undef,undef,undef,undef,undef,undef,undef,undef,undef,undef,undef,undef,undef,undef,undef,undef,undef,undef,undef,undef,undef,undef,undef,undef,undef,undef,undef,undef,undef,undef,undef,undef,undef,undef,undef,undef,undef,undef,undef,undef,undef,undef,undef,undef,undef,undef,undef]:=Z2
structure SSt (w:World) (h:Hp) (x:Nat->Value) (b4:Nat) (W:World):Prop where
 bel:Below (U (R w)) w W
 c2:W.heap[U (R w)]?=xk (.cells #[.int .u64 h.base,.int .i64 h.cap,.int .i64 h.to,.bool h.cycle,.int .i64 h.scan,x 0,x 1,x 2,x 3,x 4] 37 (0,0))
 c4:W.heap[b4]?=xk (.cells #[.int .u64 h.base,.int .i64 h.cap,.int .i64 h.to,.int .i64 (P h.low),.int .i64 (P h.high),.int .i64 (P h.old),.int .i64 (P h.far)] 69 (0,0))
def SSt.below{w W d:Z4}{h:Hp}{x:Z9}{f:Nat}(s:SSt w h x f W)(a:Below (U (R W)) W d):SSt w h x f d:=
 ⟨s.bel.trans (a.mono s.bel.size),(a.block _ (Yf s.c2)).trans s.c2,(a.block _ (Yf s.c4)).trans s.c4⟩
def KJ{W:Z4}{G:Z3}{l:Z8}{y:Ze}(h:Rd W G (.sl (l.map vu)) y):∃a c,y=.slice a (P l) c:=by
 generalize f:l.map vu=L at h;have j:P L=P l:=by rw[<-f,Zek]
 cases h with
 |nil a c d=>simp_all
 |sl _ b o cap k vs d g=>simp_all
def Z6s{P:Z5}{W:Z4}{T f:Zg}(p:P.underlying T=xk (.slice f))(q:(Go.sizeOf f).run P W=.ok 1 W){b o len cap:Nat}{d a:Int}(g:0<=d)(h2:d<=a)(r:a<=cap):
  (Instr.slice T (.slice (xk ⟨b,o,xw⟩) len cap) (xk (.int .i64 d)) (xk (.int .i64 a)) xw).run P W=.ok (SX (.slice (xk ⟨b,o,xw⟩) len cap) d.toNat (a-d).toNat) W:=by
 obtain⟨l,rfl⟩:=ZdV g;obtain⟨k,rfl⟩:=ZdV (Z0:0<=a);have h:l<=k:=Z0;have j:k<=cap:=Z0;have n:((k:Int) - (l:Int)).toNat=k-l:=Z0;simp[Instr.slice,Instr.sliceBounds,Instr.sliceBound,asIntOf,Zev p,q,h,j,n,SX,Addr.add];grind
def Z5C{W:Z4}{G:Z3}{l:Z8}{y:Ze}(h:Rd W G (.sl (l.map vu)) y)(g:0<P l){a:Option Addr}{n k:Nat}(e:y=.slice a n k):∃b o,a=xk ⟨b,o,xw⟩/\P l<=k/\k<=maxLen:=by
 generalize f:l.map vu=L at h;have p:P L=P l:=by rw[<-f,Zek]
 cases h with
 |nil a c d=>simp_all
 |sl _ b o cap q vs d j=>grind
def Z5z{W:Z4}{G:Z3}{l:Zj}{y:Ze}(h:Rd W G (.sl (l.map ZL)) y):∃a c,y=.slice a (P l) c:=by
 generalize f:l.map ZL=L at h;have j:P L=P l:=by rw[<-f,Zek]
 cases h with
 |nil a c d=>simp_all
 |sl _ b o cap k vs d g=>simp_all
def MA:Try.f42.body=xk seC:=Z2
def Z32{Q:Z5}{c:Nat}{Post:Z7}{es:ZcH}{fn:Func}{code d:Code}{a:Act}{b:Zf}{w:Z4}{cs:Z6}(f:fn.body=xk code)(h2:fn.body=xk d)(h:LS Q c Post es (b.at a [.code code]) cs w):LS Q c Post es (b.at a [.code d]) cs w:=by
 simp_all
def Z6I(b:Zf)(b7:Z6)(w:Z4)(h:Hp)(hh:h.ok)(x:Z9)(c:Nat)(G:Z3)(hG:∀b,G b->b<xz (xj w))(X:∀j,j<5->Rd w G (.sl ((Zv h j).map vu)) (x j))
  (c8:∀p,p<4->xq (obP h p)<=1000000/\∀o∈obP h p,0<=o.at_/\0<=o.size/\o.at_+1+o.size<=xq (Zv h p)):
  LS Sol.prog c (CO c b b7) ((Wg h x 4 0).map .send) (b.at {tmps:=#[ZO h x,.chan (xk c)]++Array.replicate (71- (#[ZO h x,.chan (xk c)]:Array Value).size) undef,defers:=[]} [.code seC]) b7 w:=by
 obtain⟨O,Y,e0⟩:=KJ (X 0 Z0);obtain⟨P,k1,e1⟩:=KJ (X 1 Z0);obtain⟨Q,Z,e2⟩:=KJ (X 2 Z0);obtain⟨R,k3,e3⟩:=KJ (X 3 Z0);have A:=ZdP (And.intro e0 (And.intro e1 (And.intro e2 e3)));have HL:∀W,Below (xz (xj w)) w W->Calls Sol.prog 64 #[ZO h x] W λe w'=>e=.returned (Ve (Zu h))/\Below (xz (xj W)) W w':=λW L=>
  Tr (G:=G) (λb N=>ZdS (hG b N) L.size) λj hj=>(X j hj).keep (λb N=>L.block b (hG b N)) λ_ q=>q
 have HO:∀W,Below (xz (xj w)) w W->∀p,Calls Sol.prog 27 #[ZO h x,.int .i64 p] W λe w'=>∃s,e=.returned (.tuple #[s,.int .i64 (Ue h p).2])/\Below (xz (xj W)) W w'/\Rd w' (λb=>b<xz (xj w')) (.sl ((Ue h p).1.map ZL)) s:=λW L p=>
  Oh hh (G:=G) (λb N=>ZdS (hG b N) L.size) (λj hj=>(X j hj).keep (λb N=>L.block b (hG b N)) λ_ q=>q) p
 unfold ZO at HL HO;rw[e0,e1,e2,e3]at HL HO;have HL:=ZdP HL;have HO:=ZdP HO;have HF:=ZdP (And.intro hG X);have HB:=ZdP c8;clear hG X c8;unfold ZO;rw[e0,e1,e2,e3];refine Z32 (fn:=Try.f42) rfl MA ?_;rw[u71];refine LS.two (LS.regK λK u=> ?_);go_wp2;obtain⟨w2,z⟩:∃w2,w2=w.alloc (.cells #[.int .u64 h.base,.int .i64 h.cap,.int .i64 h.to,.bool h.cycle,.int .i64 h.scan,.slice O (xq (Zv h 0)) Y,.slice P (xq (Zv h 1)) k1,.slice Q (xq (Zv h 2)) Z,.slice R (xq (Zv h 3)) k3,x 4] 37):=⟨_,rfl⟩;rw[<-z];have b2:w2.heap[xz (xj w)]?=xk (.cells #[.int .u64 h.base,.int .i64 h.cap,.int .i64 h.to,.bool h.cycle,.int .i64 h.scan,.slice O (xq (Zv h 0)) Y,.slice P (xq (Zv h 1)) k1,.slice Q (xq (Zv h 2)) Z,.slice R (xq (Zv h 3)) k3,x 4] 37 (0,0)):=by rw[z];exact Ze7 ..
 have z2:xz (xj w2)=xz (xj w)+1:=by rw[z];simp
 have q2:Below (xz (xj w)) w w2:=by rw[z];exact(Zef _ _).alloc (ZdL _) _
 clear z;have y2:∀j,w2.cell? ⟨xz (xj w),j,xw⟩=(#[.int .u64 h.base,.int .i64 h.cap,.int .i64 h.to,.bool h.cycle,.int .i64 h.scan,.slice O (xq (Zv h 0)) Y,.slice P (xq (Zv h 1)) k1,.slice Q (xq (Zv h 2)) Z,.slice R (xq (Zv h 3)) k3,x 4]:Array Value)[j]? :=λj=>ZdT _ _ _ _ _ _ b2;have d:=ZdP (And.intro b2 (And.intro z2 q2));clear b2 z2 q2;refine LS.two (LS.regK λK u=> ?_)
 go_wp2_with (first
  |(go_at_call 64;refine(HL.out _ d.out.2.2).mono ?_;rintro e w3 ⟨rfl,b9⟩;unfold Ve Zu;dsimp only;have I:=ZdP b9;clear b9))
 obtain⟨W,L⟩:∃W,W=w3.alloc (.cells #[.int .u64 h.base,.int .i64 h.cap,.int .i64 h.to,.int .i64 (xq h.low),.int .i64 (xq h.high),.int .i64 (xq h.old),.int .i64 (xq h.far)] 69):=⟨_,rfl⟩;obtain⟨S,a8⟩:∃S,S=xz (xj w3):=⟨_,rfl⟩;rw[<-L,<-a8];have f:SSt w h x S W:=by
  have hz:=I.out.size;rw[L,a8];exact⟨(d.out.2.2.trans (I.out.mono d.out.2.2.size)).alloc (by have:=d.out.2.2.size;omega) _,by rw[ZdN _ _ _ (by have:=Yf d.out.1;omega)];rw[e0,e1,e2,e3];exact(I.out.block _ (Yf d.out.1)).trans d.out.1,Ze7 ..⟩
 clear L a8 I d y2 e0 e1 e2 e3;have y2:∀j,W.cell? ⟨xz (xj w),j,xw⟩=(#[.int .u64 h.base,.int .i64 h.cap,.int .i64 h.to,.bool h.cycle,.int .i64 h.scan,.slice O (xq (Zv h 0)) Y,.slice P (xq (Zv h 1)) k1,.slice Q (xq (Zv h 2)) Z,.slice R (xq (Zv h 3)) k3,x 4]:Array Value)[j]? :=λj=>Zd3;refine LS.two (LS.two (LS.regK λK u=> ?_));go_wp2
 refine LS.block (LS.loopI (λn es a W=>∃(p:Nat) (t:Za),p+n=4/\es=(Wg h x n p).map .send/\a=⟨t,[]⟩/\t.size=71/\t.getD 1 undef=.chan (xk c)/\t.getD 2 undef=.pointer (xk ⟨xz (xj w),0,xw⟩)/\t.getD 4 undef=.pointer (xk ⟨S,0,xw⟩)/\
  t.getD 24 undef=.agg #[.slice O (xq (Zv h 0)) Y,.slice P (xq (Zv h 1)) k1,.slice Q (xq (Zv h 2)) Z,.slice R (xq (Zv h 3)) k3]/\t.getD 25 undef=.int .i64 p/\SSt w h x S W) (n:=4) ⟨0,_,rfl,rfl,rfl,rfl,rfl,rfl,rfl,rfl,rfl,f⟩ ?_)
 clear f y2 W;rintro n es a W ⟨p,t,hp,rfl,rfl,D,t1,t2,t4,F,H,f⟩ ih;have IH:=ZdP ih;clear ih;rw[DB D,t1,t2,t4,F,H];obtain⟨g,hg⟩:∃g:Z9,∀i,t.getD i undef=g i:=⟨_,λ_=>rfl⟩;simp only[hg];clear hg t1 t2 t4 F H D t;have y2:∀j,W.cell? ⟨xz (xj w),j,xw⟩=(#[.int .u64 h.base,.int .i64 h.cap,.int .i64 h.to,.bool h.cycle,.int .i64 h.scan,.slice O (xq (Zv h 0)) Y,.slice P (xq (Zv h 1)) k1,.slice Q (xq (Zv h 2)) Z,.slice R (xq (Zv h 3)) k3,x 4]:Array Value)[j]? :=λj=>Zd3;cases n with
 |zero=>
  have d5:((p:Int)<4)=False:=Zgl Z0;refine LS.two (LS.regK λK u=> ?_);go_wp2;refine LS.two (LS.condF rfl (LS.exit rfl (LS.region ?_)));refine LS.value (i:=0) (l:=[1]) rfl rfl rfl ?_;exact LS.now ⟨rfl,_,rfl,rfl,rfl⟩
 |succ n=>
  have d5:((p:Int)<4)=True:=ZgE Z0;have f4:p<4:=Z0;refine LS.two (LS.regK λK u=> ?_);go_wp2;refine LS.two (LS.condT rfl (LS.skip (LS.two (LS.block (LS.two (LS.regK λK u=> ?_))))));obtain⟨ap,kp,ep⟩:=KJ (HF.out.2 p Z0);have c7:∀W,(Instr.index 135 (.agg #[.slice O (xq (Zv h 0)) Y,.slice P (xq (Zv h 1)) k1,.slice Q (xq (Zv h 2)) Z,.slice R (xq (Zv h 3)) k3]) (.int .i64 (p:Int))).run Sol.prog W=.ok (.slice ap (xq (Zv h p)) kp) W:=by
   intro W;have hT:Sol.prog.underlying 135=xk (.array 4 35):=Z2;have:p=0\/p=1\/p=2\/p=3:=Z0;rw[<-ep];obtain rfl|rfl|rfl|rfl:=this;rw[A.out.1];rfl;rw[A.out.2.1];rfl;rw[A.out.2.2.1];rfl;rw[A.out.2.2.2];rfl
  have EP:=ZdP ep;clear ep;go_wp2;clear c7;have b6:=Zz ((p:Int)+1) Z0 Z0;refine LS.two (LS.regK λK u=> ?_);go_wp2;have d:=ZdP f;clear f;refine LS.two (LS.regK λK u=> ?_)
  go_wp2_with (first
   |(go_at_call 27;refine(HO.out _ d.out.bel _).mono ?_;rintro e W5 ⟨s5,rfl,c0,r⟩;obtain⟨a5,k5,rfl⟩:=Z5z r;have a4:=ZdP (And.intro c0 r);clear c0 r))
  refine LS.two (LS.regK λK u=> ?_);go_wp2;have f:=d.out.below a4.out.1;have r:=a4.out.2;clear d a4 y2 W d5;rename_i W5;rw[show(Ue h ((p:Int)+1)).1=obP h p from rfl]at r⊢;have U:=Z3W r λb N=>N;obtain⟨f3,d0⟩:=HB.out p f4;have c6:Wg h x (n+1) p=(obP h p).map (Ua h x p)++Wg h x n (p+1):=rfl;rw[c6];clear c6 r;have HX:=ZdP (And.intro U (And.intro f3 d0));clear U d0
  refine LS.block (LS.loopI (λm es a W=>∃(i:Nat) (t:Za),i+m=xq (obP h p)/\es=(((obP h p).drop i).map (Ua h x p)++Wg h x n (p+1)).map .send/\a=⟨t,[]⟩/\t.size=71/\t.getD 1 undef=.chan (xk c)/\t.getD 2 undef=.pointer (xk ⟨xz (xj w),0,xw⟩)/\t.getD 4 undef=.pointer (xk ⟨S,0,xw⟩)/\
   t.getD 6 undef=.slice ap (xq (Zv h p)) kp/\t.getD 7 undef=.int .i64 ((p:Int)+1)/\t.getD 24 undef=.agg #[.slice O (xq (Zv h 0)) Y,.slice P (xq (Zv h 1)) k1,.slice Q (xq (Zv h 2)) Z,.slice R (xq (Zv h 3)) k3]/\t.getD 25 undef=.int .i64 p/\t.getD 37 undef=.slice a5 (xq (obP h p)) k5/\t.getD 38 undef=.int .i64 (xq (obP h p))/\t.getD 39 undef=.int .i64 i/\
   SSt w h x S W/\Below (xz (xj W5)) W5 W) (n:=xq (obP h p)) ⟨0,_,Z0,rfl,rfl,rfl,rfl,rfl,rfl,rfl,rfl,rfl,rfl,rfl,rfl,rfl,f,Zef _ _⟩ ?_)
  clear f g b6;rintro m es a W ⟨i,t,hi,rfl,rfl,D,t1,t2,t4,t6,t7,F,H,e4,e7,e8,f,k⟩ ih;have f0:=ZdP ih;clear ih;rw[DB D,t1,t2,t4,t6,t7,F,H,e4,e7,e8];obtain⟨g,hg⟩:∃g:Z9,∀i,t.getD i undef=g i:=⟨_,λ_=>rfl⟩;simp only[hg];clear hg t1 t2 t4 t6 t7 F H e4 e7 e8 D t;cases m with
  |zero=>
   have b3:((i:Int)< (xq (obP h p):Int))=False:=Zgl Z0;refine LS.two (LS.regK λK u=> ?_);go_wp2;refine LS.two (LS.condF rfl (LS.exit rfl (LS.inBlock ?_)));have b6:=Zz ((p:Int)+1) Z0 Z0;have C:(obP h p).drop i=[]:=ZgG Z0;rw[C];clear C b3;refine LS.regK λK u=> ?_;go_wp2;exact IH.out n _ _ _ Z0 ⟨p+1,_,Z0,rfl,rfl,rfl,rfl,rfl,rfl,rfl,Z1,f⟩
  |succ m=>
   have b5:i< xq (obP h p):=Z0;obtain⟨o,ho⟩:∃o,(obP h p)[i]?=xk o:=⟨_,ZdG b5⟩;have b3:((i:Int)< (xq (obP h p):Int))=True:=ZgE Z0;obtain⟨g5,o5,f5,e5,c5,g3,f2,B⟩|⟨a9,c9,e9,f1⟩:=HX.out.1;case inr=>rw[f1]at b5;simp at b5
   injection e5 with e5 _ e6;subst e5;subst e6;obtain⟨v0,v1,v2,v3,v4⟩:=B i o ho;have y:=k.block _ f2;have y0:W.cell? ⟨g5,o5+i*5,xw⟩=xk (.int .i64 o.at_):=by rw[ZeC y];exact v0
   have y1:W.cell? ⟨g5,o5+i*5+1,xw⟩=xk (.int .i64 o.size):=by rw[ZeC y];exact v1
   have y2:W.cell? ⟨g5,o5+i*5+2,xw⟩=xk (.int .i64 o.ptrs):=by rw[ZeC y];exact v2
   have y3:W.cell? ⟨g5,o5+i*5+3,xw⟩=xk (.bool o.gone):=by rw[ZeC y];exact v3
   have y4:W.cell? ⟨g5,o5+i*5+4,xw⟩=xk (.int .u64 o.target):=by rw[ZeC y];exact v4
   clear v0 v1 v2 v3 v4 y B;have HC:=ZdP c5;clear c5;refine LS.two (LS.regK λK u=> ?_);go_wp2;refine LS.two (LS.condT rfl (LS.skip (LS.two (LS.block (LS.two (LS.regK λK u=> ?_))))));go_wp2;obtain⟨W6,M⟩:∃W6,W6=W.alloc (.cells #[.int .i64 o.at_,.int .i64 o.size,.int .i64 o.ptrs,.bool o.gone,.int .u64 o.target] 59):=⟨_,rfl⟩;obtain⟨T,b1⟩:∃T,T=xz (xj W):=⟨_,rfl⟩;rw[<-M,<-b1];have b0:Below (xz (xj W)) W W6:=by rw[M];exact(Zef _ _).alloc (ZdL _) _
   have q6:W6.heap[T]?=xk (.cells #[.int .i64 o.at_,.int .i64 o.size,.int .i64 o.ptrs,.bool o.gone,.int .u64 o.target] 59 (0,0)):=by rw[M,b1];exact Ze7 ..
   have a6:=f.below b0;have b8:=k.trans (b0.mono k.size);clear M b1 b0 f k y0 y1 y2 y3 y4 W;have z4:∀j,W6.cell? ⟨S,j,xw⟩=(#[.int .u64 h.base,.int .i64 h.cap,.int .i64 h.to,.int .i64 (xq h.low),.int .i64 (xq h.high),.int .i64 (xq h.old),.int .i64 (xq h.far)]:Array Value)[j]? :=λj=>ZdT _ _ _ _ _ _ a6.c4;have zo:∀j,W6.cell? ⟨T,j,xw⟩=(#[.int .i64 o.at_,.int .i64 o.size,.int .i64 o.ptrs,.bool o.gone,.int .u64 o.target]:Array Value)[j]? :=λj=>ZdT _ _ _ _ _ _ q6;have d:=ZdP (And.intro a6 (And.intro b8 q6));clear a6 b8 q6;have HA:=ZdP λW=>Df hh.lay ((p:Int)+1) o.at_ W;unfold Ve Zu at HA;dsimp only at HA;refine LS.two (LS.regK λK u=> ?_)
   go_wp2_with (first
    |(go_at_call 75;refine(HA.out _).mono ?_;rintro e W7 ⟨rfl,c1⟩;have J:=ZdP c1;clear c1))
   have f:=d.out.1.below J.out;have k:=d.out.2.1.trans (J.out.mono d.out.2.1.size);have q7:=(J.out.block _ (Yf d.out.2.2)).trans d.out.2.2;clear z4 zo d J HA;rename_i W7;clear W6;obtain⟨f6,g8,f9⟩:=HX.out.2.2 o (ZdO ho);have d6:0< xq (Zv h p):=Z0;obtain⟨bw,ow,ew,f7,g4⟩:=Z5C (HF.out.2 p Z0) d6 EP.out;subst ew;have C:(obP h p).drop i=o::(obP h p).drop (i+1):=by
    obtain⟨h1,rfl⟩:=ZdH.1 ho;exact ZeF h1
   rw[C];rw[show(((o::(obP h p).drop (i+1)).map (Ua h x p)++Wg h x n (p+1)).map Ev.send)=.send (Ua h x p o)::(((obP h p).drop (i+1)).map (Ua h x p)++Wg h x n (p+1)).map .send from rfl];clear C ho b3;have zo:∀j,W7.drew.cell? ⟨T,j,xw⟩=(#[.int .i64 o.at_,.int .i64 o.size,.int .i64 o.ptrs,.bool o.gone,.int .u64 o.target]:Array Value)[j]? :=λj=>ZdT _ _ _ _ _ _ (show W7.drew.heap[T]?=_ from q7);have f8:=QL hh p;have b6:=Zz (o.at_+1) Z0 Z0;have z:=Zz (o.at_+1+o.size) Z0 Z0;have d7:(0:Int)<=o.at_+1:=Z0;have d8:o.at_+1<=o.at_+1+o.size:=Z0;have d9:o.at_+1+o.size<=(kp:Int):=Z0;obtain⟨av,nv,cv,a7⟩:∃av nv cv,.slice av nv cv=SX (x p) (o.at_+1).toNat o.size.toNat:=by rw[EP.out];exact⟨_,_,_,rfl⟩
   have g6:∀W,(Instr.slice 35 (.slice (xk ⟨bw,ow,xw⟩) (xq (Zv h p)) kp) (xk (.int .i64 (o.at_+1))) (xk (.int .i64 (o.at_+1+o.size))) xw).run Sol.prog W=.ok (.slice av nv cv) W:=by
    intro W;have hT:Sol.prog.underlying 35=xk (.slice 24):=Z2;rw[a7,EP.out,Z6s hT Z1 d7 d8 d9,show o.at_+1+o.size- (o.at_+1)=o.size by omega]
   clear d7 d8 d9 zo;have zo:∀j,W7.drew.cell? ⟨T,j,xw⟩=(#[.int .i64 o.at_,.int .i64 o.size,.int .i64 o.ptrs,.bool o.gone,.int .u64 o.target]:Array Value)[j]? :=λj=>ZdT _ _ _ _ _ _ (show W7.drew.heap[T]?=_ from q7);have HV:=ZdP a7;clear a7;have d:=ZdP (And.intro f k);clear f k q7;refine LS.send (n:=16) follows Z2 rfl rfl rfl rfl rfl rfl ?_;simp only[Zh9,ZhZ];change wpStill Sol.prog _ W7.drew _ _ _;repeat still_step
   refine wpStill_nil ⟨rfl,?_,?_⟩;unfold Ua;rw[<-HV.out];rfl
   .refine LS.inBlock ?_;have g7:=Zz ((i:Int)+1) Z0 Z0;refine LS.regK λK u=> ?_;go_wp2;exact f0.out m _ _ _ Z0 ⟨i+1,_,Z0,rfl,rfl,rfl,rfl,rfl,rfl,rfl,rfl,rfl,rfl,rfl,rfl,Z1,SSt.below d.out.1 (Zef _ _).drew,d.out.2.drew⟩
end Vm
end
section
namespace Vm
open Go Go.Proofs Go.Conc
open Go.RowKit (Below)
section
section
variable {c:Ctx}{B:Nat}{G Kf:Z3}{s:St}{a:Act}{w w0:Z4}{h:GH}{S:SS}{n0:Nat}{fix:Zd}{T0:Za}{t:Nat}{v:Ze}{x:V}
def Wu{p:Nat}(d:p≠t):(a.put (xk t) v).tmps[p]?=a.tmps[p]? :=by
 simp[Act.put,Zf9,ZfK d]
def Rb(d:t<a.tmps.size):(a.put (xk t) v).tmps[t]?=xk v:=by
 simp[Act.put,Zf9,d]
theorem Sj:(a.put (xk t) v).tmps.size=a.tmps.size:=by simp[Act.put]
theorem Z5V{p:Nat}{k:OT}{u:Ze}{d f:Nat->Option Value}(g:RelK c.P B s w h d p u (Qr c p k)):RelK c.P B s w h f p u (Qr c p k):=by
 cases k<;>exact g
def RelG.set(j:RelG c B G s a w h (Yo c S))(n:S.at t=xw):RelG c B G s (a.put (xk t) v) w h (Yo c S):=by
 refine⟨j.ok,λp g d=> ?_,λp g=> ?_⟩;by_cases e:p=t;subst e;rw[Yt,n]at d;cases d;obtain⟨u,o,f⟩:=j.at_ p g d;refine⟨u,by simp_all[Wu],?_⟩;rw[Yt]at f⊢;cases l:S.at p with
 |none=>rw[Yt,l]at d;cases d
 |some k=>grind [Z5V]
 refine absurd ?_ g;rw[Yt];cases S.at p<;>exact Vt _
def RelS.set(l:RelS Kf fix T0 c B G w0 n0 s a w S)(k:S.at t=xw):RelS Kf fix (a.put (xk t) v).tmps c B G w n0 s (a.put (xk t) v) w S:=by
 obtain⟨⟨h,d,f⟩,g,n,o,j⟩:=l;exact⟨⟨h,d.set k,f⟩,g,.refl _ _,by grind [Sj],j⟩
def RelS.base(j:RelS Kf fix T0 c B G w0 n0 s a w S):RelS Kf fix a.tmps c B G w n0 s a w S:=by
 obtain⟨d,f,k,g⟩:=j;exact⟨d,f,.refl _ _,g⟩
theorem RelS.put(C:RelS Kf fix T0 c B G w0 n0 s a w S)(u:S.at t=xw)(f:∀y∈S,c.ix y.1≠c.ix t)(A:t<n0)(D:Rd w G x v):RelS Kf fix (a.put (xk t) v).tmps c B G w n0 (YC s (c.ix t) (.v x)) (a.put (xk t) v) w ((t,.fz)::S):=by
 obtain⟨⟨h,j,o⟩,q,H,I,r⟩:=C;refine⟨⟨h,⟨j.ok,λp d g=> ?_,λp d=> ?_⟩,o⟩,λp d=> ?_,.refl _ _,by grind [Sj],r⟩;rw[Yt]at g⊢;by_cases e:t=p;subst e;simp only[SS.at,Zer];exact⟨v,Rb Z0,x,by simp[eval,YX],D.mono λb z=>GH.ext_F (j.ok.g_F b z)⟩;simp only[SS.at,if_neg e]at g⊢;have l:=(j.set (v:=v) u).agree (t:=YC s (c.ix t) (.v x)) λy F=>by rw[YX,if_neg (f y F)]
 cases n:S.at p with
 |none=>rw[n]at g;cases g
 |some k=>
  have:=l.at_ p (by grind [Yt,Vt]) (by simp_all[Yt]);simp_all[Yt]
 refine absurd ?_ d;rw[Yt];split<;>exact Vt _;by_cases e:t=p;simp_all[SS.at];simp only[SS.at,if_neg e]at d;rw[YX,if_neg (f _ (Qj d))];exact q p d
end
noncomputable def cV:Ctx:= {P:=Sol.prog,ix:=(vf Sol.prog).ix,own:=λ_=>xh,fresh,sig:=C2,tr:=[3],n:=82}
def zU{code:Code}{S:SS}{st:Stm}{fl:Flow}{B:Nat}{G Kf:Z3}{s:St}{a:Act}{w w0:Z4}{T0:Za}{N:St->Prop}{X:Nat->St->Prop}{Rt:St->Prop}(hc:comp (vf Sol.prog) code S=xk (st,fl))(j:RelS Kf [4,23] T0 cV B G w0 82 s a w S)(k:Yq Sol.prog st s N X Rt):
  code.wp Sol.prog (Post Kf [4,23] T0 cV B G w0 82 fl N X Rt) a w:=
 qU (fc:=vf Sol.prog) follows (λp f q g d=>Bq (ZeV _ f) (ZeV _ g) d) rfl rfl rfl (ZdL _) code (Di (λ_=>trivial) code) hc j k
noncomputable def bodyC:Code:=Yn ofC [1,1,1,1,1,1,1,0,1,0,0]
noncomputable def ops9:Array Oper:=Kl (Yn ofC [1,1,1,1,1,1,1,0,1,0,0,0])
def Z8S:bodyC=.seq (.region 9 ops9 xh) (Yn ofC [1,1,1,1,1,1,1,0,1,0,0,1]):=Z2
def Z5Z:Yn ofC [1,1,1,1]=.seq (Yn ofC [1,1,1,1,0]) (.seq (Yn ofC [1,1,1,1,1,0]) (.seq (Yn ofC [1,1,1,1,1,1,0]) (.seq (.seq (Yn ofC [1,1,1,1,1,1,1,0,0]) (.block 0 (.loop bodyC))) (Yn ofC [1,1,1,1,1,1,1,1])))):=Z2
noncomputable def ops8:Array Oper:=Kl (Yn ofC [1,1,1,1,1,1,1,0,0])
def Z5n:Yn ofC [1,1,1,1,1,1,1,0,0]=.region 8 ops8 xh:=Z2
def zF:Value:=.agg #[.int .i64 0,.int .i64 0,.int .i64 0,.bool xh,.int .u64 0,.int .u64 0,.slice xw 0 0]
def Z4g:∃t f d inf o,ops9[0]?=xk o/\o.guard=xw/\o.dst=xk 24/\o.op=.recv t f xy/\f=.tmp 23/\Sol.prog.underlying t=xk (.chan d 87)/\Sol.prog.info? 87=xk inf/\inf.zero=xk zF:=
 ⟨_,_,_,_,_,rfl,rfl,rfl,rfl,rfl,rfl,rfl,rfl⟩
def Z4h:∃o,ops9[1]?=xk o/\o.guard=xw/\o.dst=xk 25/\o.op=.extract (.tmp 24) 1:=⟨_,rfl,rfl,rfl,rfl⟩
def Z4i:ops9.size=2:=rfl
def Bz:SS:=[(1,.mem [.fz,.fz,.fz,.fz,.fz,.fz,.fz,.fz,.fz,.fz]),(2,.mem [.fz,.fz]),(3,.fz),(5,.own 87),(6,.mem [.own 84]),(7,.mem [.own 85])]
structure AtL (B:Nat) (G:Nat->Prop) (wS:World) (c:Nat) (st:Vw) (hc:List V) (s:St) (a:Act) (w:World):Prop where
 rel:∃T0 w0,RelS G [4,23] T0 cV B G w0 82 s a w Bz
 same:Same G wS w
 ch:a.tmps[23]?=xk (.chan (xk c))
 s1:get s 1=.m hc
 s6:get s 6=.v (.sl (st.ns.map X6))
 s7:get s 7=.m [Yd vi st.nm]
 s8:get s 8=.m [Yd vu st.tm]
theorem AtL.put{B:Nat}{G:Z3}{wS:Z4}{c:Nat}{st:Vw}{hc:Zn}{s:St}{a:Act}{w:Z4}(h:AtL B G wS c st hc s a w){v:Ze}{x:V}{b:Bool}(r:Rd wS G x v):
  ∃g d T0 w0,g=(a.put (xk 24) (.tuple #[v,.bool b])).put (xk 25) (.bool b)/\RelS G [4,23] T0 cV B G w0 82 d g w Bx/\g.tmps[23]?=xk (.chan (xk c))/\get d 1=.m hc/\get d 6=.v (.sl (st.ns.map X6))/\get d 7=.m [Yd vi st.nm]/\get d 8=.m [Yd vu st.tm]/\get d 12=.v (.tup [x,.bool b])/\get d 10=.v (.bool b):=by
 obtain⟨T0,w0,p⟩:=h.rel;have j:Rd w G (.tup [x,.bool b]) (.tuple #[v,.bool b]):=by
  refine .tup _ _ rfl λi c f=> ?_
  match i,f with
  |0,f=>cases f;exact r.keep h.same λ_ q=>q
  |1,f=>cases f;exact .bool _
 have o:=p.put (t:=24) rfl ZcM Z0 j;have n:=o.put (t:=25) (v:=.bool b) (x:=.bool b) rfl ZcM Z0 (.bool _);have k:cV.ix 24=12:=ZcM;have l:cV.ix 25=10:=ZcM;rw[k,l]at n;refine⟨_,_,_,_,rfl,n.weak (R:=Bx) Z2,?_,?_,?_,?_,?_,?_,?_⟩;rw[Wu Z0,Wu Z0];exact h.ch;all_goals simp[YX,h.s1,h.s6,h.s7,h.s8]
def Z5G{B:Nat}{G:Z3}{wS:Z4}{c:Nat}{hc:Zn}{k:Zp}{b:Zf}{Post:Z7}(fin:Vw)
  (K:Rd wS G (X6 ⟨⟨0,0,0,xh,0⟩,0,[]⟩) zF)
  (a0:∀s a w T0 w0,RelS G [4,23] T0 cV B G w0 82 s a w By->get s 1=.m hc->get s 6=.v (.sl (fin.ns.map X6))->get s 7=.m [Yd vi fin.nm]->get s 8=.m [Yd vu fin.tm]->LS Sol.prog c Post [] (b.at a k) [] w):
  ∀(p:List (Fo×Value)) (st:Vw),(∀y∈p,Rd wS G (X6 y.1) y.2)->xq st.ns+xq p<=4000000->(p.map (·.1)).foldl Vw.put st=fin->∀s a w,AtL B G wS c st hc s a w->
   LS Sol.prog c Post (p.map (λy=>.recv y.2)++[.closed zF]) (b.at a (.code bodyC:: .inLoop bodyC:: .inBlock 0::k)) [] w:=by
 obtain⟨t,U,d,inf,o,o1,o2,o3,o4,D,o6,o7,o8⟩:=Z4g;obtain⟨o',p1,p2,p3,p4⟩:=Z4h;have ext:∀(a:Act) (w:Z4) (v:Ze) (b:Bool),a.tmps[24]?=xk (.tuple #[v,.bool b])->(execOp a.eval o').run Sol.prog w=.ok (.value (.bool b)) w:=λa w v b h=>by
  have he:a.eval (.tmp 24)=.tuple #[v,.bool b]:=Act.eval_tmp a 24 _ h;unfold execOp;simp only[p4,he];rfl
 have enter:∀ {F:ZcH} {e:Ev} {v:Ze} {fl:Bool} {s:St} {st:Vw} {a:Act} {w:Z4},e.val=.tuple #[v,.bool fl]->((∃v,e=.recv v)\/e=.closed zF)->AtL B G wS c st hc s a w->
   LS Sol.prog c Post F (b.at ((a.put (xk 24) (.tuple #[v,.bool fl])).put (xk 25) (.bool fl)) (.code (Yn ofC [1,1,1,1,1,1,1,0,1,0,0,1]):: .inLoop bodyC:: .inBlock 0::k)) [] w->
   LS Sol.prog c Post (e::F) (b.at a (.code bodyC:: .inLoop bodyC:: .inBlock 0::k)) [] w:=λ{F e v fl s st a w} J I f hk=>by
  obtain⟨T0,w0,C⟩:=f.rel;have a1:a.tmps.size=82:=C.2.2.2.1;rw[show(Item.code bodyC)=.code (.seq (.region 9 ops9 xh) (Yn ofC [1,1,1,1,1,1,1,0,1,0,0,1]))by rfl];refine LS.two (LS.region ?_);rw[Z4i,show List.range 2=[0,1]from rfl];refine LS.event (i:=0) o1 (by simp[Region.wanted,o2]) ?_ ?_;obtain⟨v,rfl⟩|rfl:=I;exact⟨t,U,d,_,inf,zF,o4,by rw[D];rfl,by rw[D];exact Act.eval_tmp a 23 _ f.ch,o6,o7,o8,λz' e=>by cases e⟩;exact⟨t,U,d,_,inf,zF,o4,by rw[D];rfl,by rw[D];exact Act.eval_tmp a 23 _ f.ch,o6,o7,o8,λz' e=>ZcJ⟩;rw[o3,J];refine LS.value (i:=1) p1 (by simp[Region.wanted,p2]) (ext _ w v fl (Rb Z0)) ?_;simp_all[LS.regEnd]
 intro p;induction p with
 |nil=>
  intro st r hn n s a w f;refine enter (v:=zF) (fl:=xh) rfl (.inr rfl) f ?_;obtain⟨a2,s2,T0,w0,rfl,C,A,W,Y,Z,h8,u,q⟩:=f.put (b:=xh) K;refine LS.wp (zU M0 C (Z5p (N:=λ_=>False) (R:=λ_=>False) (X:=λid g=>id=0/\g=s2) q ⟨rfl,rfl⟩)) λe T w' j=> ?_;cases e with
  |normal=>obtain⟨_,_,_,h,_⟩:=j;grind
  |exit id=>
   obtain⟨g,Q,hx,⟨rfl,rfl⟩,l⟩:=j;have H:Q=By:=by simpa using hx
   subst H;refine⟨k,rfl,?_⟩;grind
  |ret=>obtain⟨_,_,_,h,_⟩:=j;grind
  |_=>exact j.elim
 |cons y p ih=>
  intro st r hn n s a w f;simp only[Zf2]at hn;refine enter (v:=y.2) (fl:=xy) rfl (.inl ⟨_,rfl⟩) f ?_;obtain⟨a2,s2,T0,w0,rfl,C,A,W,Y,Z,h8,u,q⟩:=f.put (b:=xy) (r y Z1);refine LS.wp (zU M0 C.base (Z5q (X:=λ_ _=>False) (R:=λ_=>False) (N:=λg=>get g 6=.v (.sl ((st.put y.1).ns.map X6))/\get g 7=.m [Yd vi (st.put y.1).nm]/\get g 8=.m [Yd vu (st.put y.1).tm]/\get g 1=.m hc) Y Z h8 u q Z0 λg M O P L _ _=>⟨M,O,P,L.trans W⟩)) λe T w' j=> ?_;cases e with
  |normal=>
   obtain⟨g,Q,H,⟨M,O,P,L⟩,l⟩:=j;cases H;refine LS.inLoop (ih (st.put y.1) (λz K=>r z (by simp[K])) ?_ n g T w' ⟨⟨_,_,l.weak (R:=Bz) Z2⟩,f.same.trans l.2.2.1.same,?_,L,M,O,P⟩);grind [Vw.put];rw[l.2.2.1.fix 23 Z1];exact A
  |exit id=>obtain⟨_,_,_,h,_⟩:=j;grind
  |ret=>obtain⟨_,_,_,h,_⟩:=j;grind
  |_=>exact j.elim
def CP(b:Zf)(D:World->Nat->Prop)(r:V)(fr:Zf)(cs:Z6)(w:Z4):Prop:=
 cs=[]/\∃(a:Act) (d:Zp),fr= {b.at a d with mode:=.returning}/\a.defers=[]/\∃v,(results Try.f15 a.tmps).run Sol.prog w=.ok v w/\Rd w (D w) r v
def CH{code:Code}{S:SS}{st:Stm}{o:SS}{B:Nat}{G Kf:Z3}{s:St}{a:Act}{w w0:Z4}{T0:Za}{N:St->Prop}{c:Nat}{d:Z7}{es:ZcH}{b:Zf}{k:Zp}(hc:comp (vf Sol.prog) code S=xk (st,⟨xk o,[],[]⟩))(u:RelS Kf [4,23] T0 cV B G w0 82 s a w S)
  (y:Yq Sol.prog st s N (λ_ _=>False) (λ_=>False)) (r:∀l g n,N l->RelS Kf [4,23] T0 cV B G w0 82 l g n o->LS Sol.prog c d es (b.at g k) [] n):LS Sol.prog c d es (b.at a (.code code::k)) [] w:=
 LS.wp (zU hc u y) λe g n f=>by
  cases e with
  |normal=>obtain⟨l,z,q,p,j⟩:=f;cases q;exact r _ _ _ p j
  |exit id=>obtain⟨_,_,_,h,_⟩:=f;grind
  |ret=>obtain⟨_,_,_,h,_⟩:=f;grind
  |_=>exact f.elim
def Z4e:∃o,ops8[0]?=xk o/\o.guard=xw/\o.dst=xk 23/\o.op=.move (.tmp 4):=⟨_,rfl,rfl,rfl,rfl⟩
def Z4f:ops8.size=1:=rfl
def Z43{B:Nat}{G:Z3}{c:Nat}{b:Zf}{s:St}{a:Act}{w w0:Z4}{T0:Za}{T U W y sc Y Z x7 x8:V}{d:Z8}{fs:List (Fo×Value)}{fin:Vw}(L:RelS G [4,23] T0 cV B G w0 82 s a w KH)(J:a.tmps[4]?=xk (.chan (xk c)))(F:get s 1=.m [T,U,W,y,sc,Y,Z,x7,x8,.sl (d.map vu)])
  (K:∀y∈fs,Rd w G (X6 y.1) y.2) (hn:xq fs<=4000000) (u:(fs.map (·.1)).foldl Vw.put ⟨[],[],[]⟩=fin) (hs:fin.sm d):
  LS Sol.prog c (CP b (λw' x=>G x\/(B<=x/\x<xz (xj w'))) (WU (fin.gr d))) (fs.map (λy=>.recv y.2)++[.closed zF]) (b.at a [.code (Yn ofC [1,1,1,1])]) [] w:=by
 rw[Z5Z];refine LS.two (CH r5c L.base (N:=λj=>get j 6=.v (.sl [])/\get j 1=get s 1) (by simp[r5,YX]) λs1 a1 w1 ⟨q6,q1⟩ l=> ?_);refine LS.two (CH r6c l.base (N:=λj=>get j 7=.m [Yd vi []]/\get j 6=.v (.sl [])/\get j 1=get s 1) (by simp[r6,YX,q6,q1];rfl) λs2 a2 w2 ⟨t7,t6,t1⟩ n=> ?_);refine LS.two (CH r7c n.base (N:=λj=>get j 8=.m [Yd vu []]/\get j 7=.m [Yd vi []]/\get j 6=.v (.sl [])/\get j 1=get s 1) (by simp[r7,YX,t7,t6,t1];rfl) λs3 C w3 ⟨u8,u7,u6,u1⟩ k=> ?_);have q:C.tmps[4]?=xk (.chan (xk c)):=by
  rw[k.2.2.1.fix 4 Z1,n.2.2.1.fix 4 Z1,l.2.2.1.fix 4 Z1];exact J
 have p:Same G w w3:=(l.2.2.1.same.trans n.2.2.1.same).trans k.2.2.1.same;refine LS.two (LS.two ?_);rw[Z5n];refine LS.region ?_;rw[Z4f,show List.range 1=[0]from rfl];obtain⟨o,o1,o2,o3,o4⟩:=Z4e;have a0:C.eval (.tmp 4)=.chan (xk c):=Act.eval_tmp C 4 _ q;refine LS.value (v:=.chan (xk c)) (w':=w3) o1 (by simp[Region.wanted,o2]) (by simp_all[execOp]) (LS.regEnd ?_);rw[o3];have O:=k.set (t:=23) (v:=.chan (xk c)) rfl;have a4:C.tmps.size=82:=k.2.2.2.1;refine LS.block (LS.steps (.one step_loop) ?_);refine Z5G (hc:=[T,U,W,y,sc,Y,Z,x7,x8,.sl (d.map vu)]) fin (wS:=w) (B:=B) (G:=G) ?_ ?_ fs ⟨[],[],[]⟩ K ZcJ u s3 _ w3 ⟨⟨_,_,O.weak (R:=Bz) Z2⟩,p,Rb Z0,u1.trans F,u6,u7,u8⟩;refine .agg _ _ rfl Z1 λi x g=> ?_
 match i,g with
 |0,g=>cases g;exact .int _ _
 |1,g=>cases g;exact .int _ _
 |2,g=>cases g;exact .int _ _
 |3,g=>cases g;exact .bool _
 |4,g=>cases g;exact .int _ _
 |5,g=>cases g;exact .int _ _
 |6,g=>cases g;exact .nil _ _ (ZeQ _)
 intro s5 a5 w5 T5 a6 P v1 v6 v7 v8;refine LS.wp (zU rCc ((P.weak (R:=IZ) Z2).base) (Z5o (N:=λ_=>False) (X:=λ_ _=>False) (R:=λj=>W9 j [(2,.ag 2),(3,.v)]=xk (WU (fin.gr d))) hs v1 v6 v7 v8 λj h=>h)) λe a' w' H=> ?_;cases e with
 |normal=>obtain⟨_,_,_,h,_⟩:=H;grind
 |exit id=>obtain⟨_,_,_,h,_⟩:=H;grind
 |ret=>
  obtain⟨j,S',I,hR,M⟩:=H;have I:S'=Bw:=by simpa using I
  subst I;obtain⟨⟨h,k1,k2⟩,k3,k4,k5,k6⟩:=M;intro A
  obtain⟨v,hv,Q⟩:=KP (c:=cV) (f:=Try.f15) (D:=λx=>G x\/(B<=x/\x<xz (xj w'))) k1 k3 (λx z=>by
   obtain F|F:=k1.ok.f_or x z;grind;exact .inr ⟨F,k1.ok.f_lt x z⟩) (λr L=>⟨ZdR.1 (Z2:(Try.f15.results.toList.all (SI Sol.prog Bw))=xy) r L,λi x z=>.inr ⟨(k1.ok.b_lt _ _ x z).1,(k1.ok.b_lt _ _ x z).2.1⟩⟩) (x:=WU (fin.gr d)) (by rw[<-hR];rfl)
  exact LS.now ⟨rfl,a',A,rfl,k6,v,hv,Q⟩
 |_=>exact H.elim
end
section
def Z0m:∃o d,clOps[1]?=xk o/\o.guard=xw/\o.dst=xw/\o.op=.call ⟨.builtin .close, #[.tmp 70],d⟩:=⟨_,_,rfl,rfl,rfl,rfl⟩
section
variable {b:Zf}{a:Act}{c:Nat}{w:Z4}
def Z0o{cs:Z6}(t:b.fn=42)(x:b.kind≠.early)(q:a.tmps[70]?=xk (.chan (xk c))){s r:Nat}{f:Bool}(hc:w.heap[c]?=xk (.chan 0 #[] xh s r f)):
  stepG Try.prog xh (G (b.at a [.inRegion clOps [1]]) cs) w=.go (G (b.at a [.inRegion clOps []]) cs) (Wv w c (.chan 0 #[] xy s r f)) #[⟨.obj c,xh,xy⟩,⟨.obj c,xy,xy⟩]:=by
 obtain⟨o,d,l,g,n,p⟩:=Z0m;have h:a.eval (.tmp 70)=.chan (xk c):=Act.eval_tmp a 70 _ q;have j:execOp a.eval o=(do pure (.value (<-Builtin.close_ d o.type #[.chan (xk c)])):Sem Next):=by
  unfold execOp;simp only[p];simp[resolve,builtin,h];rfl
 have y:(execOp a.eval o).run Try.prog w=.ok (.value (.tuple #[])) (Wv w c (.chan 0 #[] xy s r f)):=by
  rw[j];simp only[Zel,run_close_open d o.type hc,Zem];rfl
 have u:(execOp a.eval o).events Try.prog w #[]=#[⟨.obj c,xh,xy⟩,⟨.obj c,xy,xy⟩]:=by
  rw[j];have g:(Builtin.close_ d o.type #[.chan (xk c)]).runT Try.prog w #[]=(.ok (.tuple #[]) (Wv w c (.chan 0 #[] xy s r f)), #[⟨.obj c,xh,xy⟩,⟨.obj c,xy,xy⟩]):=by
   refine Zg9 ?_ (events_close_open d o.type hc);rw[ZfP];exact run_close_open d o.type hc
  show((Sem.bind _ _).runT Try.prog w #[]).2=_;rw[ZfT,g];rfl
 rw[stepG_value l (by simp[Region.wanted,g]) x y];have k:a.put o.dst (.tuple #[])=a:=by rw[n];rfl
 rw[k];unfold listed;rw[u,seen_eq (by rw[t,Try.func42];rfl) Z1]
noncomputable def bornF:Frame:= {(default:Zf)with fn:=Try.prog.funcs.size,defers:=[],mode:=.panicking [goexitEntry]}
def Z6J(d:b= {base 42 with kind:=.deferred})(f:a.defers=[]):QuitsIn Try.prog 4 (G (b.at a [.inRegion clOps []]) [bornF]):=by
 subst d;refine .ctl (g':=G (({base 42 with kind:=.deferred}:Frame).at a []) [bornF]) rfl (λw=>Zdz) ?_;refine .ctl (g':=G {(({base 42 with kind:=.deferred}:Frame).at a [])with mode:=.returning} [bornF]) rfl (λw=>Zdz) ?_;refine .ctl (g':=G bornF []) rfl (λw=> ?_) ?_;have g:=Try.func42;simp[G,stepG,unwind,Frame.at,f,base,g,results,Try.results42,doReturn,bornF,goexitEntry];rfl;refine .ctl (g':= {(G bornF [])with status:=.finished}) rfl (λw=> ?_) rfl;rfl
end
def zO(l:Z8):NoM (.sl (l.map vu)):=.sl _ λc d=>by
 have:flat (l.map vu)=l.map vu:=VS λx f=>by obtain⟨y,_,rfl⟩:=ZdX.1 f;rfl
 rw[this]at d;obtain⟨y,_,rfl⟩:=ZdX.1 d;exact .int _ _
def Z0R{n:Nat}{v:Ze}(h:FixV n v)(g m:Nat):FixV n (SX v g m):=by
 intro ρ f;have d:=h ρ f;unfold SX;split;rename_i b o q k c;simp only[Zt,Ze4,ZR,Value.slice.injEq,ZdF,Addr.mk.injEq,and_true]at d;grind [Zt,ZR];exact d
def EL{n:Nat}{h:Hp}{x:Z9}{p:Nat}(hx:FixV n (x p))(o:Ob):FixV n (Ua h x p o):=by
 intro ρ d;have:=Z0R hx (o.at_+1).toNat o.size.toNat ρ d;simp_all[Ua,Wq,XP,U0]
def jr{h:Hp}{x:Z9}{v:Ze}:∀ {n p:Nat},v∈Wg h x n p->∃q o,q<p+n/\v=Ua h x q o
 |0,p,d=>by simp[Wg]at d
 |n+1,p,d=>by
  simp only[Wg,Ze8,ZdX]at d;obtain⟨o,_,rfl⟩|d:=d;exact⟨p,o,Z0,rfl⟩;obtain⟨q,o,g,f⟩:=jr d;exact⟨q,o,Z0,f⟩
def bD:Frame:= {base 42 with kind:=.deferred}
def qY(args:Za):Frame.enter Try.prog 42 args .deferred=bD.at {tmps:=args++Array.replicate (71-args.size) undef,defers:=[]} [.code seC]:=by
 rfl
def MC:YT Sol.prog xh seC=xy:=Z2
def Pg:Sol.prog.funcs[Try.prog.funcs.size]?=xw:=by
 grind [Array.getElem?_eq_none,Sol.prog,WI]
def Z0l{c n0:Nat}{h:Hp}{x:Z9}{K:Z3}{w:Z4}(hh:h.ok)(Z:xz (xj w)<=n0)(hc:c<n0)(hK:∀b,K b->∃cs e fr,w.heap[b]?=xk (.cells cs e fr))(N:∀b o,w.heap[b]?=xk o->K b->Jo n0 o)
  (hx:∀j,j<5->FixV n0 (x j)) (hr:∀j,j<5->Rd w K (.sl ((Zv h j).map vu)) (x j))
  (a0:∀p,p<4->P (obP h p)<=1000000/\∀o∈obP h p,0<=o.at_/\0<=o.size/\o.at_+1+o.size<=P (Zv h p)):
  Play Try.prog xh c K (Uo Try.prog c) ((Wg h x 4 0).map .send) (λ_=>False) (born Try.prog {target:=.fn (.func 42) #[],args:=#[ZO h x,.chan (xk c)]}) w:=by
 have a4:∀b,K b->b<xz (xj w):=λb l=>ZcJ;have C:∀w1:Z4,stepG Try.prog xh (born Try.prog {target:=.fn (.func 42) #[],args:=#[ZO h x,.chan (xk c)]}) w1=.go (G (Frame.enter Try.prog 42 #[ZO h x,.chan (xk c)] .deferred) [bornF]) w1 #[]:=λw1=>by
  rfl
 refine .step (λw1 H=>⟨_,_,_,_,C w1,ZdL _,ZdL _,rfl,rfl,λ_ _ _=>rfl,λe T=>by simp at T⟩) λw1 g' w' a2 H e=> ?_;have e:=(C w1).symm.trans e;injection e with J L e3;subst J L;have B:(WW (λ_=>False) w1 w1:Z3)=λ_=>False:=funext λb=>propext ⟨λl=>by obtain l|l:=l;exact l;omega,λl=>l.elim⟩;rw[B];refine Play.rely ?_ H;let X:Cx:=Tw Try.prog Sol.prog n0 K (λ_=>False);have Q:X.P=Try.prog:=Sol.sub.P n0 K (λ_=>False);have n:∀v∈ #[ZO h x,.chan (xk c)],FixV n0 v:=λv hv=>by
  have:v=ZO h x\/v=.chan (xk c):=by simpa using hv
  obtain rfl|rfl:=this;intro ρ k;unfold ZO;rw[Wq];simp[XP,U0,hx 0 Z0 ρ k,hx 1 Z0 ρ k,hx 2 Z0 ρ k,hx 3 Z0 ρ k,hx 4 Z0 ρ k];intro ρ k;simp[Zt,k c hc]
 have z:∀ρ,Zw ρ bornF=bornF:=λρ=>by
  simp[Zw,bornF,W1,SQ,goexitEntry,S3];exact⟨by show Array.map (Zt ρ) #[]=#[];simp,rfl,rfl⟩
 have hw:=CE X (Sol.sub.ok n0 K (λ_=>False)) (c:=c) (es:=(Wg h x 4 0).map .send) (fr:=Frame.enter Try.prog 42 #[ZO h x,.chan (xk c)] .deferred) (cs:=[bornF]) (ds:=[]) (main:=xh) (wc:=w)
  (λe T=>by
   obtain⟨v,hv,rfl⟩:=ZdX.1 T;obtain⟨q,o,hq,rfl⟩:=jr hv;exact⟨EL (hx q Z0) o,hc⟩)
  (λρ=>by
   rw[qY];refine⟨⟨λi Y=> ?_,λd A=>by simp[Frame.at]at A,.inr rfl,.inl ⟨_,seC,Sol.func42,Try.func42,MA,MC⟩⟩,λf U=> ?_,rfl⟩;have:i=.code seC:=by simpa[Frame.at]using Y
   subst this;exact MC;have:f=bornF:=by simpa using U
   subst this;exact⟨λi Y=>(by cases Y),λd A=>(by cases A),.inl rfl,.inr (.inl ⟨Pg,Zg6 (ZdL _)⟩)⟩)
  (λf U=>by
   have:f=Frame.enter Try.prog 42 #[ZO h x,.chan (xk c)] .deferred\/f=bornF:=by simpa using U
   obtain rfl|rfl:=this;rw[qY];intro ρ k;have J:(#[ZO h x,.chan (xk c)]++Array.replicate (71- (#[ZO h x,.chan (xk c)]:Array Value).size) undef).map (Zt ρ)=#[ZO h x,.chan (xk c)]++Array.replicate (71- (#[ZO h x,.chan (xk c)]:Array Value).size) undef:=by
    rw[ZfL,Sv n ρ k];simp[S3]
   simp_all[Zw,Frame.at,YE,W1,bD,base];exactλρ _=>z ρ)
  (λb o ho y=>by
   obtain y|y:=y;exact y.elim;exact N b o ho y)
  (Post:=λwl=>CO c bD [bornF])
  (λt=>by
   rw[qY]
   exact Z6I bD [bornF] (X.mask w t) h hh x c K (λb l=>by grind [Cx.mask,Tw,Nat.lt_of_lt_of_le])
    (λj hj=>M5 (X:=X) (λb h=>h) (λb c e fr B hc=>B) Z (hr j hj) (zO _)) a0)
 have hw:Play Try.prog xh c K _ ((Wg h x 4 0).map .send) (λ_=>False) (G (Frame.enter Try.prog 42 #[ZO h x,.chan (xk c)] .deferred) ([bornF]++[])) w:=Q▸hw;refine hw.mono λO g w' ⟨ρ,t,a3,a1,a5,fc,cc,B,hid,⟨S,a,W,M,A⟩,I⟩=> ?_;subst B S W;have D:fc=Zw ρ (bD.at a [.inRegion clOps [1]]):=I.top;have F:cc=[bornF].map (Zw ρ)++[]:=I.under;have J:fc=bD.at {tmps:=a.tmps.map (Zt ρ),defers:=[]} [.inRegion clOps [1]]:=by
  rw[D];simp[Zw,Frame.at,A,W1,YE,bD,base]
 have L:cc=[bornF]:=by rw[F];simp[z]
 rw[J,L];have u:(a.tmps.map (Zt ρ))[70]?=xk (.chan (xk c)):=by
  rw[Zeg,M];simp[Zt,hid c hc]
 refine⟨rfl,?_,_,4,λs r tm R=>Z0o rfl (by simp[bD]) u R,Z6J rfl rfl⟩;rfl
end
inductive NoZ:V->Prop where
 |int (k:Zs) (n:Int):NoZ (.int k n)
 |bool (b:Bool):NoZ (.bool b)
 |sl (l:Zn):(∀y∈l,y.cells≠[])->(∀c∈flat l,NoZ c)->NoZ (.sl l)
 |agg (l:Zn):(∀c∈l,NoZ c)->NoZ (.agg l)
 |tup (l:Zn):(∀c∈l,NoZ c)->NoZ (.tup l)
def NoZ.m{x:V}(h:NoZ x):NoM x:=by
 induction h with
 |int k n=>exact .int k n
 |bool b=>exact .bool b
 |sl l _ _ a=>exact .sl l a
 |agg l _ a=>exact .agg l a
 |tup l _ a=>exact .tup l a
def Z5x{w:Z4}{D:Z3}{x:V}{v:Ze}(h:Rd w D x v)(d:NoZ x):Rd w (λb=>D b/\b<U (R w)) x v:=by
 induction h with
 |int k n=>exact .int k n
 |bool b=>exact .bool b
 |nil a cap A=>exact .nil a cap A
 |sl l b o cap k vs g p z r t C j=>
  cases d with
  |sl _ B d=>
   obtain _|⟨y,l⟩:=l;exact .nil _ cap p;have F:0<k:=by
    rw[<-(r y Z1).1];exact Zgq.2 (B y Z1)
   have q:=qQ (t 0 ZcK);exact .sl _ b o cap k vs g p ⟨z,q⟩ r t λi c f=>j i c f (d c (jl f))
 |agg u vs g p _ j=>
  cases d with
  |agg _ d=>exact .agg u vs g p λi c f=>j i c f (d c (ZdO f))
 |tup l vs g _ j=>
  cases d with
  |tup _ d=>exact .tup l vs g λi c f=>j i c f (d c (ZdO f))
 |_=>cases d
def Z5A{w:Z4}{D:Z3}{x:V}{v:Ze}(h:Rd w D x v)(d:NoZ x):Rd w (λb=>D b/\∃q e r,w.heap[b]?=xk (.cells q e r)) x v:=by
 induction h with
 |int k n=>exact .int k n
 |bool b=>exact .bool b
 |nil a cap B=>exact .nil a cap B
 |sl l b o cap k vs g p z t u F j=>
  cases d with
  |sl _ C d=>
   obtain _|⟨y,l⟩:=l;exact .nil _ cap p;have G:0<k:=by
    rw[<-(t y Z1).1];exact Zgq.2 (C y Z1)
   obtain⟨_,c,e,r,A,_⟩:=JB (u 0 ZcK);exact .sl _ b o cap k vs g p ⟨z,c,e,r,A⟩ t u λi c f=>j i c f (d c (jl f))
 |agg q vs g p _ j=>
  cases d with
  |agg _ d=>exact .agg q vs g p λi c f=>j i c f (d c (ZdO f))
 |tup l vs g _ j=>
  cases d with
  |tup _ d=>exact .tup l vs g λi c f=>j i c f (d c (ZdO f))
 |_=>cases d
def GZ(l:Z8):NoZ (.sl (l.map vu)):=.sl _ (λy f=>by obtain⟨z,_,rfl⟩:=ZdX.1 f;simp) λc a=>by
 rw[VS λx d=>Zdt]at a;obtain⟨y,_,rfl⟩:=ZdX.1 a;exact .int _ _
def GY(l:Z8):NoZ (.sl (l.map vi)):=.sl _ (λy f=>by obtain⟨z,_,rfl⟩:=ZdX.1 f;simp) λc a=>by
 rw[VS λx d=>Zdt]at a;obtain⟨y,_,rfl⟩:=ZdX.1 a;exact .int _ _
def GX(g:Gr):NoZ (Yj g):=.agg _ λc a=>by
 have:c=.sl (g.nodes.map Ye)\/c=.sl (g.roots.map vi):=by simpa using a
 obtain rfl|rfl:=this;refine .sl _ (λy d=>by obtain⟨z,_,rfl⟩:=ZdX.1 d;simp) λc a=> ?_;obtain⟨y,d,a⟩:=ZfN.1 a;obtain⟨n,_,rfl⟩:=ZdX.1 d;have:c=.sl (n.ptrs.map vi)\/c=.sl (n.data.map vu):=by simpa using a
 obtain rfl|rfl:=this;exact GY _;exact GZ _;exact GY _
def GW(g:Gr):NoZ (WU g):=by
 unfold WU;split;all_goals
  refine .tup _ λc a=> ?_;simp only[Ze3,Zfj,ZgN]at a;obtain rfl|rfl:=a;exact GX _;exact .int _ _
def RM(h:Hp):NoM (ZJ h):=.agg _ λc a=>by
 simp only[Ze3,Zfj,ZgN]at a;obtain rfl|rfl|rfl|rfl|rfl|rfl|rfl|rfl|rfl|rfl:=a;all_goals first|exact .int _ _|exact .bool _|exact zO _
noncomputable def ops4:Array Oper:=Kl (Yn ofC [1,1,1,0])
def Z4d:(ops4.all λo=>XQ Sol.prog xh o.op)=xy:=Z2
def Z60:YT Sol.prog xh (Yn ofC [1,1,1,1])=xy:=Z2
def Z42:Sol.prog.funcs[15]?=xk (M8 Try.f15):=by
 have:=Try.func15;simp only[Sol.prog,WI,ZgP,this,Ze4];rfl
def Gz{X:Cx}{w:Z4}{t:Nat->Question->Nat}{b:Nat}{cs:Za}{T:Zg}(h:w.heap[b]?=xk (.cells cs T (0,0)))(a:X.O b)(d:b<X.n0):(X.mask w t).heap[b]?=xk (.cells cs T (0,0)):=by
 rw[Ac,if_pos d,h];unfold Cx.maskO;dsimp only;rw[if_pos a,if_pos ⟨trivial,λc e g f=>ZcJ⟩]
def Z5W{B g k:Nat}{a:Act}{A C:Zg}{K:Z3}{h:Hp}{x:Z9}{l:Z4}
  (z:a.tmps.size=82) (O:a.defers=[]) (R:a.tmps[1]?=xk (.pointer (xk ⟨g,0,xw⟩))) (S:a.tmps[2]?=xk (.pointer (xk ⟨k,0,xw⟩))) (T:a.tmps[3]?=xk (.int .i64 0))
  (n:l.heap[g]?=xk (.cells #[.int .u64 h.base,.int .i64 h.cap,.int .i64 h.to,.bool h.cycle,.int .i64 h.scan,x 0,x 1,x 2,x 3,x 4] A (0,0))) (o:l.heap[k]?=xk (.cells #[.slice xw 0 0,.slice xw 0 0] C (0,0)))
  (L:B<=g) (M:B<=k) (J:g≠k) (k1:¬K g) (Z:¬K k) (D:∀b,K b->b<xz (xj l)) (r:∀j,j<5->Rd l K (.sl ((Zv h j).map vu)) (x j)):
  RelS K [4,23] a.tmps cV B K l 82 [.no,.m [vu h.base,vi h.cap,vi h.to,.bool h.cycle,vi h.scan,.sl (h.low.map vu),.sl (h.high.map vu),.sl (h.old.map vu),.sl (h.far.map vu),.sl (h.roots.map vu)],.m [.sl [],.sl []],.v (vi 0)] a l KH:=by
 have l1:=(ZdM.1 n).1;have l2:=(ZdM.1 o).1;have W:cV.ix 1=1:=ZcM;have X:cV.ix 2=2:=ZcM;have Y:cV.ix 3=3:=ZcM;refine⟨⟨{F:=K,bl:=λt i=>if t=1/\i=0 then xk g else if t=2/\i=0 then xk k else xw,K:=K},⟨⟨Z0,D,λb f=>.inl f,λb f=>f,λt i b f=> ?_,λt i u j b f N=> ?_,D,λt i b f=> ?_,λb f=>.inl f⟩,λt _ Q=> ?_,λt P=> ?_⟩,rfl⟩,λp U=> ?_,.refl _ _,z,O⟩;grind;grind;grind;rw[Yt]at Q⊢;by_cases G:t=1;subst G;refine⟨_,R,g,_,A,rfl,rfl,n,rfl,λi y d=> ?_⟩;have q:i<10:=(ZdH.1 d).1
 match i,q with
 |0,_=>cases d;exact⟨_,Zdz,rfl,.int _ _⟩
 |1,_=>cases d;exact⟨_,Zdz,rfl,.int _ _⟩
 |2,_=>cases d;exact⟨_,Zdz,rfl,.int _ _⟩
 |3,_=>cases d;exact⟨_,Zdz,rfl,.bool _⟩
 |4,_=>cases d;exact⟨_,Zdz,rfl,.int _ _⟩
 |5,_=>cases d;exact⟨_,Zdz,rfl,r 0 Z0⟩
 |6,_=>cases d;exact⟨_,Zdz,rfl,r 1 Z0⟩
 |7,_=>cases d;exact⟨_,Zdz,rfl,r 2 Z0⟩
 |8,_=>cases d;exact⟨_,Zdz,rfl,r 3 Z0⟩
 |9,_=>cases d;exact⟨_,Zdz,rfl,r 4 Z0⟩
 |i+10,h=>omega
 by_cases H:t=2;subst H;refine⟨_,S,k,_,C,rfl,rfl,o,rfl,λi y d=> ?_⟩;have w:i<2:=(ZdH.1 d).1
 match i,w with
 |0,_=>cases d;exact⟨_,Zdz,rfl,.nil _ _ (ZeQ _)⟩
 |1,_=>cases d;exact⟨_,Zdz,rfl,.nil _ _ (ZeQ _)⟩
 |i+2,h=>omega
 by_cases I:t=3;subst I;exact⟨_,T,_,Zdz,.int _ _⟩;simp_all[KH,SS.at,ZfK,TK.isNo];refine absurd ?_ P;rw[Yt];split<;>exact Vt _;grind [KH,SS.at]
def O7(cs:Z6)(r:V)(D:Z3)(g:Zi)(w:Z4):Prop:=
 ∃a,g=G a cs/\a.fn=15/\a.mode=.returning/\a.defers=[]/\a.kind=.normal/\∀d,∃v,(results Try.f15 a.tmps).run Try.prog (w.at d)=.ok v (w.at d)/\Rd (w.at d) (λb=>D b/\b<U (R w)) r v
def Z37{c n0 B C D:Nat}{a:Act}{T1 T2:Zg}{K:Z3}{h:Hp}{x:Z9}{w:Z4}{cs:Z6}{fs:List (Fo×Value)}{fin:Vw}(hh:h.ok)
  (d7:a.tmps.size=82) (hd:a.defers=[]) (t1:a.tmps[1]?=xk (.pointer (xk ⟨C,0,xw⟩))) (t2:a.tmps[2]?=xk (.pointer (xk ⟨D,0,xw⟩))) (t3:a.tmps[3]?=xk (.int .i64 0)) (t4:a.tmps[4]?=xk (.chan (xk c)))
  (N:w.heap[C]?=xk (.cells #[.int .u64 h.base,.int .i64 h.cap,.int .i64 h.to,.bool h.cycle,.int .i64 h.scan,x 0,x 1,x 2,x 3,x 4] T1 (0,0))) (R:w.heap[D]?=xk (.cells #[.slice xw 0 0,.slice xw 0 0] T2 (0,0)))
  (e3:B<=xz (xj w)) (c1:B<=C) (c5:B<=D) (b9:C≠D) (k1:¬K C) (k2:¬K D) (b0:xz (xj w)<=n0) (hc:c<n0)
  (hK:∀b,K b->∃cs e fr,w.heap[b]?=xk (.cells cs e fr)) (a0:∀(b:Nat) (cs:Za) (e:Zg) (fr:Nat×Nat),w.heap[b]?=xk (Obj.cells cs e fr)->Jo n0 (Obj.cells cs e fr)) (d0:∀v∈a.tmps,FixV n0 v) (hx:∀j,j<5->FixV n0 (x j))
  (hr:∀j,j<5->Rd w K (.sl ((Zv h j).map vu)) (x j)) (a3:∀y∈fs,Rd w K (X6 y.1) y.2/\NoM (X6 y.1)) (c9:fs.map (·.2)=Wg h x 4 0) (hn:P fs<=4000000) (a9:(fs.map (·.1)).foldl Vw.put ⟨[],[],[]⟩=fin) (hs:fin.sm h.roots):
  Play Try.prog xy c K (λ_=>O7 cs (WU (fin.gr h.roots)) (λb=>K b\/B<=b)) ((Wg h x 4 0).map .recv++[.closed zF]) (λb=>b=C\/b=D) (G ((base 15).at a [.inRegion ops4 [],.code (Yn ofC [1,1,1,1])]) cs) w:=by
 have e4:∀b,K b->b<xz (xj w):=λb H=>ZcJ;have l1:=(ZdM.1 N).1;have l2:=(ZdM.1 R).1;let X:Cx:=Tw Try.prog Sol.prog n0 K (λb=>b=C\/b=D);have M:∀ρ,(X.at ρ).P=Try.prog:=λρ=>Sol.sub.same.symm;have e6:∀t,xz (xj (X.mask w t))=n0:=λt=>by simp[Cx.mask,X,Tw]
 have c8:(Wg h x 4 0).map Ev.recv=fs.map λy=>.recv y.2:=by rw[<-c9,Zge];rfl
 have a6:∀b,(b=C\/b=D)->¬K b:=λb H=>ZcJ
 have hw:=CE X (Sol.sub.ok n0 K (λb=>b=C\/b=D)) (c:=c) (es:=(Wg h x 4 0).map .recv++[.closed zF]) (fr:=(base 15).at a [.inRegion ops4 [],.code (Yn ofC [1,1,1,1])]) (cs:=[]) (ds:=cs) (main:=xy) (wc:=w)
  (λe I=>by
   obtain I|I:=Ze8.1 I;obtain⟨v,hv,rfl⟩:=ZdX.1 I;obtain⟨q,o,hq,rfl⟩:=jr hv;exact⟨EL (hx q Z0) o,hc⟩;have:e=.closed zF:=by simpa using I
   subst this;exact⟨λρ _=>by simp_all[zF,Wq,Zt],hc⟩)
  (λρ=>by
   refine⟨⟨λi p=> ?_,λd a2=> ?_,.inl rfl,.inr (.inr ⟨_,_,Z42,Try.func15,rfl⟩)⟩,λf hf=>by simp at hf,rfl⟩;have:i=.inRegion ops4 []\/i=.code (Yn ofC [1,1,1,1]):=by simpa[Frame.at]using p
   obtain rfl|rfl:=this;exact Z4d;exact Z60;rw[show((base 15).at a [.inRegion ops4 [],.code (Yn ofC [1,1,1,1])]).defers=a.defers from rfl,hd]at a2;simp at a2)
  (λf hf=>by
   have:f=(base 15).at a [.inRegion ops4 [],.code (Yn ofC [1,1,1,1])]:=by simpa using hf
   subst this;intro ρ hρ;simp only[Zw,Frame.at,Sv d0 ρ hρ,hd];rfl)
  (λb o J hO=>by
   obtain hO|hO:=hO;obtain rfl|rfl:=hO;rw[N]at J;cases J;exact a0 _ _ _ _ N;rw[R]at J;cases J;exact a0 _ _ _ _ R;obtain⟨cs,e,fr,I⟩:=hK b hO;rw[J]at I;cases I;exact a0 _ _ _ _ J)
  (Post:=λwl=>CP (base 15) (λA b=>K b\/(B<=b/\b<xz (xj A))) (WU (fin.gr h.roots)))
  (λt=>by
   rw[c8];have b3:∀ {y:V} {v:Ze},Rd w K y v->NoM y->Rd (X.mask w t) K y v:=λ{y v} h1 h2=>by
    clear a3;induction h1 with
    |int k n=>exact .int k n
    |bool b=>exact .bool b
    |str s=>exact .str s
    |nil a cap h=>exact .nil a cap h
    |sl l b o cap k vs W q2 H hf a1 _ U=>
     cases h2 with
     |sl _ S=>exact .sl l b o cap k vs W q2 H hf (λi p=>zC (λJ=>a6 b J H) (λc e fr _=>H) b0 (a1 i p)) λi c p=>U i c p (S c (jl p))
    |agg cs vs W q2 _ U=>
     cases h2 with
     |agg _ S=>exact .agg cs vs W q2 λi c p=>U i c p (S c (ZdO p))
    |tup l vs W _ U=>
     cases h2 with
     |tup _ S=>exact .tup l vs W λi c p=>U i c p (S c (ZdO p))
    |ptr cs b o vs H W a1 _ U=>
     cases h2 with
     |ptr _ S=>exact .ptr cs b o vs H W (λi p=>zC (λJ=>a6 b J H) (λc e fr _=>H) b0 (a1 i p)) λi c p=>U i c p (S c (ZdO p))
    |fn f=>exact .fn f
    |clo f cs vs W _ U=>
     cases h2 with
     |clo _ _ S=>exact .clo f cs vs W λi c p=>U i c p (S c (ZdO p))
    |nul0=>exact .nul0
    |nul1=>exact .nul1
    |nomp=>cases h2
    |mp=>cases h2
   refine LS.regEnd (Z43 (G:=K) (B:=B) (Z5W d7 hd t1 t2 t3 (Gz N (.inl rfl) (by show C<n0;omega)) (Gz R (.inr rfl) (by show D<n0;omega)) c1 c5 b9 k1 k2 (λb H=>ZcJ) λj hj=>b3 (hr j hj) (zO _)) t4 rfl (λy hy=>b3 (a3 y hy).1 (a3 y hy).2) hn a9 hs))
 have hw:Play Try.prog xy c K _ ((Wg h x 4 0).map .recv++[.closed zF]) (λb=>b=C\/b=D) (G ((base 15).at a [.inRegion ops4 [],.code (Yn ofC [1,1,1,1])]) ([]++cs)) w:=(M id)▸hw;refine hw.mono λO g A ⟨ρ,t,e2,e0,Y,fc,cc,hg,hid,⟨c7,L,b7,d5,a2,v,hv,d8⟩,T⟩=> ?_;subst hg c7 d5;have u:fc=Zw ρ {(base 15).at L b7 with mode:=.returning}:=T.top;have b4:cc=cs:=T.under;subst b4;refine⟨fc,rfl,by rw[u];rfl,by rw[u];rfl,by rw[u];show L.defers.map _=_;grind,by rw[u];rfl,λd=> ?_⟩;have b5:(X.at ρ).WR Y (A.at d):=Da T.wr d;have a4:=Gn Try.f15 (L.tmps.map (Zt ρ));have a5:Y9 ((results Try.f15 (L.tmps.map (Zt ρ))).run Try.prog (A.at d))=A.at d:=a4.world _
 have F:=(jK (X:=X.at ρ) (V:=[]) Try.f15 L.tmps).run Y (A.at d) #[] b5 (λr hr=>by simp at hr)
  (λj hj=>by
   rw[M ρ]at hj;have e:(Y9 ((results Try.f15 (L.tmps.map (Zt (X.at ρ).ρ))).run Try.prog (A.at d))).drawn=(A.at d).drawn:=ZeX World.drawn a5;omega)
  (λj hj=>by
   rw[M ρ]at hj;have e:xz (xj (Y9 ((results Try.f15 (L.tmps.map (Zt (X.at ρ).ρ))).run Try.prog (A.at d))))=xz (xj (A.at d)):=ZeX (λw=>xz (xj w)) a5;omega)
 have c0:(results Try.f15 L.tmps).run (X.at ρ).Q Y=.ok v Y:=hv;rw[c0,M ρ]at F;obtain⟨b,b8,e1,I,c6,e5⟩:=F;have Z:(results Try.f15 (L.tmps.map (Zt ρ))).run Try.prog (A.at d)=.ok b b8:=by
  have:=ZeX Prod.fst I;rw[ZfP]at this;exact this
 have d9:b8=A.at d:=by
  have:=a5;rw[Z]at this;exact this
 subst d9;have a7:b=Zt ρ v:=c6;refine⟨b,by rw[u];exact Z,?_⟩;rw[a7];refine(Z5x (M4 b5 d8 (GW _).m) (GW _)).mono λb' a8=> ?_;obtain⟨⟨z,hz,rfl⟩,d6⟩:=a8;refine⟨?_,d6⟩;by_cases b6:z<n0;have e:(X.at ρ).ρ z=z:=hid z b6;grind;obtain hz|hz:=hz;grind;right;have:=T.new z (Nat.le_of_not_lt b6) hz.2;omega
def ZZ(h:Hp)(p:Nat)(o:Ob):Fo:=⟨o,(Y1 (Zu h) ((p:Int)+1) o.at_).1,((Zv h p).drop (o.at_+1).toNat).take o.size.toNat⟩
def Xg(h:Hp):Nat->Nat->List Fo
 |0,_=>[]
 |n+1,p=>(obP h p).map (ZZ h p)++Xg h n (p+1)
def Ta(h:Hp)(x:Z9):Nat->Nat->List (Fo×Value)
 |0,_=>[]
 |n+1,p=>(obP h p).map (λo=>(ZZ h p o,Ua h x p o))++Ta h x n (p+1)
def jq(h:Hp)(x:Z9):∀(n p:Nat),(Ta h x n p).map (·.1)=Xg h n p
 |0,p=>rfl
 |n+1,p=>by simp_all[Ta,Xg,Zf6,Zge,jq]
def F0(h:Hp)(x:Z9):∀(n p:Nat),(Ta h x n p).map (·.2)=Wg h x n p
 |0,p=>rfl
 |n+1,p=>by simp_all[Ta,Wg,Zf6,Zge,F0]
def EZ{h:Hp}{x:Z9}{y:Fo×Value}:∀ {n p:Nat},y∈Ta h x n p->∃q o,q<p+n/\o∈obP h q/\y=(ZZ h q o,Ua h x q o)
 |0,p,a=>by simp[Ta]at a
 |n+1,p,a=>by
  simp only[Ta,Ze8,ZdX]at a;obtain⟨o,f,rfl⟩|a:=a;exact⟨p,o,Z0,f,rfl⟩;obtain⟨q,o,g,d⟩:=EZ a;exact⟨q,o,Z0,d⟩
def Yl(h:Hp):Vw:=(Xg h 4 0).foldl Vw.put ⟨[],[],[]⟩
def QR(h:Hp):V:=if X5 h=xy then WU ((Yl h).gr h.roots)else .tup [Yj TP,vi 1]
structure OfOk (h:Hp):Prop where
 ob:∀p,p<4->P (obP h p)<=1000000/\∀o∈obP h p,0<=o.at_/\0<=o.size/\o.at_+1+o.size<=P (Zv h p)
 n:P (Xg h 4 0)<=4000000
 sm:(Yl h).sm h.roots
def Z5B{w:Z4}{K:Z3}{l:Z8}{v:Ze}(h:Rd w K (.sl (l.map vu)) v){d n:Nat}(p:0<P l)(J:d+n<=P l):Rd w K (.sl (((l.drop d).take n).map vu)) (SX v d n):=by
 generalize j:l.map vu=L at h;have q:P L=P l:=by rw[<-j,Zek]
 cases h with
 |nil a cap I=>simp_all
 |sl _ b o cap k vs D F r t H u=>
  have z:k=1:=by
   have B:vu (l[0]'p)∈L:=by rw[<-j];exact Zfw (Ze0 p)
   have:=(t _ B).1;simpa[vu,V.cells]using this.symm
  subst z;unfold SX;dsimp only;have A:P (((l.drop d).take n).map vu)=n:=ZcL;by_cases C:n=0;subst C;simp only[ZhZ,Zfm];exact .nil _ _ Z0;rw[if_neg Z0]
  have:=Rd.sl (w:=w) (G:=K) (((l.drop d).take n).map vu) b (o+d) (cap-d) 1 (λi=>vs (d+i)) Z0 Z0 r (λx g=>ZcJ)
   (λi f=>ZcJ)
   (λi c f=>by
    rw[VS λx g=>by obtain⟨y,_,rfl⟩:=ZdX.1 g;rfl,Ze1,Zej]at f;split at f;rw[Ze9]at f;exact u (d+i) c (by rw[<-j,VS λx g=>by obtain⟨y,_,rfl⟩:=ZdX.1 g;rfl,Ze1];exact f);cases f)
  simp_all
def Z3F(f:Fo):NoM (X6 f):=.agg _ λc a=>by
 simp only[Ze3,Zfj,ZgN]at a;obtain rfl|rfl|rfl|rfl|rfl|rfl|rfl:=a;all_goals first|exact .int _ _|exact .bool _|exact zO _
def Z11{w:Z4}{K:Z3}{h:Hp}{x:Z9}(d:OfOk h)(g:∀j,j<5->Rd w K (.sl ((Zv h j).map vu)) (x j)):∀y∈Ta h x 4 0,Rd w K (X6 y.1) y.2/\NoM (X6 y.1):=by
 intro y k;obtain⟨q,o,r,f,rfl⟩:=EZ k;refine⟨?_,Z3F _⟩;obtain⟨l,n,p⟩:=(d.ob q Z0).2 o f;refine .agg _ _ rfl Z1 λi c a=> ?_
 match i,a with
 |0,a=>cases a;exact .int _ _
 |1,a=>cases a;exact .int _ _
 |2,a=>cases a;exact .int _ _
 |3,a=>cases a;exact .bool _
 |4,a=>cases a;exact .int _ _
 |5,a=>cases a;exact .int _ _
 |6,a=>cases a;exact Z5B (g q Z0) Z0 Z0
noncomputable def cB:Ctx:= {P:=YI Try.prog,ix:=(vf (YI Try.prog)).ix,own:=λ_=>xh,fresh,sig:=C2,tr:=[3],n:=82}
def DR{P:Z5}:∀ {c:Code},UZ P c=xy->Tt (Lg.fit (YI P)) c:=by
 intro c;induction c with
 |region id j d=>exactλh o g=>(ZfO.1 h) o g
 |seq x y a f=>intro h;simp only[UZ,ZdJ]at h;exact⟨a h.1,f h.2⟩
 |cond c x y a f=>intro h;simp only[UZ,ZdJ]at h;exact⟨a h.1,f h.2⟩
 |block id x a=>exact a
 |loop x a=>exact a
 |scope x a=>exact a
 |_=>intro h;first|trivial|cases h
def EU:(YI Try.prog).follows .mixedOrders=xy:=Z2
def H4{code:Code}{S:SS}{st:Stm}{fl:Flow}{B:Nat}{G Kf:Z3}{s:St}{a:Act}{w w0:Z4}{T0:Za}{N:St->Prop}{X:Nat->St->Prop}{Rt:St->Prop}(f:UZ Try.prog code=xy)(hc:comp (vf (YI Try.prog)) code S=xk (st,fl))(j:RelS Kf [4,23] T0 cB B G w0 82 s a w S)(k:Yq (YI Try.prog) st s N X Rt):
  US Try.prog code (Post Kf [4,23] T0 cB B G w0 82 fl N X Rt) a w:=
 letI:Lg (vf (YI Try.prog)).P:=besI Try.prog
 qU (fc:=vf (YI Try.prog)) EU (λp g q h d=>Bq (ZeV _ g) (ZeV _ h) d) rfl rfl rfl (ZdL _) code (DR f) hc j k
def Z3Y:Try.f15.body=xk ofC:=Z2
def Z3Z:ofC=.seq (Yn ofC [0]) (.seq (Yn ofC [1,0]) (.seq (Yn ofC [1,1,0]) (.seq (Yn ofC [1,1,1,0]) (Yn ofC [1,1,1,1])))):=Z2
noncomputable def ops3:Array Oper:=Kl (Yn ofC [1,1,0])
def Z5l:Yn ofC [1,1,0]=.region 3 ops3 xh:=Z2
def Z5m:Yn ofC [1,1,1,0]=.region 4 ops4 xh:=Z2
def Z48:∃o,ops3[0]?=xk o/\o.guard=xw/\o.dst=xk 18/\o.op=.makeChan 81 (.const (.int .i64 0)):=⟨_,rfl,rfl,rfl,rfl⟩
def Z49:∃o,ops3[1]?=xk o/\o.guard=xw/\o.dst=xk 4/\o.op=.assign (.tmp 18):=⟨_,rfl,rfl,rfl,rfl⟩
def Z4a:∃o,ops4[0]?=xk o/\o.guard=xw/\o.dst=xk 19/\o.op=.load 37 (.tmp 1):=⟨_,rfl,rfl,rfl,rfl⟩
def Z4b:∃o,ops4[1]?=xk o/\o.guard=xw/\o.dst=xk 20/\o.op=.move (.tmp 4):=⟨_,rfl,rfl,rfl,rfl⟩
def Z4c:∃o a,ops4[2]?=xk o/\o.guard=xw/\o.dst=xw/\o.op=.go ⟨.value (.func 42), #[.tmp 19,.tmp 20],a⟩:=⟨_,_,rfl,rfl,rfl,rfl⟩
def Hf:ops3.size=2/\ops4.size=3:=⟨rfl,rfl⟩
def Z0k:∃d inf,Try.prog.underlying 81=xk (.chan d 87)/\Try.prog.info? 87=xk inf:=⟨_,_,rfl,rfl⟩
def OQ{B:Nat}{w w':Z4}(h:Below B w w')(d:Nat):Below B w (w'.at d):=⟨h.os,h.tape,h.output,h.size,h.block⟩
def Z18{b:Zf}{k:Zp}{cs:Z6}{a:Act}{g:Ze}{c:Nat}(l:b.kind≠.early)(d:a.tmps[19]?=xk g)(f:a.tmps[20]?=xk (.chan (xk c)))(w:Z4):
  stepG Try.prog xy (G (b.at a (.inRegion ops4 [2]::k)) cs) w=.spawn (G (b.at a (.inRegion ops4 []::k)) cs) (born Try.prog {target:=.fn (.func 42) #[],args:=#[g,.chan (xk c)]}) w #[]:=by
 obtain⟨o,j,n,p,q,r⟩:=Z4c;have t:=Act.eval_tmp a 19 _ d;have u:=Act.eval_tmp a 20 _ f;have h:execOp a.eval o=(pure (.spawn {target:=.fn (.func 42) #[],args:=#[g,.chan (xk c)]}):Sem Next):=by
  unfold execOp;simp only[r];simp[resolve,Deferred.ofValue,Act.eval,d,f]
 have:=stepG_spawn (P:=Try.prog) (main:=xy) (b:=b) (a:=a) (k:=k) (cs:=cs) (w:=w) (i:=2) (rest:=[]) n (by simp[Region.wanted,p]) l (by rw[h];rfl) rfl;rw[q]at this;rw[this];unfold listed;rw[h];rfl
def Z41{h:Hp}{B:Nat}{G:Z3}{s:St}{a:Act}{w w0:Z4}{T0:Za}(Q:RelS G [4,23] T0 cB B G w0 82 s a w M1)(q1:get s 1=.m [vu h.base,vi h.cap,vi h.to,.bool h.cycle,vi h.scan,.sl (h.low.map vu),.sl (h.high.map vu),.sl (h.old.map vu),.sl (h.far.map vu),.sl (h.roots.map vu)])(q3:get s 3=.v (vi 0)):
  ∃(F:Z3) (k l:Nat) (r t:Zg) (x:Z9),(∀b,F b->G b\/B<=b)/\¬F k/\¬F l/\B<=k/\B<=l/\k≠l/\B<=xz (xj w)/\a.tmps[1]?=xk (.pointer (xk ⟨k,0,xw⟩))/\a.tmps[2]?=xk (.pointer (xk ⟨l,0,xw⟩))/\a.tmps[3]?=xk (.int .i64 0)/\
   w.heap[k]?=xk (.cells #[.int .u64 h.base,.int .i64 h.cap,.int .i64 h.to,.bool h.cycle,.int .i64 h.scan,x 0,x 1,x 2,x 3,x 4] r (0,0))/\w.heap[l]?=xk (.cells #[.slice xw 0 0,.slice xw 0 0] t (0,0))/\
   (∀j,j<5->Rd w F (.sl ((Zv h j).map vu)) (x j)):=by
 obtain⟨⟨u,k1,k2⟩,k3,k4,k5,k6⟩:=Q;have T:cB.ix 1=1:=ZcM;have U:cB.ix 3=3:=ZcM;obtain⟨u1,t1,k,d,r,N,rfl,f3,I⟩:=k1.at_ 1 (by rw[Yt];exact Vt _) Zdz;obtain⟨u2,t2,l,f,t,g1,rfl,g3,J⟩:=k1.at_ 2 (by rw[Yt];exact Vt _) Zdz;obtain⟨u3,t3,A⟩:=k1.at_ 3 (by rw[Yt];exact Vt _) Zdz;obtain⟨y3,o,C⟩:∃y,eval s (.s (cB.ix 3))=xk y/\Rd w (u.ext []) y u3:=A;rw[U]at o;simp only[eval,q3,ZdF]at o;subst o;have K:=TV C;subst K;have R:d.size=10:=I.1;have S:f.size=2:=J.1;have g:∀(i:Nat) (y:V),[vu h.base,vi h.cap,vi h.to,.bool h.cycle,vi h.scan,.sl (h.low.map vu),.sl (h.high.map vu),.sl (h.old.map vu),.sl (h.far.map vu),.sl (h.roots.map vu)][i]?=xk y->Rd w u.F y (d.getD i undef):=λi y n=>by
  have p:i<10:=(ZdH.1 n).1
  have:=I.2 i (.fz,.m (cB.ix 1) i) (by
   match i,p with
   |0,_=>rfl
   |1,_=>rfl
   |2,_=>rfl
   |3,_=>rfl
   |4,_=>rfl
   |5,_=>rfl
   |6,_=>rfl
   |7,_=>rfl
   |8,_=>rfl
   |9,_=>rfl
   |i+10,h=>omega)
  obtain⟨z,H,z2,z3⟩:=this;rw[T]at H;simp only[eval,q1,n,ZdQ]at H;obtain⟨rfl,_⟩:=TS H;exact z3
 have P:∀i,i<2->f.getD i undef=.slice xw 0 0:=λi n=>by
  have:=J.2 i (.nil,.m (cB.ix 2) i) (by
   grind)
  exact this.1
 have L:d=#[.int .u64 h.base,.int .i64 h.cap,.int .i64 h.to,.bool h.cycle,.int .i64 h.scan,d.getD 5 undef,d.getD 6 undef,d.getD 7 undef,d.getD 8 undef,d.getD 9 undef]:=by
  refine ZgO Z0 λi q D=> ?_;have n:i<10:=by simpa using D
  have e:d[i]=d.getD i undef:=by simp[Array.getD,q]
  rw[e]
  match i,n with
  |0,_=>exact TV (g 0 _ rfl)
  |1,_=>exact TV (g 1 _ rfl)
  |2,_=>exact TV (g 2 _ rfl)
  |3,_=>exact M3 (g 3 _ rfl)
  |4,_=>exact TV (g 4 _ rfl)
  |5,_=>rfl
  |6,_=>rfl
  |7,_=>rfl
  |8,_=>rfl
  |9,_=>rfl
  |i+10,h=>omega
 have M:f=#[.slice xw 0 0,.slice xw 0 0]:=by
  refine ZgO Z0 λi q D=> ?_;have n:i<2:=by simpa using D
  have e:f[i]=f.getD i undef:=by simp[Array.getD,q]
  rw[e,P i n]
  match i,n with
  |0,_=>rfl
  |1,_=>rfl
  |i+2,h=>omega
 obtain⟨W,m2,X⟩:=k1.ok.b_lt 1 0 k N;obtain⟨Y,n2,Z⟩:=k1.ok.b_lt 2 0 l g1;refine⟨u.F,k,l,r,t,λj=>d.getD (5+j) undef,k1.ok.f_or,X,Z,W,Y,λe=> ?_,k1.ok.base,t1,t2,t3,ZcJ,ZcJ,λj O=> ?_⟩;grind
 match j,O with
 |0,_=>exact g 5 _ rfl
 |1,_=>exact g 6 _ rfl
 |2,_=>exact g 7 _ rfl
 |3,_=>exact g 8 _ rfl
 |4,_=>exact g 9 _ rfl
 |j+5,h=>omega
def CZ{h:Hp}(hh:h.ok)(hk:X5 h=xy->OfOk h):VC (YI Try.prog) 15 xh [ZJ h] (QR h):=by
 refine⟨Z2,λw G vs hG g5 f8 q C hK=> ?_⟩;have S:VC (YI Try.prog) 25 xh [ZJ h] (.bool (X5 h)):=Gd Sol.sub (Lf hh) (λy hy=>by rw[ZeO.1 hy];exact RM h) (.bool _);have c9:vs.size=1:=g5;have g7:Rd w G (ZJ h) (vs.getD 0 undef):=f8 0 _ rfl;have U:Frame.enter Try.prog 15 vs .normal=(base 15).at {tmps:=vs++Array.replicate (82-vs.size) undef,defers:=[]} [.code ofC]:=by
  rw[enter_at vs Try.func15 Z3Y,Try.ntmps15]
 show Walk Try.prog C (Frame.enter Try.prog 15 vs .normal) q w;rw[U,Z3Z];clear U;have i0:cB.ix 0=0:=ZcM;generalize Y:({tmps:=vs++Array.replicate (82-vs.size) undef,defers:=[]}:Act)=a0;have t0:a0.tmps[0]?=xk (vs.getD 0 undef):=by
  rw[<-Y];simp only;rw[ZfJ Z0];simp[ZdK,c9]
 have f7:RelS G [4,23] a0.tmps cB (xz (xj w)) G w 82 [.v (ZJ h)] a0 w yz:=by
  refine⟨⟨{F:=G,bl:=λ_ _=>xw,K:=G},⟨⟨ZdL _,hG,λb a=>.inl a,λb a=>a,λt i b a=>(by cases a),λt i u j b a=>(by cases a),hG,λt i b a=>(by cases a),λb a=>.inl a⟩,λt _ hk=> ?_,λt hh=> ?_⟩,rfl⟩,λp B=> ?_,.refl _ _,by rw[<-Y];simp[c9],by rw[<-Y]⟩;rw[Yt]at hk⊢;by_cases e:t=0;subst e;exact⟨_,t0,ZJ h,by rw[i0];rfl,g7.mono λb a=>.inl a⟩;simp[yz,SS.at,ZfK e,TK.isNo]at hk;refine absurd ?_ hh;rw[Yt];split<;>exact Vt _;simp only[yz,SS.at]at B;split at B<;>cases B
 refine .two (H4 Z2 r0c f7 (N:=λW=>get W 1=.m [vu h.base,vi h.cap,vi h.to,.bool h.cycle,vi h.scan,.sl (h.low.map vu),.sl (h.high.map vu),.sl (h.old.map vu),.sl (h.far.map vu),.sl (h.roots.map vu)]/\get W 2=.m [.sl [],.sl []]/\get W 3=.v (vi 0)) (X:=λ_ _=>False) (Rt:=λ_=>False) (by simp[r0]) (base 15) _ q C (by simp[base]) λe a1 w1 B=> ?_);cases e with
 |exit id=>obtain⟨_,_,_,h,_⟩:=B;exact h.elim
 |ret=>obtain⟨_,_,_,h,_⟩:=B;exact h.elim
 |normal=>
  obtain⟨s1,S1,f2,⟨q1,q2,q3⟩,c7⟩:=B;cases f2;have b4:Below (xz (xj w)) w w1:=c7.2.2.1.below;refine .two (H4 Z2 rXc c7.base (N:=λW=>X5 h=xy/\get W 1=get s1 1/\get W 3=get s1 3) (X:=λ_ _=>False) (Rt:=λW=>X5 h=xh/\W9 W [(2,.ag 2),(3,.v)]=xk (.tup [Yj TP,vi 1])) ?_ (base 15) _ q C (by simp[base]) λe a2 w2 B=> ?_);simp[rX,q1];refine Zy S Z1 ?_;cases h9:X5 h;simp[YX,W9,VG,UN,TP,Yj];simp[YX,q1];cases e with
  |exit id=>obtain⟨_,_,_,h,_⟩:=B;exact h.elim
  |ret=>
   obtain⟨s2,S2,I,⟨e1,e2⟩,l⟩:=B;have I:S2=BA:=by simpa using I
   subst I;have Z:Below (xz (xj w)) w w2:=b4.trans l.2.2.1.below;intro h6;refine hK _ w2 rfl ⟨rfl,l.2.2.2.2,rfl,_,Try.func15,λd=> ?_⟩;obtain⟨⟨h2,k1,k2⟩,k3,k4,k5,k6⟩:=l.sim d
   obtain⟨v,hv,a7⟩:=KP (c:=cB) (f:=Try.f15) (D:=λb=>(xh=xh/\G b)\/(xz (xj w)<=b/\b< xz (xj (w2.at d)))) k1 k3 (λb a=>by
    obtain O|O:=k1.ok.f_or b a;exact .inl ⟨rfl,O⟩;exact .inr ⟨O,k1.ok.f_lt b a⟩) (λr hr=>⟨ZdR.1 (Z2:(Try.f15.results.toList.all (SI (YI Try.prog) BA))=xy) r hr,λi b a=>.inr ⟨(k1.ok.b_lt _ _ b a).1,(k1.ok.b_lt _ _ b a).2.1⟩⟩) (x:=.tup [Yj TP,vi 1]) (by rw[<-e2];exact ZeX (W9 s2) Z2)
   refine⟨v,hv,v,rfl,OQ Z d,?_⟩;unfold QR;rw[if_neg (by rw[e1];simp)];exact a7
  |normal=>
   obtain⟨s2,S2,I,⟨e1,e2,e3⟩,l⟩:=B;cases I;have Z:Below (xz (xj w)) w w2:=b4.trans l.2.2.1.below;have R:=hk e1;obtain⟨F,M,b2,T1,T2,x,hF,g8,g9,f0,f1,e9,h7,t1,t2,t3,d5,d6,f9⟩:=Z41 (h:=h) l (e2.trans q1) (e3.trans q3);have d0:a2.tmps.size=82:=l.2.2.2.1;have f4:a2.defers=[]:=l.2.2.2.2;have l1:=(ZdM.1 d5).1;have l2:=(ZdM.1 d6).1;obtain⟨o,o1,o2,o3,o4⟩:=Z48;obtain⟨o',p1,p2,p3,p4⟩:=Z49;obtain⟨dir,inf,g6,c0⟩:=Z0k;refine .two ?_;rw[Z5l];refine .region ?_;rw[Hf.1,show List.range 2=[0,1]from rfl];refine Walk.chan (i:=0) o1 (by simp[Region.wanted,o2]) (by simp[base]) o4 g6 c0 ?_;rw[o3];generalize hc:xz (xj w2)=c;obtain⟨w3,J⟩:∃w3,w3=w2.alloc (.chan 0 #[] xh 0 0 xh):=⟨_,rfl⟩;rw[<-J];have b0:((a2.put (xk 18) (.chan (xk c))).eval (.tmp 18))=.chan (xk c):=Act.eval_tmp _ 18 _ (Rb Z0);refine Walk.val (i:=1) (v:=.chan (xk c)) p1 (by simp[Region.wanted,p2]) (by simp[base]) (by rw[p4];rfl) (λw' _=>by unfold execOp;simp only[p4,b0];rfl) (.regEnd ?_);rw[p3];have z3:xz (xj w3)=c+1:=by rw[J,<-hc];simp
   have b5:w3.heap[c]?=xk (.chan 0 #[] xh 0 0 xh):=by rw[J,<-hc];exact Ze7 ..
   have Q:∀b,b<c->w3.heap[b]?=w2.heap[b]? :=λb a=>by rw[J];exact ZdN _ _ _ Z0
   have A:Below (xz (xj w)) w w3:=by rw[J];exact Z.alloc Z0 _
   have m1:w3.heap[M]?=_:=(Q M Z0).trans d5;have m2:w3.heap[b2]?=_:=(Q b2 Z0).trans d6;obtain⟨o0,d8,d9,e0,a8⟩:=Z4a;obtain⟨o9,e4,e5,e6,a9⟩:=Z4b;refine .two ?_;rw[Z5m];refine .region ?_;rw[Hf.2,show List.range 3=[0,1,2]from rfl];generalize z:(a2.put (xk 18) (.chan (xk c))).put (xk 4) (.chan (xk c))=a3;have g1:a3.tmps[1]?=xk (.pointer (xk ⟨M,0,xw⟩)):=by rw[<-z,Wu Z0,Wu Z0];exact t1
   have g4:a3.tmps[4]?=xk (.chan (xk c)):=by rw[<-z];exact Rb (by rw[Sj];omega)
   have gs:a3.tmps.size=82:=by rw[<-z,Sj,Sj];exact d0
   have e7:a3.eval (.tmp 1)=.pointer (xk ⟨M,0,xw⟩):=Act.eval_tmp _ 1 _ g1;refine Walk.val (i:=0) (v:=ZO h x) d8 (by simp[Region.wanted,d9]) (by simp[base]) (by rw[a8];rfl) (λw' he=> ?_) ?_
   have hl:=yS (P:=Try.prog) (w:=w') (T:=37) Z2 Z2 (b:=M) (o:=0) [.int .u64 h.base,.int .i64 h.cap,.int .i64 h.to,.bool h.cycle,.int .i64 h.scan,x 0,x 1,x 2,x 3,x 4] Z2 (λi u hi=>by
    rw[Zet,ZdT w' M i _ T1 (0,0) (by rw[he];exact m1)];simpa using hi)
   unfold execOp;simp only[a8,e7];rw[Zel,hl];rfl;rw[e0];have e8:(a3.put (xk 19) (ZO h x)).eval (.tmp 4)=.chan (xk c):=Act.eval_tmp _ 4 _ (by rw[Wu Z0];exact g4);refine Walk.val (i:=1) (v:=.chan (xk c)) e4 (by simp[Region.wanted,e5]) (by simp[base]) (by rw[a9];rfl) (λw' _=>by unfold execOp;simp only[a9,e8];rfl) ?_;rw[e6];generalize k:(a3.put (xk 19) (ZO h x)).put (xk 20) (.chan (xk c))=L;have u1:L.tmps[1]?=xk (.pointer (xk ⟨M,0,xw⟩)):=by rw[<-k,Wu Z0,Wu Z0];exact g1
   have u4:L.tmps[4]?=xk (.chan (xk c)):=by rw[<-k,Wu Z0,Wu Z0];exact g4
   have us:L.tmps.size=82:=by rw[<-k,Sj,Sj];exact gs
   have u2:L.tmps[2]?=xk (.pointer (xk ⟨b2,0,xw⟩)):=by rw[<-k,Wu Z0,Wu Z0,<-z,Wu Z0,Wu Z0];exact t2
   have u3:L.tmps[3]?=xk (.int .i64 0):=by rw[<-k,Wu Z0,Wu Z0,<-z,Wu Z0,Wu Z0];exact t3
   have h4:L.tmps[19]?=xk (ZO h x):=by rw[<-k,Wu Z0];exact Rb Z0
   have h5:L.tmps[20]?=xk (.chan (xk c)):=by rw[<-k];exact Rb (by rw[Sj];omega)
   have ud:L.defers=[]:=by rw[<-k,<-z];exact f4
   let K:Nat->Prop:=λb=>F b/\∃q e H,w3.heap[b]?=xk (.cells q e H);have a4:∀j,j<5->Rd w3 K (.sl ((Zv h j).map vu)) (x j):=λj hj=>by
    have O:=Z5A (f9 j hj) (GZ _);refine O.keep (λb a=>Q b ?_) λb a=>⟨a.1,?_⟩;obtain⟨_,q,e,H,a⟩:=a;have:=(ZdM.1 a).1;omega;obtain⟨_,q,e,H,a⟩:=a;exact⟨q,e,H,by rw[Q b (by have:=(ZdM.1 a).1;omega)];exact a⟩
   obtain⟨n0,c5,b9,b8⟩:=EM w3 (L.tmps++ #[x 0,x 1,x 2,x 3,x 4]);have hx:∀j,j<5->FixV n0 (x j):=λj hj=>by
    refine b9 _ (Zfi.2 (.inr ?_))
    match j,hj with
    |0,_=>simp
    |1,_=>simp
    |2,_=>simp
    |3,_=>simp
    |4,_=>simp
    |j+5,h=>omega
   have b6:c<n0:=Z0;have h0:¬K M:=λh=>g8 h.1;have h3:¬K b2:=λh=>g9 h.1;have b3:∀b,K b->b<xz (xj w3):=λb ⟨_,_,_,_,a⟩=>(ZdM.1 a).1;have d7:¬K c:=λ⟨_,_,_,_,a⟩=>by rw[b5]at a;cases a
   refine Walk.meet (KA:=K) (KB:=K) (OA0:=λb=>b=M\/b=b2) (c:=c) (λw=>Z18 (by simp[base]) h4 h5 w)
    (Z37 (fs:=Ta h x 4 0) (fin:=Yl h) hh us ud u1 u2 u3 u4 m1 m2 Z0 f0 f1 e9 h0 h3 c5 b6 (λb a=>a.2) (λb q e H a=>b8 b q e H a) (λv hv=>b9 v (Zfi.2 (.inl hv))) hx a4 (Z11 R a4) (F0 h x 4 0) (by
     have:=R.n;rw[<-jq h x 4 0,Zek]at this;exact this) (by rw[jq];rfl) R.sm)
    (Z0l hh c5 b6 (λb a=>a.2) (λb o ho a=>by
     obtain⟨_,q,e,H,he⟩:=a;rw[ho]at he;cases he;exact b8 b q e H ho) hx a4 R.ob) b5 (λb a=>by obtain rfl|rfl:=a<;>omega) b3 b3 (λb a=>by obtain rfl|rfl:=a<;>assumption) (λa=>by obtain a|a:=a<;>omega) d7 d7 ?_
   rintro OA g w' ⟨H,rfl,b7,hm,hd,f6,c8⟩ g3 a6 c6 h8 f5;refine⟨H,q,rfl,hK H w' b7 ⟨hm,hd,f6,_,by rw[b7];exact Try.func15,λd=> ?_⟩⟩;obtain⟨v,hv,a7⟩:=c8 d;refine⟨v,hv,v,rfl,⟨(ZeX Prod.fst c6).trans A.os,a6.trans A.tape,(ZeX Prod.snd c6).trans A.output,Zeh A.size g3,λb a=>(f5 b (by have:=A.size;omega) (λf3=>by obtain rfl|rfl:=f3<;>omega) Z0).trans (A.block b a)⟩,?_⟩;unfold QR;rw[if_pos e1];refine a7.mono λb a=> ?_;obtain⟨a,c1⟩:=a;obtain a|a:=a;obtain O|O:=hF b a.1;exact .inl ⟨rfl,O⟩;exact .inr ⟨O,c1⟩;exact .inr ⟨a,c1⟩
  |_=>exact B.elim
 |_=>exact B.elim
#print axioms CZ
end Vm
end
section
namespace Vm
open Go Go.Proofs
section
section
variable {h:Hp}{p:Pts}
def Tl(h:Hp){q:Nat}(a:q<4):Zx h ((q:Int)+1)=Zv h q:=by
 have:q=0\/q=1\/q=2\/q=3:=Z0;obtain rfl|rfl|rfl|rfl:=this<;>rfl
def Rt.obQ(r:Rt h p){q:Nat}(a:q<4):obP h q=p.at ((q:Int)+1):=by
 unfold Vm.obP;rw[r.objs Z0]
def T9{f:Fo}:∀ {n q:Nat},f∈Xg h n q->∃k o,q<=k/\k<q+n/\o∈obP h k/\f=ZZ h k o
 |0,q,a=>by simp[Xg]at a
 |n+1,q,a=>by
  simp only[Xg,Ze8,ZdX]at a;obtain⟨o,g,rfl⟩|a:=a;exact⟨q,o,Z0,Z0,g,rfl⟩;obtain⟨k,o,j,l,d⟩:=T9 a;exact⟨k,o,Z0,Z0,d⟩
def zE{k:Nat}{o:Ob}(a:o∈obP h k):∀ {n q:Nat},q<=k->k<q+n->ZZ h k o∈Xg h n q
 |0,q,d,f=>Z0
 |n+1,q,d,f=>by
  simp only[Xg,Ze8,ZdX];by_cases e:k=q;subst e;exact .inl ⟨o,a,rfl⟩;exact .inr (zE a Z0 Z0)
def Z5g(s:Vw)(f:Fo):(s.put f).ns=s.ns++if f.ob.gone then []else [f]:=by
 unfold Vw.put;split<;>simp
def ES:∀(l:List Fo) (s:Vw),(l.foldl Vw.put s).ns=s.ns++l.filter λf=> !f.ob.gone
 | [],s=>Z1
 |f::l,s=>by
  rw[Zgv,ES l,Z5g];cases a:f.ob.gone<;>simp[a]
def CA(h:Hp):(Yl h).ns=(Xg h 4 0).filter λf=> !f.ob.gone:=by
 unfold Yl;rw[ES];rfl
def Kh(r:Rt h p){q:Nat}(a:q<4):P (obP h q)<=P (Zv h q):=by
 have t:=r.tiles ((q:Int)+1) Z0;have:=t.sum (ZeQ _);rw[Tl h a,<-r.obQ a]at this;have d:P (obP h q)<=Um (obP h q):=by
  generalize obP h q=l;induction l with
  |nil=>simp
  |cons o l f=>simp only[Um,Zee,List.sum_cons,Zf2]at f⊢;omega
 omega
def Rt.len4(r:Rt h p){q:Nat}(l:q<4):P (Zv h q)<=4096:=by
 obtain⟨a,d,_,_,_,⟨_,_,f,g⟩,⟨_,_,j,k⟩⟩:=Vg.1 r.lay;simp only[Zu]at*;have:q=0\/q=1\/q=2\/q=3:=Z0;obtain rfl|rfl|rfl|rfl:=this;show P h.low<=4096;omega;show P h.high<=4096;omega;show P h.old<=4096;omega;show P h.far<=4096;omega
def Rt.ob4(r:Rt h p){q:Nat}(f:q<4){o:Ob}(d:o∈obP h q):∃a n m:Nat,o.at_=a/\o.size=n/\o.ptrs=m/\a+(n+1)<=P (Zv h q)/\n<=255/\m<=n:=by
 rw[r.obQ f]at d;have:=r.toTld.ob Z0 d;rwa[Tl h f]at this
def lsW(a:h.ok){q:Nat}(d:q<4):∀w∈Zv h q,ZC w:=by
 have:q=0\/q=1\/q=2\/q=3:=Z0;obtain rfl|rfl|rfl|rfl:=this;exact a.lowW;exact a.highW;exact a.oldW;exact a.farW
def JP(r:Rt h p){q:Nat}(f:q<4){o:Ob}(d:o∈obP h q):(ZZ h q o).sl.length=o.size.toNat:=by
 obtain⟨a,n,m,g,j,k,l,_⟩:=r.ob4 f d;simp only[ZZ,ZeU,ZfM];omega
def Rt.ofOk(r:Rt h p)(x:h.ok):OfOk h:=by
 have F:P (Xg h 4 0)<=16384:=by
  have A:=Kh r (q:=0) Z0;have j:=Kh r (q:=1) Z0;have l:=Kh r (q:=2) Z0;have t:=Kh r (q:=3) Z0;have G:=r.len4 (q:=0) Z0;have k1:=r.len4 (q:=1) Z0;have H:=r.len4 (q:=2) Z0;have I:=r.len4 (q:=3) Z0;simp only[Xg,Zes,Zek,Zfg,Zet,Nat.reduceAdd];omega
 refine⟨λq g=>⟨by have:=Kh r g;have:=r.len4 g;omega,λo d=> ?_⟩,Z0,⟨?_,λf u=> ?_,by have:=r.nroots;omega,x.rootsW⟩⟩;obtain⟨a,n,m,j,l,t,y,_⟩:=r.ob4 g d;omega;rw[CA];have:=ZhM (λf:Fo=> !f.ob.gone) (Xg h 4 0);omega;rw[CA]at u;obtain⟨k,o,_,D,d,rfl⟩:=T9 (Zgy.1 u).1;obtain⟨a,n,m,j,l,t,y,B,C⟩:=r.ob4 Z0 d;have e:=JP r Z0 d;refine⟨by show 0<=o.ptrs;omega,by show o.ptrs<=_;rw[e];omega,by rw[e];omega,λw z=>lsW x (q:=k) Z0 w ?_⟩;exact Zfd (ZeD z)
def ofOk(a:h.ok)(d:X5 h=xy):OfOk h:=by
 obtain⟨p,r⟩:=yL.1 d;exact r.ofOk a
end
def Oi{h:Hp}(a:h.ok):VC (YI Try.prog) 15 xh [ZJ h] (QR h):=CZ a (ofOk a)
end
section
structure VwI (d:List Fo) (s:Vw):Prop where
 ns:s.ns=d.filter λf=> !f.ob.gone
 n1:∀a j,ZY s.nm a=xk j->∃i:Nat,j=i/\∃f,s.ns[i]?=xk f/\f.ad=a
 n2:∀f∈s.ns,(ZY s.nm f.ad).isSome=xy
 t1:∀a t,ZY s.tm a=xk t->∃f∈d,f.ob.gone=xy/\f.ad=a/\f.ob.target=t
 t2:∀f∈d,f.ob.gone=xy->(ZY s.tm f.ad).isSome=xy
def zm{α l k j}{x:α}(h:k=j\/(ZY l j).isSome=xy):(ZY (XH l k x) j).isSome=xy:=by
 rw[QA];split;rfl;rename_i a;obtain h|h:=h;exact absurd h a;exact h
theorem VwI.put{d s f}(i:VwI d s):VwI (d++[f]) (s.put f):=by
 cases n:f.ob.gone;have e:s.put f= {s with ns:=s.ns++[f],nm:=XH s.nm f.ad (P s.ns)}:=by simp[Vw.put,n]
 rw[e];refine⟨by simp[i.ns,n],λa j q=> ?_,λx k=> ?_,λa t o=> ?_,λx k l=> ?_⟩;simp only[QA]at q;split at q;rename_i w;exact⟨P s.ns,by simpa using q.symm,f,Z1,w⟩;have⟨m,z,g,y,A⟩:=i.n1 a j q;exact⟨m,z,g,by simp only[Zea (ZdH.1 y).1,y],A⟩;obtain k|k:=Ze8.1 k;exact zm (.inr (i.n2 x k));rw[ZeO.1 k];exact zm (.inl rfl);have⟨g,r,u⟩:=i.t1 a t o;exact⟨g,by simp[r],u⟩;obtain k|k:=Ze8.1 k;exact i.t2 x k l;rw[ZeO.1 k,n]at l;exact absurd l Z1;have e:s.put f= {s with tm:=XH s.tm f.ad f.ob.target}:=by simp[Vw.put,n]
 rw[e];refine⟨by simp[i.ns,n],i.n1,i.n2,λa t o=> ?_,λx k l=> ?_⟩;simp only[QA]at o;split at o;rename_i w;exact⟨f,Z1,n,w,by simpa using o⟩;have⟨g,r,u⟩:=i.t1 a t o;exact⟨g,by simp[r],u⟩;obtain k|k:=Ze8.1 k;exact zm (.inr (i.t2 x k l));rw[ZeO.1 k];exact zm (.inl rfl)
def VwI.fold:∀ {l d} {s:Vw},VwI d s->VwI (d++l) (l.foldl Vw.put s)
 | [],d,s,i=>by simpa using i
 |f::l,d,s,i=>by
  have:=VwI.fold (l:=l) (i.put (f:=f));rwa[Zew]at this
def Sd h:VwI (Xg h 4 0) (Yl h):=by
 have:VwI [] ⟨[],[],[]⟩:=⟨rfl,by simp[ZY],Z1,by simp[ZY],Z1⟩;exact this.fold (l:=Xg h 4 0)
section
variable {h:Hp}{p:Pts}
def Sx(r:Rt h p){q}(d:q<4){o}(f:o∈obP h q):(ZZ h q o).ad=fstL (Zu h) (q+1)+o.at_:=by
 have⟨a,n,m,g,j,k,l,_⟩:=r.ob4 d f;show(Y1 (Zu h) (q+1) o.at_).1=_;rw[R8 r.lay Z0 (by rw[UO Z0,Tl h d];omega)]
def JQ(r:Rt h p){f g}(u:f∈Xg h 4 0)(w:g∈Xg h 4 0)(e:f.ad=g.ad):f=g:=by
 obtain⟨k,o,_,z,l,rfl⟩:=T9 u;obtain⟨j,q,_,y,n,rfl⟩:=T9 w;rw[Sx r Z0 l,Sx r Z0 n]at e;have a:=l;have d:=n;rw[r.obQ Z0]at a d;have⟨x,t⟩:=r.toTld.inj Z0 Z0 a d (by unfold Y7;omega);have:k=j:=Z0;subst this;rw[t]
def V0{f}:f∈(Yl h).ns↔f∈Xg h 4 0/\f.ob.gone=xh:=by
 rw[(Sd h).ns];simp
def Rt.to_nm(r:Rt h p){f}(d:f∈Xg h 4 0)(n:f.ob.gone=xh):∃i:Nat,ZY (Yl h).nm f.ad=xk (i:Int)/\(Yl h).ns[i]?=xk f:=by
 have⟨j,k⟩:=ZeP.1 ((Sd h).n2 f (V0.2 ⟨d,n⟩));obtain⟨i,rfl,g,a,l⟩:=(Sd h).n1 _ _ k;have:=JQ r (V0.1 (ZdO a)).1 d l;subst this;exact⟨i,k,a⟩
def Rt.to_live(r:Rt h p){f}(a:f∈Xg h 4 0)(d:f.ob.gone=xh){w}(q:w≠0)(n:(adr w).1=f.ad):∃i:Nat,(Yl h).toA w=i/\(Yl h).ns[i]?=xk f:=by
 have⟨i,k,l⟩:=r.to_nm a d;refine⟨i,?_,l⟩;have:ZY (Yl h).tm f.ad=xw:=by
  cases o:ZY (Yl h).tm f.ad with
  |none=>rfl
  |some t=>
   have⟨g,k1,j,u,_⟩:=(Sd h).t1 _ _ o;rw[JQ r k1 a u,d]at j;exact absurd j Z1
 unfold Vw.toA;rw[if_neg q,n,this,ZhA,k,Zec]
def Rt.to_gone(r:Rt h p){f g}(a:f∈Xg h 4 0)(o:f.ob.gone=xy)(gf:g∈Xg h 4 0)(j:g.ob.gone=xh)(q:f.ob.target=g.ad){w}(u:w≠0)(n:(adr w).1=f.ad):∃i:Nat,(Yl h).toA w=i/\(Yl h).ns[i]?=xk g:=by
 have⟨i,k,l⟩:=r.to_nm gf j;refine⟨i,?_,l⟩;have⟨t,e⟩:=ZeP.1 ((Sd h).t2 f a o);have⟨x,k1,z,y,d⟩:=(Sd h).t1 _ _ e;rw[JQ r k1 a y,q]at d;unfold Vw.toA;rw[if_neg u,n,e,Zec,<-d,k,Zec]
def Rt.live12(r:Rt h p){q}(g:q<2){o}(a:o∈obP h q):o.gone=xh:=by
 rw[r.obQ Z0]at a;have⟨w,_,d⟩:=((r.tiles (q+1) Z0).stands o a).1.word;cases f:o.gone;rfl;rw[f,if_pos rfl]at d;have:=d.1;simp at this;omega
def Rt.gos(r:Rt h p){w i j}(t:1<=i/\i<=4)(u:1<=j/\j<=4)(n:Gos h p w i j)(g:w≠0):∃(q:Nat) (o:Ob),q<4/\((q+1=i)\/(q+1=j))/\o∈obP h q/\w=2*(ZZ h q o).ad+1/\(adr w).1=(ZZ h q o).ad:=by
 obtain rfl|⟨k,o,l,f,rfl⟩:=n;exact absurd rfl g;obtain⟨q,rfl,d⟩:∃q:Nat,k=q+1/\q<4:=⟨(k-1).toNat,Z0,Z0⟩;have a:o∈obP h q:=by rw[r.obQ d];exact f
 refine⟨q,o,d,l,a,?_,?_⟩;rw[Sx r d a];rfl;rw[r.toTld.adr Z0 f,Sx r d a]
def Rt.to_any(r:Rt h p){w i j}(B:1<=i/\i<=4)(C:1<=j/\j<=4)(H:Gos h p w i j)(k:w≠0):∃(n:Nat),(Yl h).toA w=n/\n< (Yl h).ns.length:=by
 have⟨q,o,F,J,x,_,y⟩:=r.gos B C H k;have z:ZZ h q o∈Xg h 4 0:=zE x Z0 Z0;cases d:o.gone;have⟨n,l,u⟩:=r.to_live z d k y;exact⟨n,l,(ZdH.1 u).1⟩;have I:2<=q:=by
  by_cases D:q<2;rw[r.live12 D x]at d;exact absurd d Z1;omega
 have f:=x;rw[r.obQ F]at f;have⟨t,G,A,_⟩:=r.gone (q+1) Z0 o f d;have a:t∈obP h 0:=by rw[r.obQ Z0];exact G
 have⟨n,l,u⟩:=r.to_gone z d (g:=ZZ h 0 t) (zE a Z0 Z0) (r.live12 Z0 a) (by rw[Sx r Z0 a];exact A) k y;exact⟨n,l,(ZdH.1 u).1⟩
def Rt.to_in(r:Rt h p){w i j}(f:1<=i/\i<=4)(g:1<=j/\j<=4)(k:Gos h p w i j):UC (Yl h).ns.length ((Yl h).toA w)=xy:=by
 by_cases a:w=0;subst a;simp[Vw.toA,UC];omega;have⟨n,d,l⟩:=r.to_any f g k a;rw[d];simp[UC];omega
def Bs{k i w}(d:Wh h p k i w):∃a b,(1<=a/\a<=4)/\(1<=b/\b<=4)/\Gos h p w a b:=by
 unfold Wh at d;split at d;exact⟨3,4,Z0,Z0,d⟩;split at d;obtain d|d:=d;exact⟨1,2,Z0,Z0,d⟩;exact⟨3,4,Z0,Z0,d⟩;exact⟨1,2,Z0,Z0,d⟩
def Rt.view_right(r:Rt h p){d}(H:xq d<=16)(I:∀w∈d,Gos h p w 1 2):Vm.right ((Yl h).gr d)=xy:=by
 simp only[Vm.right,ZdJ,ZdR,Ze2,Vw.gr,Zek,ZdX];refine⟨⟨H,?_⟩,?_⟩;rintro _ ⟨f,C,rfl⟩;have⟨u,D⟩:=V0.1 C;obtain⟨q,o,_,P,x,rfl⟩:=T9 u;have⟨a,n,m,J,K,L,M,N,O⟩:=r.ob4 Z0 x;have e:=JP r Z0 x;simp only[SE,UH,ZdJ,ZdR,Ze2,Zek,ZeU,ZfM,ZdX];refine⟨Z0,?_⟩;rintro _ ⟨w,z,rfl⟩;have⟨j,g⟩:=Zeb z;have l:=(ZdH.1 g).1;rw[ZeU]at l;have y:(ZZ h q o).ob.ptrs=o.ptrs:=rfl;rw[y]at g l;rw[Zex Z0]at g;have t:=x;rw[r.obQ Z0]at t;have A:(Zx h (q+1))[o.at_.toNat+1+j]?=xk w:=by
  rw[Tl h Z0];simp only[ZZ]at g;rw[Zex Z0,Ze9]at g;rw[<-g];congr 1;omega
 have⟨i,k,F,G,B⟩:=Bs (r.ptr (q+1) Z0 o t D j Z0 w A);exact r.to_in F G B;rintro _ ⟨w,z,rfl⟩;exact r.to_in Z0 Z0 (I w z)
end
end
end Vm
end
section
namespace Vm
open Go
open Go.Proofs
def p4:Fn:=⟨16,[0,1,2,3,4,5,6,7,55,8,60,86,9,89,114,10],
pQ [pR [(1,pS 0 7),pV 2 pF],pC [pK 16 13 []] [pV 3 (.s 16)],pC [pK 17 16 [.mm 1 0 7]] [(4,pS 17 10)],pC [pK 18 20 [.mm 4 0 10]] [pV 5 (.s 18)],pC [pK 19 15 [.mm 4 0 10]] [(6,pM (.sz (.ext (.s 19) 0) 2) 2),pV 7 (.ext (.s 19) 1)],pQ [.reg ⟨[.lt 20 [] (.bin .neq (.s 7) (pI 0)),.call 21 [(20,xh)] (.id 21) xh xh [.mm 6 0 2],.lt 22 [] (.ite (.s 20) pT (.bin .neq (.s 5) (.s 21))),.lt 23 [] (.ite (.s 22) pT (.bin .lss (.s 5) (pI 0))),.call 24 [(23,xh)] (.id 22) xh xh [.mm 4 0 10],.lt 25 [] (.ite (.s 23) pT (.bin .gtr (.s 5) (.bin .add (.bin .add (.len (.m 4 5)) (.len (.m 4 6))) (.s 24))))],[([(20,xh)],.bin .neq (.s 5) (.s 21)),([(22,xh)],.bin .lss (.s 5) (pI 0)),([(23,xh)],.bin .gtr (.s 5) (.bin .add (.bin .add (.len (.m 4 5)) (.len (.m 4 6))) (.s 24))),([(25,xh)],.bin .neq (.len (.m 6 1)) (.len (.m 4 9)))],[pV 8 (.ite (.s 25) pT (.bin .neq (.len (.m 6 1)) (.len (.m 4 9))))]⟩] (.cond (.s 8) (pQ [pR [pV 2 pF]] .ret) .skip),pQ [pR [pV 9 (pI 0)]] (.block 0 (.loop [0,1,2,3,4,5,6,7,8,9] (pQ [pQ [pR [pV 10 (.bin .lss (.s 9) (.len (.m 4 9)))]] (.cond (.s 10) .skip (.exit 0)),.block 1 (pQ [pQ [.reg ⟨[.lt 26 [] (.eqv xy (.bin .eql (.fld (.idx (.m 4 9) (.s 9) 1) 0) (pU 0)) (.bin .eql (.fld (.idx (.m 6 1) (.s 9) 1) 0) (pI (-1))))],[([(26,xh)],.bin .geq (.fld (.idx (.m 6 1) (.s 9) 1) 0) (.len (.m 6 0)))],[pV 11 (.ite (.s 26) pT (.bin .geq (.fld (.idx (.m 6 1) (.s 9) 1) 0) (.len (.m 6 0))))]⟩] (.cond (.s 11) (pQ [pR [pV 2 pF]] .ret) .skip),pR [pV 12 (pI 0)]] (.block 2 (.loop [0,1,2,3,4,5,6,7,8,9,10,11,12] (pQ [pQ [pR [pV 13 (.bin .lss (.s 12) (.s 9))]] (.cond (.s 13) .skip (.exit 2)),.block 3 (pQ [pR [pV 14 (.eqv xy (.bin .eql (.fld (.idx (.m 4 9) (.s 9) 1) 0) (.fld (.idx (.m 4 9) (.s 12) 1) 0)) (.bin .eql (.fld (.idx (.m 6 1) (.s 9) 1) 0) (.fld (.idx (.m 6 1) (.s 12) 1) 0)))]] (.cond (.s 14) (pQ [pR [pV 2 pF]] .ret) .skip))] (pR [pV 12 (.bin .add (.s 12) (pI 1))])))))] (pR [pV 9 (.bin .add (.s 9) (pI 1))])))),pR [(15,pM (.mm 4 0 10) 10)],pR [(15,.m [.m 15 0,.m 15 1,.m 15 2,.m 15 3,.m 15 4,.m 15 5,.m 15 6,.m 15 7,.m 15 8,.mk (.int .u64 0) (.len (.m 4 9))])],.reg ⟨[.lt 27 [] (.s 3),.call 28 [(27,xy)] (.id 20) xh xy [.mm 15 0 10]],[([(27,xy)],.bin .eql (.s 28) (pI 0))],[pV 2 (.ite (.s 27) (.bin .eql (.s 28) (pI 0)) pF)]⟩] .ret,[(2,.v)]⟩
def c4:ZK (YI Try.prog) fresh sig [.fz] [] Try.f4=xk p4:=Z2
end Vm
end
section
namespace Vm
open Go Go.Proofs
theorem LQ{P:Z5}{f:Zo}{fn:Func}{c:Code}(j:P.funcs[f]?=xk fn)(h2:fn.body=xk c)(k:UZ P c=xy):FitF (YI P) f:=⟨λg d h a=>by
 have e:(YI P).funcs[f]?=P.funcs[f]? :=rfl;rw[e,j]at h;cases h;rw[h2]at a;cases a;exact DR k⟩
def Z3H(l:Z8):NoM (.sl (l.map vi)):=.sl _ λc a=>by
 have:flat (l.map vi)=l.map vi:=VS λx d=>Zdt;rw[this]at a;obtain⟨y,_,rfl⟩:=ZdX.1 a;exact .int _ _
def Aw(g:Gr):NoM (Yj g):=(GX g).m
def GR{x:V}(h:NoM x):∀y∈[x],NoM y:=λy a=>by rw[ZeO.1 a];exact h
def zN{x z:V}(h:NoM x)(k:NoM z):∀y∈[x,z],NoM y:=λy a=>by
 simp only[Ze3,Zfj,ZgN]at a;obtain rfl|rfl:=a;exact h;exact k
def up{f:Zo}{args:Zn}{r:V}(g:VC Sol.prog f xh args r)(a:∀x∈args,NoM x)(d:NoM r):VC (YI Try.prog) f xh args r:=Gd Sol.sub g a d
def Ov{a b:Gr}(d:a.sm):VC (YI Try.prog) 18 xh [Yj a,Yj b] (.bool (decide (a=b))):=up (Ow d) (zN (Aw a) (Aw b)) (.bool _)
def vg(h:Hp):Gr:=(Yl h).gr h.roots
def ofG(h:Hp):Gr×Int:=if X5 h=xy/\right (vg h)=xy then(Xj (vg h),0)else(TP,1)
def Z40(h:Hp):QR h=.tup [Yj (ofG h).1,vi (ofG h).2]:=by
 unfold QR ofG WU vg;by_cases a:X5 h=xy;rw[if_pos a];by_cases d:right ((Yl h).gr h.roots)=xy;rw[if_pos d,if_pos ⟨a,d⟩];rw[if_neg d,if_neg λx=>d x.2];rw[if_neg a,if_neg λx=>a x.1]
def CY{h:Hp}(a:h.ok):VC (YI Try.prog) 15 xh [ZJ h] (.tup [Yj (ofG h).1,vi (ofG h).2]):=by
 rw[<-Z40];exact Oi a
instance fitLive:FitF (YI Try.prog) 20:=LQ (P:=Try.prog) Try.func20 rfl Z2
instance fitAwake:FitF (YI Try.prog) 13:=LQ (P:=Try.prog) Try.func13 rfl Z2
end Vm
end
section

end
section
namespace Vm
open Go Go.Proofs
section
def Z3I(l:List Nd):NoM (.sl (l.map Ye)):=by
 have h:=Aw ⟨l,[]⟩;unfold Yj at h;cases h with
 |agg _ h=>exact h _ Z1
def Z3J(x:Rw):NoM (Wa x):=.agg _ λc a=>by
 simp only[Ze3,Zfj,ZgN]at a;obtain rfl|rfl|rfl|rfl|rfl|rfl|rfl:=a;all_goals first|exact .int _ _|exact Z3I _|exact Z3H _
def Of{x:Rw}(hx:x.ok):VC (YI Try.prog) 16 xh [Wa x] (ZJ (UB x)):=up (Og hx) (GR (Z3J x)) (RM _)
def Z3G(g:Hp)(e:Int):NoM (.tup [ZJ g,vi e]):=.tup _ λc a=>by
 simp only[Ze3,Zfj,ZgN]at a;obtain rfl|rfl:=a;exact RM _;exact .int _ _
def O1{h:Hp}{p:Pts}(a:h.ok)(r:Rt h p):VC (YI Try.prog) 25 xh [ZJ h] (.bool xy):=by
 have:=up (Lf a) (GR (RM h)) (.bool _);rwa[r.right]at this
section
variable {h:Hp}{p:Pts}
def Rt.vg_right(r:Rt h p):Vm.right (vg h)=xy:=r.view_right r.nroots r.roots
def Rt.ofG(r:Rt h p):ofG h=(Xj (vg h),0):=if_pos ⟨r.right,r.vg_right⟩
end
instance fitViewLive:FitF (YI Try.prog) 4:=LQ (P:=Try.prog) Try.func4 rfl Z2
end
section
section
variable {h:Hp}{p:Pts}
def LW(r:Rt h p){q g:Nat}(l:q<4)(f:g<4){o k:Ob}(j:o∈obP h q)(d:k∈obP h g)(a:q≠g\/o.at_≠k.at_):(ZZ h q o).ad≠(ZZ h g k).ad:=by
 intro e;rw[Sx r l j,Sx r f d]at e;rw[r.obQ l]at j;rw[r.obQ f]at d;obtain⟨t,n⟩:=r.toTld.inj Z0 Z0 j d (by unfold Y7;omega);obtain a|a:=a;omega;rw[n]at a;exact a rfl
def EW(r:Rt h p):∀n q,q+n<=4->(Xg h n q).Pairwise λf g=>f.ad≠g.ad
 |0,q,_=>.nil
 |n+1,q,A=>by
  simp only[Xg];refine List.pairwise_append.2 ⟨?_,EW r n (q+1) Z0,λf t g u=> ?_⟩;rw[List.pairwise_map];have d:=(r.tiles ((q:Int)+1) Z0).pairwise;rw[<-r.obQ Z0]at d;exact d.imp_of_mem λj l w=>LW r Z0 Z0 j l (.inr Z0);obtain⟨o,x,rfl⟩:=ZdX.1 t;obtain⟨k,B,y,z,a,rfl⟩:=T9 u;exact LW r Z0 Z0 x a (.inl Z0)
def Z3Q(r:Rt h p){i j:Nat}{f g:Fo}(q:(Yl h).ns[i]?=xk f)(t:(Yl h).ns[j]?=xk g)(e:f.ad=g.ad):i=j:=by
 have d:(Yl h).ns.Pairwise λf g=>f.ad≠g.ad:=by
  rw[CA];exact(EW r 4 0 Z0).filter _
 have d:=List.pairwise_iff_getElem.1 d;obtain⟨k,l⟩:=ZdH.1 q;obtain⟨n,o⟩:=ZdH.1 t;obtain a|a|a:=Nat.lt_trichotomy j i;exact(d j i n k a (by rw[l,o,e])).elim;exact a.symm;exact(d i j k n a (by rw[l,o,e])).elim
end
end
section
def Uk(h:Hp)(w:Int):Int:=(ZY (Yl h).tm (adr w).1).getD (adr w).1
def Nf(h:Hp){w:Int}(a:w≠0):(Yl h).toA w=(ZY (Yl h).nm (Uk h w)).getD 0:=by
 unfold Vw.toA Uk;rw[if_neg a]
section
variable {h g:Hp}{p q:Pts}
def KR(r:Rt h p){f:Fo}(j:f∈Xg h 4 0)(k:f.ob.gone=xh){w:Int}(d:(adr w).1=f.ad):Uk h w=f.ad:=by
 have:ZY (Yl h).tm f.ad=xw:=by
  cases l:ZY (Yl h).tm f.ad with
  |none=>rfl
  |some t=>
   obtain⟨x,k1,a,n,_⟩:=(Sd h).t1 _ _ l;rw[JQ r k1 j n,k]at a;cases a
 unfold Uk;rw[d,this,ZhA]
def J5(r:Rt h p){f:Fo}(a:f∈Xg h 4 0)(k:f.ob.gone=xy){w:Int}(j:(adr w).1=f.ad):Uk h w=f.ob.target:=by
 obtain⟨t,e⟩:=ZeP.1 ((Sd h).t2 f a k);obtain⟨x,k1,n,l,d⟩:=(Sd h).t1 _ _ e;rw[JQ r k1 a l]at d;unfold Uk;rw[j,e,Zec,d]
def R6{α:Type}(R:α->α->Prop):List α->List α->Prop
 | [],[]=>True
 |a::l,b::m=>R a b/\R6 R l m
 |_,_=>False
def Dh{α:Type}{R:α->α->Prop}:∀ {l m:List α},P m=P l->(∀(j:Nat) (a b:α),l[j]?=xk a->m[j]?=xk b->R a b)->R6 R l m
 | [],[],_,_=>trivial
 |a::l,b::m,d,h=>⟨h 0 a b rfl rfl,Dh ZcW λj x y f k=>h (j+1) x y ZcY (by simpa using k)⟩
 | [],_::_,d,_=>Zdn
 |_::_,[],d,_=>Zdn
def Si(h g:Hp)(τ:Int->Int)(w w':Int):Prop:=(w=0/\w'=0)\/(w≠0/\w'≠0/\∃f∈(Yl h).ns,f.ad=Uk h w/\Uk g w'=τ f.ad)
def CR(h g:Hp)(τ:Int->Int)(f a:Fo):Prop:=a.ad=τ f.ad/\a.ob.ptrs=f.ob.ptrs/\a.sl.drop f.ob.ptrs.toNat=f.sl.drop f.ob.ptrs.toNat/\R6 (Si h g τ) (f.sl.take f.ob.ptrs.toNat) (a.sl.take f.ob.ptrs.toNat)
def SF(h g:Hp)(τ:Int->Int)(i:Int):Int:=if 0<=i then(((Yl h).ns[i.toNat]?).bind λf=>ZY (Yl g).nm (τ f.ad)).getD 0 else i
def Z7E(r:Rt h p){τ:Int->Int}{w w':Int}(t:Si h g τ w w'):(Yl g).toA w'=SF h g τ ((Yl h).toA w):=by
 obtain⟨rfl,rfl⟩|⟨k,l,f,n,d,j⟩:=t;simp[Vw.toA,SF];obtain⟨a,o⟩:=V0.1 n;obtain⟨i,k1,u⟩:=r.to_nm a o;rw[Nf h k,Nf g l,<-d,j,k1];simp[SF,u]
def Ab(r:Rt h p){τ:Int->Int}:∀ {l f:Z8},R6 (Si h g τ) l f->f.map (Yl g).toA=(l.map (Yl h).toA).map (SF h g τ)
 | [],[],_=>rfl
 |a::l,b::m,d=>by rw[Zee,Zee,Zee,Z7E r d.1,Ab r d.2]
 | [],_::_,d=>d.elim
 |_::_,[],d=>d.elim
def Nr(r:Rt h p)(s:Rt g q)(τ:Int->Int)(N:∀f∈(Yl h).ns,∃a∈(Yl g).ns,CR h g τ f a)
  (t:∀f∈(Yl h).ns,∀a∈(Yl h).ns,τ f.ad=τ a.ad->f.ad=a.ad) (B:R6 (Si h g τ) h.roots g.roots):Xj (vg g)=Xj (vg h):=by
 have key:∀x:Int,x∈order (vg h)->∃(i n:Nat) (f a:Fo),x=i/\(Yl h).ns[i]?=xk f/\(Yl g).ns[n]?=xk a/\SF h g τ x=n/\CR h g τ f a:=by
  intro x l;obtain⟨R,W⟩:=(AK r.vg_right).2 x l;have G:(vg h).nodes.length=(Yl h).ns.length:=by simp[vg,Vw.gr]
  have F:x.toNat< (Yl h).ns.length:=Z0;have D:=ZdG F;obtain⟨a,z,d⟩:=N _ (Ze0 F);generalize (Yl h).ns[x.toNat]=f at*;obtain⟨A,M⟩:=V0.1 z;obtain⟨n,k1,Q⟩:=s.to_nm A M;refine⟨x.toNat,n,f,a,Z0,D,Q,?_,d⟩;unfold SF;rw[if_pos R,D,ZdQ,<-d.1,k1];rfl
 refine(Z07 r.vg_right s.vg_right (SF h g τ) (by simp[SF]) (λx l y O e=> ?_) (λx l=> ?_) (Ab r B) λx l=> ?_).2;obtain⟨i,n,f,a,rfl,o,u,w,C⟩:=key x l;obtain⟨j,m,k,U,rfl,H,I,T,P⟩:=key y O;have:n=m:=Z0;subst this;rw[u]at I;cases I;have:=Z3Q r o H (t f (ZdO o) k (ZdO H) (C.1.symm.trans P.1));omega;obtain⟨i,n,f,a,rfl,o,u,w,C⟩:=key x l;omega;obtain⟨i,n,f,a,rfl,o,u,w,S,J,K,L⟩:=key x l;rw[w];simp only[vg,Vw.gr,outs,Ze1,ZdW,o,u,Ze4,Zec,UH,J,K,Ab r L]
def Lp{α:Type}{R:α->α->Prop}:∀ {l:List α},(∀a∈l,R a a)->R6 R l l
 | [],_=>trivial
 |a::l,h=>⟨h a Z1,Lp λx d=>h x (by simp[d])⟩
def Ur(r:Rt h p){j:Nat}(a:j<4){x:Ob}(hx:x∈p.at ((j:Int)+1)):(ZZ h j x).ad=fstL (Zu h) ((j:Int)+1)+x.at_:=Sx r a (by rw[r.obQ a];exact hx)
def WB(r:Rt h p){j:Nat}(a:j<4){x:Ob}(hx:x∈p.at ((j:Int)+1)):ZZ h j x∈Xg h 4 0:=zE (by rw[r.obQ a];exact hx) Z0 Z0
end
end
section
section
variable {h g:Hp}{p q:Pts}
def Er(r:Rt h p)(hc:h.cycle=xy)(b:Body g q)(f:Sh g q)(e:Ext h p g q):Rt g q:=by
 obtain⟨n,a⟩:=e.low;have l:P h.low<=P g.low:=by rw[a,Zes];omega
 have j:=r.scanL;have k:=r.cyc hc;refine⟨b,by rw[e.roots];exact r.nroots,by rw[e.scan];exact r.scan0,by rw[e.scan];omega,λ_=>by rw[e.scan];omega,λd=> ?_,λ_=>f,λw a=> ?_⟩;rw[e.cycle,hc]at d;cases d;rw[e.roots]at a;exact e.gos Z0 Z0 (r.roots w a)
def Ext.fstL(e:Ext h p g q){j:Int}(a:1<=j/\j<=4):Vm.fstL (Zu g) j=Vm.fstL (Zu h) j:=by
 have:=e.fst j 0 Z0;grind [Y7]
def Z3u(r:Rt h p)(hc:h.cycle=xy){k:Int}(hk:3<=k/\k<=4){o:Ob}(T:o∈p.at k)(hg:o.gone=xh){a n:Nat}(ea:o.at_=a)(en:o.size=n):
  Rt (Yg h k a (n+1)) (p.mv k o (xq h.low) (Vm.fstL (Zu h) 1+xq h.low))/\Xj (vg (Yg h k a (n+1)))=Xj (vg h):=by
 have e:=r.toBody.ext r.scanL hk T hg ea en;have s:=Er r hc (r.toBody.move r.scanL hk T hg ea en) (H9 r.toBody (r.once hc) r.scanL hk T hg ea en) e;obtain⟨m1,m2,m3,m4,m5,_⟩:=Ao h hk a (n+1);obtain⟨c1,c2,c3,c4⟩:=K9 (p:=p) hk o (xq h.low) (Vm.fstL (Zu h) 1+xq h.low);refine⟨s,?_⟩;obtain⟨C,rfl,Y⟩:∃C:Nat,k=(C:Int)+1/\C<4:=⟨(k-1).toNat,Z0,Z0⟩;obtain⟨M,O,m,c8,c9,em,d0,d8,d7⟩:=r.toTld.ob Z0 T;have:M=a:=Z0;subst this;have:O=n:=Z0;subst this;have S:(⟨xq h.low,o.size,o.ptrs,xh,0⟩:Ob)∈(p.mv ((C:Int)+1) o (xq h.low) (Vm.fstL (Zu h) 1+xq h.low)).at (((0:Nat):Int)+1):=by
  show _∈(p.mv _ _ _ _).at 1;rw[c1];exact Zgf _ (.head _)
 have b1:WO o.at_ (Vm.fstL (Zu h) 1+xq h.low) o∈(p.mv ((C:Int)+1) o (xq h.low) (Vm.fstL (Zu h) 1+xq h.low)).at ((C:Int)+1):=by
  rw[c3];exact Zfw T
 have J:∀(j:Nat) (x:Ob),j<4->x∈p.at ((j:Int)+1)->(j≠C\/x≠o)->x∈(p.mv ((C:Int)+1) o (xq h.low) (Vm.fstL (Zu h) 1+xq h.low)).at ((j:Int)+1):=by
  intro j x I D l;by_cases N:j=0;subst N;show _∈(p.mv _ _ _ _).at 1;rw[c1];exact ZeV _ D;by_cases h1:j=1;subst h1;show _∈(p.mv _ _ _ _).at 2;rw[c2];exact D;by_cases L:j=C;subst L;rw[c3];refine ZdX.2 ⟨x,D,Tb λe=> ?_⟩;obtain l|l:=l;exact l rfl;exact l (r.toTld.same_at Z0 T D e);have e7:(j:Int)+1=7- ((C:Int)+1):=Z0;rw[e7]at D⊢;rw[c4];exact D
 generalize hq:p.mv ((C:Int)+1) o (xq h.low) (Vm.fstL (Zu h) 1+xq h.low)=q at*;have Q:∀(j:Nat) (x x':Ob),j<4->x∈p.at ((j:Int)+1)->x'∈q.at ((j:Int)+1)->x'.at_=x.at_->(ZZ (Yg h ((C:Int)+1) M (O+1)) j x').ad=(ZZ h j x).ad:=by
  intro j x x' I D G e';rw[Ur s I G,Ur r I D,e.fstL Z0,e']
 have hA:=Ur r Y T;have hB:=Ur s Z0 S;rw[e.fstL Z0]at hB;obtain⟨A,P⟩:∃A,A=(ZZ h C o).ad:=⟨_,rfl⟩;obtain⟨B,a9⟩:∃B,B=Vm.fstL (Zu h) 1+xq h.low:=⟨_,rfl⟩;have a8:(ZZ (Yg h ((C:Int)+1) M (O+1)) 0 ⟨xq h.low,o.size,o.ptrs,xh,0⟩).ad=B:=by rw[hB,a9];rfl
 have R:∀(j:Nat) (x:Ob),j<4->x∈p.at ((j:Int)+1)->(j≠C\/x≠o)->(ZZ h j x).ad≠A:=by
  intro j x I D l;rw[P];refine LW r I Y (by rw[r.obQ I];exact D) (by rw[r.obQ Y];exact T) ?_;obtain l|l:=l;exact .inl l;by_cases L:j=C;subst L;exact .inr λe=>l (r.toTld.same_at Z0 T D e);exact .inl L
 have a2:∀(j:Nat) (x:Ob),j<4->x∈p.at ((j:Int)+1)->(j≠C\/x≠o)->(ZZ h j x).ad≠B:=by
  intro j x I D l;have G:=J j x I D l;rw[<-Q j x x I D G rfl,<-a8];refine LW s I Z0 (by rw[s.obQ I];exact G) (by rw[s.obQ Z0];exact S) ?_;by_cases N:j=0;subst N;obtain⟨b,_,_,eb,_,_,hb,_⟩:=r.toTld.ob (k:=((0:Nat):Int)+1) Z0 D;have:Zx h (((0:Nat):Int)+1)=h.low:=rfl;rw[this]at hb;exact .inr (by show x.at_≠(xq h.low:Int);omega);exact .inl N
 have hw:∀(j:Nat) (x:Ob),j<4->x∈p.at ((j:Int)+1)->(j≠C\/x≠o)->(ZZ (Yg h ((C:Int)+1) M (O+1)) j x).sl=(ZZ h j x).sl:=by
  intro j x I D l;obtain⟨b,c,_,eb,ec,_,hb,_⟩:=r.toTld.ob Z0 D;simp only[ZZ];rw[<-Tl _ I,<-Tl _ I];have e1:(x.at_+1).toNat=b+1:=Z0;have e2:x.size.toNat=c:=Z0;rw[e1,e2];have a7:∀i:Nat,i<b+1+c->b+1<=i->(Zx (Yg h ((C:Int)+1) M (O+1)) ((j:Int)+1))[i]?=(Zx h ((j:Int)+1))[i]? :=by
   intro i X d5;by_cases N:j=0;subst N;show(Yg h ((C:Int)+1) M (O+1)).low[i]?=h.low[i]?;have:Zx h (((0:Nat):Int)+1)=h.low:=rfl;rw[this]at hb;rw[m1,Zea Z0];by_cases h1:j=1;subst h1;show(Yg h ((C:Int)+1) M (O+1)).high[i]?=h.high[i]?;rw[m2];refine Ap hk Z0 Z0 ?_;by_cases L:j=C;subst L;rcases(r.tiles ((j:Int)+1) Z0).apart x D o T with e|e|e;obtain l|l:=l;exact(l rfl).elim;exact(l e).elim;exact .inr (.inl Z0);exact .inr (.inr Z0);exact .inl Z0
  refine ZfF λi=> ?_;simp only[Zej,Ze9];split;exact a7 _ Z0 Z0;rfl
 have b5:(ZZ (Yg h ((C:Int)+1) M (O+1)) 0 ⟨xq h.low,o.size,o.ptrs,xh,0⟩).sl=(ZZ h C o).sl:=by
  simp only[ZZ];rw[<-Tl _ Z0,<-Tl _ Y];show(((Yg h ((C:Int)+1) M (O+1)).low).drop _).take _=_;rw[m1,show((xq h.low:Int)+1).toNat=xq h.low+1 by omega,show(o.at_+1).toNat=M+1 by omega,show o.size.toNat=O by omega,ZgW,ZgG Z0,ZeA,show xq h.low+1-xq h.low=1 by omega,List.drop_drop,List.drop_take,List.take_take];congr 1;omega
 have a3:∀w i j:Int,(1<=i/\i<=4)->(1<=j/\j<=4)->Gos h p w i j->Si h (Yg h ((C:Int)+1) M (O+1)) (λx=>if x=A then B else x) w w:=by
  intro w i j X I hG;by_cases N:w=0;exact .inl ⟨N,N⟩;obtain⟨z,y,K,_,U,_,ha⟩:=r.gos X I hG N;rw[r.obQ K]at U;refine .inr ⟨N,N,?_⟩;cases H:y.gone;refine⟨ZZ h z y,V0.2 ⟨WB r K U,H⟩,(KR r (WB r K U) H ha).symm,?_⟩;by_cases a0:z=C/\y=o;obtain⟨rfl,rfl⟩:=a0;dsimp only;rw[if_pos P.symm];have:=J5 s (WB s K b1) (by show(WO _ _ _).gone=xy;rw[Uy rfl]) (w:=w) (by rw[ha,Q z y _ K T b1 (QB _ _ _).1]);rw[this];show(WO _ _ _).target=B;rw[Uy rfl,a9];have l:z≠C\/y≠o:=by
   by_cases F:z=C;exact .inr λe=>a0 ⟨F,e⟩;exact .inl F
  dsimp only;rw[if_neg (R z y K U l)];have W:=J z y K U l;have e':=Q z y y K U W rfl;rw[<-e'];exact KR s (WB s K W) H (by rw[ha,e']);have e0:2<=z:=by
   by_cases hl:z<2;have:=r.live12 hl (by rw[r.obQ K];exact U);rw[this]at H;cases H;omega
  obtain⟨t,ht,h4,_⟩:=r.gone ((z:Int)+1) Z0 y U H;have Z:t∈p.at (((0:Nat):Int)+1):=ht;have c5:t.gone=xh:=r.live12 (q:=0) Z0 (by rw[r.obQ Z0];exact Z);have b3:(ZZ h 0 t).ad=y.target:=by rw[Ur r Z0 Z,h4];rfl
  have a0:y≠o:=λe=>by rw[e,hg]at H;cases H
  refine⟨ZZ h 0 t,V0.2 ⟨WB r Z0 Z,c5⟩,?_,?_⟩;rw[J5 r (WB r K U) H ha,b3];rfl;dsimp only;rw[if_neg (R 0 t Z0 Z (.inl Z0)),b3];have W:=J z y K U (.inr a0);rw[J5 s (WB s K W) H (by rw[ha,Q z y y K U W rfl])];rfl
 refine Nr r s (λx=>if x=A then B else x) (λf hf=> ?_) (λf hf f' b9 he=> ?_) ?_;obtain⟨a4,a5⟩:=V0.1 hf;obtain⟨j,x,_,I,D,rfl⟩:=T9 a4;have c6:=D;rw[r.obQ Z0]at D;obtain⟨b,c,d,eb,ec,ed,hb,_⟩:=r.toTld.ob Z0 D;have a1:R6 (Si h (Yg h ((C:Int)+1) M (O+1)) (λx=>if x=A then B else x)) ((ZZ h j x).sl.take (ZZ h j x).ob.ptrs.toNat) ((ZZ h j x).sl.take (ZZ h j x).ob.ptrs.toNat):=Lp λw a6=>by
  obtain⟨i,X⟩:=Zeb a6;have b2:=(ZdH.1 X).1;rw[ZeU]at b2;have c0:(ZZ h j x).ob.ptrs=x.ptrs:=rfl;rw[c0]at X b2;rw[Zex Z0]at X;have d9:=JP r Z0 c6;have b4:(Zx h ((j:Int)+1))[x.at_.toNat+1+i]?=xk w:=by
   rw[Tl h Z0];simp only[ZZ]at X;rw[Zex Z0,Ze9]at X;rw[<-X];congr 1;omega
  obtain⟨u,v,hu,hv,hG⟩:=Bs (r.ptr ((j:Int)+1) Z0 x D a5 i Z0 w b4);exact a3 w u v hu hv hG
 by_cases b6:j=C/\x=o;obtain⟨rfl,rfl⟩:=b6;refine⟨ZZ _ 0 ⟨xq h.low,x.size,x.ptrs,xh,0⟩,V0.2 ⟨WB s Z0 S,rfl⟩,?_,rfl,by rw[b5],by rw[b5];exact a1⟩;dsimp only;rw[if_pos P.symm,a8];have l:j≠C\/x≠o:=by
  by_cases F:j=C;exact .inr λe=>b6 ⟨F,e⟩;exact .inl F
 have G:=J j x Z0 D l;refine⟨ZZ _ j x,V0.2 ⟨WB s Z0 G,a5⟩,?_,rfl,by rw[hw j x Z0 D l],by rw[hw j x Z0 D l];exact a1⟩;dsimp only;rw[if_neg (R j x Z0 D l),Q j x x Z0 D G rfl];obtain⟨a4,a5⟩:=V0.1 hf;obtain⟨b0,c7⟩:=V0.1 b9;obtain⟨j,x,_,I,D,rfl⟩:=T9 a4;obtain⟨j',x',_,d6,G,rfl⟩:=T9 b0;rw[r.obQ Z0]at D G
 have b7:(ZZ h j x).ad≠A->(ZZ h j x).ad≠B:=λhn=>a2 j x Z0 D (by
  by_cases F:j=C;subst F;exact .inr λe=>hn (by rw[e,P]);exact .inl F)
 have b8:(ZZ h j' x').ad≠A->(ZZ h j' x').ad≠B:=λhn=>a2 j' x' Z0 G (by
  by_cases F:j'=C;subst F;exact .inr λe=>hn (by rw[e,P]);exact .inl F)
 split at he<;>split at he;rename_i h1 h2;rw[h1,h2];rename_i h1 h2;exact(b8 h2 he.symm).elim;rename_i h1 h2;exact(b7 h1 he).elim;exact he;rw[m5];exact Lp λw a6=>a3 w 1 2 Z0 Z0 (r.roots w a6)
def Z14(r:Rt h p){w:Int}(A:Gos h p w 1 2\/Gos h p w 3 4):∃v g q,FwdTo h p w v g q/\Rt g q/\Xj (vg g)=Xj (vg h):=by
 obtain⟨v,g,q,f⟩:=r.toBody.forward r.scanL A;refine⟨v,g,q,f,?_⟩;obtain⟨rfl,rfl⟩|⟨k,o,a,n,y,j,x,t,u,rfl,rfl,_⟩:=f.how;exact⟨r,rfl⟩;have d:h.cycle=xy:=by
  cases d:h.cycle;obtain⟨_,B,C⟩:=r.rest d;have l:=r.tiles k Z0;have z:Zx h k=[]:=by
   have:k=3\/k=4:=Z0;obtain rfl|rfl:=this;exact B;exact C
  rw[z]at l;rw[l.nil]at j;cases j;rfl
 exact Z3u r d y j x t u
end
end
section
section
variable {h g E:Hp}{p q s:Pts}
def Z6P(r:Rt g q)(rt:Rt E s){i:Nat}{w v:Int}(hw:g.low[i]?=xk w)(W:E.low=g.low.set i v)(M:E.high=g.high)(Y:E.roots=g.roots)
  (A:∀j:Nat,j<4->∀x∈s.at ((j:Int)+1),x∈q.at ((j:Int)+1)/\fstL (Zu E) ((j:Int)+1)=fstL (Zu g) ((j:Int)+1)/\(2<=j->Zx E ((j:Int)+1)=Zx g ((j:Int)+1)))
  (hv:(v=0↔w=0)/\(w≠0->Uk g w=Uk g v)/\(v=w\/WC q.low i=xy)):Xj (vg E)=Xj (vg g):=by
 have L:∀(j:Nat) (x:Ob),j<4->x∈s.at ((j:Int)+1)->(ZZ E j x).ad=(ZZ g j x).ad:=λj x S D=>by
  obtain⟨K,h2,_⟩:=A j S x D;rw[Ur rt S D,Ur r S K,h2]
 have H:∀w i j:Int,(1<=i/\i<=4)->(1<=j/\j<=4)->Gos E s w i j->Si E g (λx=>x) w w:=by
  intro w i j N S R;by_cases J:w=0;exact .inl ⟨J,J⟩;obtain⟨z,y,G,_,F,_,B⟩:=rt.gos N S R J;have a9:=F;rw[rt.obQ G]at F;have a2:=(A z G y F).1;have T:=B.trans (L z y G F);refine .inr ⟨J,J,?_⟩;cases l:y.gone;exact⟨ZZ E z y,V0.2 ⟨WB rt G F,l⟩,(KR rt (WB rt G F) l B).symm,by rw[L z y G F];exact KR r (WB r G a2) l T⟩;have b3:2<=z:=by
   by_cases hl:z<2;have:=rt.live12 hl a9;rw[this]at l;cases l;omega
  obtain⟨t,ht,h4,_⟩:=rt.gone ((z:Int)+1) Z0 y F l;have P:t∈s.at (((0:Nat):Int)+1):=ht;have a0:(ZZ E 0 t).ad=y.target:=by rw[Ur rt Z0 P,h4];rfl
  exact⟨ZZ E 0 t,V0.2 ⟨WB rt Z0 P,rt.live12 (q:=0) Z0 (by rw[rt.obQ Z0];exact P)⟩,by rw[J5 rt (WB rt G F) l B,a0];rfl,by rw[a0];exact J5 r (WB r G a2) l T⟩
 refine(Nr rt r (λx=>x) (λf hf=> ?_) (λf hf f' b2 he=>he) ?_).symm;obtain⟨a3,U⟩:=V0.1 hf;obtain⟨j,x,_,S,D,rfl⟩:=T9 a3;have a7:=D;rw[rt.obQ Z0]at D;obtain⟨Q,_,a4⟩:=A j Z0 x D;obtain⟨b,c,d,eb,ec,ed,hb,_,b1⟩:=rt.toTld.ob Z0 D;have a5:=JP rt Z0 a7;have Z:=JP r Z0 (o:=x) (by rw[r.obQ Z0];exact Q);have I:∀(k:Hp) (n:Nat),n<c->(ZZ k j x).sl[n]?=(Zx k ((j:Int)+1))[x.at_.toNat+1+n]? :=λk n O=>by
  rw[Tl k Z0];simp only[ZZ];rw[Zex Z0,Ze9];congr 1;omega
 have a1:∀n:Nat,n<c->(ZZ E j x).sl[n]?=(ZZ g j x).sl[n]? \/(j=0/\x.at_.toNat+1+n=i/\(ZZ E j x).sl[n]?=xk v/\(ZZ g j x).sl[n]?=xk w):=λn O=>by
  rw[I E n O,I g n O];by_cases h2:2<=j;exact .inl (by rw[a4 h2]);by_cases K:j=1;subst K;exact .inl (by show E.high[_]?=g.high[_]?;rw[M]);have J:j=0:=Z0;subst J;show E.low[_]?=g.low[_]? \/(_/\_/\E.low[_]?=xk v/\g.low[_]?=xk w);rw[W];by_cases N:x.at_.toNat+1+n=i;have:=(ZdH.1 hw).1;exact .inr ⟨rfl,N,by rw[N,Zfe this],by rw[N,hw]⟩;exact .inl (by rw[ZeS (λe=>N e.symm)])
 have X:(ZZ E j x).ob.ptrs=x.ptrs:=rfl;refine⟨ZZ g j x,V0.2 ⟨WB r Z0 Q,U⟩,(L j x Z0 D).symm,rfl,?_,Dh (by simp only[ZeU,a5,Z]) λn a b' B C=> ?_⟩;refine ZfF λn=> ?_;rw[Ze9,Ze9,X];by_cases O:x.ptrs.toNat+n<c;obtain e|⟨rfl,N,e1,e2⟩:=a1 _ O;exact e.symm;obtain e|e:=hv.2.2;rw[e1,e2,e];obtain⟨o,ho,g1,g2⟩:=Rz.1 e;have t1:=r.tiles 1 Z0;have a8:x∈q.low:=Q;obtain⟨oa,on,_,ea,en,em,_,_,b0⟩:=r.toTld.ob (k:=1) Z0 ho;obtain K|K|K:=t1.apart x a8 o ho;subst K;omega;omega;omega;rw[ZeJ Z0,ZeJ Z0];rw[X]at B C;have O:n<x.ptrs.toNat:=by
  have:=(ZdH.1 B).1;rw[ZeU]at this;omega
 rw[Zex O]at B C;have R:Si E g (λx=>x) a a:=by
  obtain⟨u,t,hu,ht,R⟩:=Bs (rt.ptr ((j:Int)+1) Z0 x D U n Z0 a (by rw[<-I E n Z0];exact B));exact H a u t hu ht R
 obtain e|⟨_,_,e1,e2⟩:=a1 n Z0;rw[B,C]at e;cases e;exact R;rw[B]at e1;rw[C]at e2;cases e1;cases e2;obtain⟨g1,_⟩|⟨g1,_,fo,k1,k2,k3⟩:=R;exact .inl ⟨g1,hv.1.1 g1⟩;exact .inr ⟨g1,λe=>g1 (hv.1.2 e),fo,k1,k2,by rw[hv.2.1 (λe=>g1 (hv.1.2 e))];exact k3⟩;rw[Y];exact Lp λw a6=>H w 1 2 Z0 Z0 (rt.roots w (by rw[Y];exact a6))
def Z6C(r:Rt h p)(hc:h.cycle=xy){t:Pts}(S:ScanTo h p g t):Xj (vg g)=Xj (vg h):=by
 obtain⟨i,w,v,f,s,hi,H,eq,M,B,Z⟩:=S.via;obtain⟨a,I,hv,o⟩:Rt f s/\f.low[i]?=xk w/\((v=0↔w=0)/\(w≠0->Uk f w=Uk f v)/\(v=w\/WC s.low i=xy))/\Xj (vg f)=Xj (vg h):=by
  obtain⟨rfl,rfl,rfl⟩|⟨hp,C,F⟩:=Z;exact⟨r,H,⟨ZfA,λ_=>rfl,.inl rfl⟩,rfl⟩;have a:=Er r hc F.body (F.once (r.once hc)) F.ext;have D:=(ZdH.1 H).1;obtain⟨ws,J⟩:=F.ext.low;obtain⟨v',g',a0,⟨W,_⟩,_,A⟩:=Z14 r C;have e:=F.fwd.symm.trans W;simp only[ZdU]at e;obtain⟨rfl,rfl,_⟩:=e;refine⟨a,by rw[J,Zea D];exact H,⟨F.zero,λX=> ?_,.inr hp⟩,A⟩;obtain⟨_,rfl,_⟩|⟨rfl,_⟩|⟨k,x,hk,d,R,L,e2⟩:=F.res;rfl;exact absurd rfl X;obtain⟨z,rfl,O⟩:∃z:Nat,k=(z:Int)+1/\z<4:=⟨(k-1).toNat,Z0,Z0⟩;obtain⟨y,N,T,_⟩:=a.gone _ Z0 x d L;have l:y∈s.at (((0:Nat):Int)+1):=N;have P:(adr w).1=(ZZ f z x).ad:=by
   obtain⟨_,_,_,ea,_⟩:=a.toTld.ob Z0 d;rw[Ur a O d,R,U3 a.lay Z0]
  have Q:(adr v).1=(ZZ f 0 y).ad:=by
   have U:v=Y7 (Zu f) 1 y.at_:=by unfold Y7;omega
   rw[Ur a Z0 l,U,U3 a.lay (a.toTld.low_at N).1];rfl
  rw[J5 a (WB a O d) L P,KR a (WB a Z0 l) (a.live12 (q:=0) Z0 (by rw[a.obQ Z0];exact l)) Q,Ur a Z0 l];exact T
 rw[<-o];have Y:g.low=f.low.set i v/\g.high=f.high/\g.roots=f.roots/\(g.cycle=xy->Zu g=Zu f/\g.old=f.old/\g.far=f.far)/\∀j:Nat,j<2->fstL (Zu g) ((j:Int)+1)=fstL (Zu f) ((j:Int)+1):=by
  have G:Zu {f with low:=f.low.set i v,scan:=(i:Int)+1}=Zu f:=by unfold Zu;simp
  rw[eq];unfold YW;split;refine⟨rfl,rfl,rfl,λh=>ZcZ,λj u=> ?_⟩;rw[<-G];have:j=0\/j=1:=Z0;obtain rfl|rfl:=this<;>rfl;exact⟨rfl,rfl,rfl,λ_=>⟨G,rfl,rfl⟩,λj u=>by rw[G]⟩
 obtain⟨d1,d2,d3,d4,K⟩:=Y;refine Z6P a S.rt I d1 d2 d3 (λj u x d=> ?_) hv;cases n:g.cycle with
 |true=>
  obtain⟨l1,l2,l3⟩:=d4 n;rw[B n]at d;refine⟨d,by rw[l1],λh2=> ?_⟩;have:j=2\/j=3:=Z0;obtain rfl|rfl:=this;exact l2;exact l3
 |false=>
  have:=S.rt.empty n;have u:j=0\/j=1\/j=2\/j=3:=Z0;obtain rfl|rfl|rfl|rfl:=u;exact⟨by rw[<-show s.low=s.at (((0:Nat):Int)+1)from rfl,<-M.1];exact d,K 0 Z0,λh=>Z0⟩;exact⟨by rw[<-show s.high=s.at (((1:Nat):Int)+1)from rfl,<-M.2];exact d,K 1 Z0,λh=>Z0⟩;rw[show t.at (((2:Nat):Int)+1)=t.old from rfl,this.1]at d;cases d;rw[show t.at (((3:Nat):Int)+1)=t.far from rfl,this.2]at d;cases d
def BU(r:Rt h p):∀k,Xj (vg (Yb h k))=Xj (vg h)
 |0=>rfl
 |k+1=>by
  rw[SU];split;rename_i a;obtain⟨q,s⟩:=r.scans k;obtain⟨d,f,S⟩:=s.rt.scan a;rw[S.eq];exact(Z6C s.rt a S).trans (BU r k);exact BU r k
end
end
end Vm
end
section
namespace Vm
open Go
open Go.Proofs
def Hs:Fn:=⟨18,[0,1,2,4,5,6,7,8,9,10,11,12,13,95,14,100,113,116],
pQ [pR [(2,pS 0 7),pV 3 pF],pC [pK 18 37 []] [pV 4 (.s 18)],pC [pK 19 16 [.mm 2 0 7]] [(5,pS 19 10)],pC [pK 20 38 [.s 1,pI 60]] [pV 6 (.s 20)],pC [pK 21 39 [.mm 5 0 10,.s 6]] [(7,pM (.sz (.ext (.s 21) 0) 10) 10),pV 8 (.ext (.s 21) 1)],pC [pK 22 15 [.mm 5 0 10]] [(9,pM (.sz (.ext (.s 22) 0) 2) 2),pV 10 (.ext (.s 22) 1)],pC [pK 23 15 [.mm 7 0 10]] [(11,pM (.sz (.ext (.s 23) 0) 2) 2),pV 12 (.ext (.s 23) 1)],pQ [.reg ⟨[.lt 24 [] (.bin .neq (.s 8) (pI 0)),.lt 25 [] (.ite (.s 24) pT (.bin .neq (.s 10) (pI 0))),.lt 26 [] (.ite (.s 25) pT (.bin .neq (.s 12) (pI 0))),.call 27 [(26,xh)] (.id 25) xh xh [.mm 7 0 10],.lt 28 [] (.ite (.s 26) pT (.un .not (.s 27))),.call 29 [(28,xh)] (.id 18) xh xh [.mm 9 0 2,.mm 11 0 2],.lt 30 [] (.ite (.s 28) pT (.un .not (.s 29))),.lt 31 [] (.ite (.s 30) pT (.bin .neq (.m 7 2) (.m 5 2))),.lt 32 [] (.ite (.s 31) pT (.bin .neq (.m 7 0) (.m 5 0))),.lt 33 [] (.ite (.s 32) pT (.bin .neq (.m 7 1) (.m 5 1))),.lt 34 [] (.ite (.s 33) pT (.bin .neq (.len (.m 7 9)) (.len (.m 5 9))))],[([(24,xh)],.bin .neq (.s 10) (pI 0)),([(25,xh)],.bin .neq (.s 12) (pI 0)),([(26,xh)],.un .not (.s 27)),([(28,xh)],.un .not (.s 29)),([(30,xh)],.bin .neq (.m 7 2) (.m 5 2)),([(31,xh)],.bin .neq (.m 7 0) (.m 5 0)),([(32,xh)],.bin .neq (.m 7 1) (.m 5 1)),([(33,xh)],.bin .neq (.len (.m 7 9)) (.len (.m 5 9))),([(34,xh)],.bin .lss (.len (.m 7 5)) (.len (.m 5 5)))],[pV 13 (.ite (.s 34) pT (.bin .lss (.len (.m 7 5)) (.len (.m 5 5))))]⟩] (.cond (.s 13) (pQ [pR [pV 3 pF]] .ret) .skip),pQ [pR [pV 14 (pI 0)]] (.block 0 (.loop [0,1,2,3,4,5,6,7,8,9,10,11,12,13,14] (pQ [pQ [pR [pV 15 (.bin .lss (.s 14) (.len (.m 7 9)))]] (.cond (.s 15) .skip (.exit 0)),.block 1 (pQ [pR [pV 16 (.bin .neq (.fld (.idx (.m 7 9) (.s 14) 1) 0) (.fld (.idx (.m 5 9) (.s 14) 1) 0))]] (.cond (.s 16) (pQ [pR [pV 3 pF]] .ret) .skip))] (pR [pV 14 (.bin .add (.s 14) (pI 1))])))),pQ [pR [pV 17 (.un .not (.m 5 3))]] (.cond (.s 17) (pQ [pC [.lt 35 [] (.s 4),.call 36 [(35,xy)] (.id 40) xh xh [.mm 7 0 10,.mm 5 0 10]] [pV 3 (.ite (.s 35) (.s 36) pF)]] .ret) .skip),.reg ⟨[.lt 37 [] (.s 4),.lt 38 [(37,xy)] (.m 7 3),.lt 39 [(37,xy)] (.ite (.s 38) (.bin .eql (.m 7 4) (.bin .add (.m 5 4) (.s 6))) pF),.lt 40 [(37,xy),(39,xh)] (.un .not (.m 7 3)),.lt 41 [(37,xy),(39,xh)] (.ite (.s 40) (.bin .leq (.m 7 4) (.bin .add (.m 5 4) (.s 6))) pF)],[([(37,xy),(38,xy)],.bin .eql (.m 7 4) (.bin .add (.m 5 4) (.s 6))),([(37,xy),(39,xh),(40,xy)],.bin .leq (.m 7 4) (.bin .add (.m 5 4) (.s 6))),([(37,xy),(39,xh),(41,xy)],.bin .eql (.m 7 4) (.len (.m 7 5))),([(37,xy),(39,xh)],.ite (.s 41) (.bin .eql (.m 7 4) (.len (.m 7 5))) pF),([(37,xy)],.ite (.s 39) pT (.ite (.s 41) (.bin .eql (.m 7 4) (.len (.m 7 5))) pF))],[pV 3 (.ite (.s 37) (.ite (.s 39) pT (.ite (.s 41) (.bin .eql (.m 7 4) (.len (.m 7 5))) pF)) pF)]⟩] .ret,[(3,.v)]⟩
def DM:ZK (YI Try.prog) fresh sig [.fz,.fz] [] Try.f10=xk Hs:=Z2
def p11:Fn:=⟨25,[0,1,2,4,5,6,7,8,9,10,11,12,64,13,14,72,15,77,16,17,94,18,19,20,21],
pQ [pR [(2,pS 0 7),pV 3 pF],pC [pK 25 37 []] [pV 4 (.s 25)],pC [pK 26 16 [.mm 2 0 7]] [(5,pS 26 10)],pC [pK 27 22 [.mm 5 0 10]] [pV 6 (.bin .add (.bin .sub (.len (.m 5 5)) (.m 5 4)) (.s 27))],pC [pK 28 22 [.mm 5 0 10]] [pV 7 (.bin .add (.bin .add (.len (.m 5 5)) (.len (.m 5 6))) (.s 28))],pC [pK 29 15 [.mm 5 0 10]] [(8,pM (.sz (.ext (.s 29) 0) 2) 2),pV 9 (.ext (.s 29) 1)],pC [pK 30 39 [.mm 5 0 10,.s 6]] [(10,pM (.sz (.ext (.s 30) 0) 10) 10),pV 11 (.ext (.s 30) 1)],pQ [.reg ⟨[.lt 31 [] (.bin .neq (.s 9) (pI 0)),.lt 32 [] (.ite (.s 31) pT (.bin .neq (.s 11) (pI 0)))],[([(31,xh)],.bin .neq (.s 11) (pI 0)),([(32,xh)],.m 10 3)],[pV 12 (.ite (.s 32) pT (.m 10 3))]⟩] (.cond (.s 12) (pQ [pR [pV 3 pF]] .ret) .skip),pR [(13,pM (.mm 5 0 10) 10)],pQ [pR [pV 14 (pI 0)]] (.block 0 (.loop [0,1,2,3,4,5,6,7,8,9,10,11,12,13,14] (pQ [pQ [.reg ⟨[.lt 33 [] (.bin .lss (.s 14) (.s 6))],[([(33,xy)],.m 13 3)],[pV 15 (.ite (.s 33) (.m 13 3) pF)]⟩] (.cond (.s 15) .skip (.exit 0)),.block 1 (pQ [pR [pV 16 (pI 1)],pQ [pR [pV 17 (.bin .gtr (.len (.s 1)) (pI 0))]] (.cond (.s 17) (pC [pK 34 38 [.fld (.idx (.s 1) (.bin .rem (.s 14) (.len (.s 1))) 1) 0,pI 6]] [pV 16 (.bin .add (pI 1) (.s 34))]) .skip),pC [pK 35 39 [.mm 13 0 10,.s 16]] [(18,pM (.sz (.ext (.s 35) 0) 10) 10),pV 19 (.ext (.s 35) 1)],pQ [pR [pV 20 (.bin .neq (.s 19) (pI 0))]] (.cond (.s 20) (pQ [pR [pV 3 pF]] .ret) .skip)] (pR [(13,pM (.mm 18 0 10) 10)]))] (pR [pV 14 (.bin .add (.s 14) (pI 1))])))),pC [pK 36 15 [.mm 13 0 10]] [(21,pM (.sz (.ext (.s 36) 0) 2) 2),pV 22 (.ext (.s 36) 1)],pC [pK 37 41 [.mm 5 0 10]] [(23,pM (.sz (.ext (.s 37) 0) 10) 10),pV 24 (.ext (.s 37) 1)],.reg ⟨[.lt 38 [] (.s 4),.lt 39 [] (.ite (.s 38) (.bin .eql (.s 22) (pI 0)) pF),.lt 40 [] (.ite (.s 39) (.bin .eql (.s 24) (pI 0)) pF),.lt 41 [] (.ite (.s 40) (.un .not (.m 13 3)) pF),.call 42 [(41,xy)] (.id 40) xh xh [.mm 13 0 10,.mm 10 0 10],.lt 43 [] (.ite (.s 41) (.s 42) pF),.call 44 [(43,xy)] (.id 40) xh xh [.mm 13 0 10,.mm 23 0 10],.lt 45 [] (.ite (.s 43) (.s 44) pF),.call 46 [(45,xy)] (.id 18) xh xh [.mm 8 0 2,.mm 21 0 2],.lt 47 [] (.ite (.s 45) (.s 46) pF),.lt 48 [] (.ite (.s 47) (.bin .eql (.bin .add (.len (.m 13 7)) (.len (.m 13 8))) (pI 0)) pF),.lt 49 [] (.ite (.s 48) (.bin .leq (.bin .add (.len (.m 13 5)) (.len (.m 13 6))) (.s 7)) pF),.call 50 [(49,xy)] (.id 25) xh xh [.mm 13 0 10]],[([(38,xy)],.bin .eql (.s 22) (pI 0)),([(39,xy)],.bin .eql (.s 24) (pI 0)),([(40,xy)],.un .not (.m 13 3)),([(47,xy)],.bin .eql (.bin .add (.len (.m 13 7)) (.len (.m 13 8))) (pI 0)),([(48,xy)],.bin .leq (.bin .add (.len (.m 13 5)) (.len (.m 13 6))) (.s 7))],[pV 3 (.ite (.s 49) (.s 50) pF)]⟩] .ret,[(3,.v)]⟩
def DN:ZK (YI Try.prog) fresh sig [.fz,.fz] [] Try.f11=xk p11:=Z2
end Vm
end
section
namespace Vm
open Go Go.Proofs
def Ot(a:R7){h:Hp}{p:Pts}(d:h.ok)(r:Rt h p){k:Nat}(f:k<=9223372036854775807):VC (YI Try.prog) 39 xh [ZJ h,vi k] (.tup [ZJ (Yb h k),vi 0]):=by
 have:=Jr a d (k:=(k:Int)) ⟨Z0,Z0⟩;rw[Z5j r]at this;exact up this (zN (RM h) (.int _ _)) (Z3G _ _)
def OW(a:R7):VC (YI Try.prog) 37 xh [] (.bool xy):=up (OX a) (λx d=>by cases d) (.bool _)
def Z4C{c n:Int}(hc:Ym c)(a:0<n):VC (YI Try.prog) 38 xh [vi c,vi n] (vi (pick c n)):=up (Z4D hc a) (zN (.int _ _) (.int _ _)) (.int _ _)
def Z6x{a b:Hp}(d:a.ok):VC (YI Try.prog) 40 xh [ZJ a,ZJ b] (.bool (decide (a=b))):=up (BQ d) (zN (RM a) (RM b)) (.bool _)
instance fitScanK:FitF (YI Try.prog) 10:=LQ (P:=Try.prog) Try.func10 rfl Z2
def Z2I(H:R7){x:Rw}(hx:x.ok){k:Int}(N:Ym k):VC (YI Try.prog) 10 xh [Wa x,vi k] (.bool xy):=by
 refine ZU (P:=YI Try.prog) Try.func10 EU Z2 DM rfl ?_;simp[Hs];refine Zy (OW H) Z1 ?_;simp;have M:=Of hx;unfold Wa at M;refine Zy M Z1 ?_;obtain⟨f,Y,Q⟩:=Z1h hx;obtain⟨p,r⟩:=yL.1 (Z1i hx);generalize UB x=h at*;simp;refine Zy (Z4C N (n:=60) Z0) Z1 ?_;have l:=UK (c:=k) (n:=60) Z0;obtain⟨a,I⟩:=ZdV l.1;rw[I]at l;have k1:=Ot H f r (k:=a) Z0;obtain⟨q,s⟩:=r.scans a;have D:=KU f r a;have S:=BU r a;have B:h.cycle=xh->Yb h a=h:=λd=>J7 d a;generalize Yb h a=g at*;have w:=CY f;have y:=CY D;rw[r.ofG]at w;rw[s.rt.ofG,S]at y;have F:=O1 D s.rt;have G:=Ov (a:=Xj (vg h)) (b:=Xj (vg h)) (Z08 (ofOk f r.right).sm.gr r.vg_right);have z:=Z6x (b:=h) D;have J:=s.len;obtain⟨T,U,W⟩:=s.num;have O:=f.low;have R:=r.scanL;have K:=r.scan0;have o:=Zz (h.scan+a) Z0 Z0;have A:((xq g.low:Int)< (xq h.low:Int))=False:=Zgl Z0;simp only[ZJ,Yj,s.roots,T,U,W]at k1 w y F G z;simp[I];refine Zy k1 Z1 ?_;simp;refine Zy w Z1 ?_;simp;refine Zy y Z1 ?_;simp;refine Zy F Z1 ?_;simp;refine Zy G Z1 ?_;simp[A];refine Ji 14 (xq h.roots) (λ_=>True) Z1 Z1 trivial ?_;intro i X _;have C:=Zz ((i:Int)+1) Z0 (by have:=f.roots;omega);by_cases j:i<xq h.roots;have L:h.roots[i]?=xk h.roots[i]:=ZdG j;generalize h.roots[i]=u at*;simp[j,L,Yh L,C];have:i=xq h.roots:=Z0;subst this;cases d:h.cycle;have e:=B d;subst e;rw[d]at z;simp[d];refine Zy z Z1 ?_;simp;cases t:g.cycle;have:=s.whole t d;have:=s.scan;simp[d,t,o];omega;have:=(s.cyc t).2.1;simp[d,t,o,this]
end Vm
end
section
namespace Go.Proofs.Ytffknkhabklijaa
open Vm Go.ChangeShapes Go.WideShapes Go.ChangeAt Go.RowKit
def scanKeeps_law(xs:List V)(d:P xs=Try.f10.params.toList.length)(a:∀(i:Nat) (t:TypeId) (x:V),Try.f10.params.toList[i]?=xk t->xs[i]?=xk x->Xh Try.prog 8 t x):
  VC (YI Try.prog) 10 xh xs (.bool xy):=by
 rw[Try.params10]at d a
 match xs,d with
 | [h,j],_=>
   obtain⟨x,rfl,g⟩:=Z7H (a 0 _ h rfl rfl);obtain⟨k,rfl,f⟩:=L8 (a 1 _ j rfl rfl);exact Z2I Z6G g f
def scanKeeps_lifted(j:Os)(a:j.Started)(H:Type)(enc:TypeId×Value->H):
  ReturnsInLeavingWide {} Try.checked j 10 .any (Rows.scanKeepsSpec.pre6 enc Try.prog Try.f10 Rows.scanKeepsRow.domain xh) (Rows.scanKeepsSpec.post enc Try.prog Try.f10 xh xy xh xh):=by
 refine returnsInLeavingWide_of_change_sized (C:=Try.checked) own a Try.func10
  (ChangeSpec.witness6 (enc:=enc) (C:=Try.checked) xh ⟨#[], #[.agg #[.slice xw 0 0,.slice xw 0 0,.slice xw 0 0,.int .u64 0,.int .i64 0,.int .i64 0,.int .i64 0],.int .i64 0],[]⟩ 8 Z2 Z2 Z2 Z2) ?_
 intro W base args g gs d f k _ _ _
 exact Z1c (P:=Try.prog) Z2 (Z2J (P:=YI Try.prog) (tb:=4) 8 laidOut Z2 Z2 rfl Z2 Try.underlying4 (λH g h=>by
  rw[Try.params10]at h
  match g,h with
  | [_,_],_=>rfl) scanKeeps_law H enc W base args g gs d f k)
theorem scanKeeps_holds:Rows.ScanKeepsSaid:=
 OpenClaim.holds_of_wide_leaving 10 Try.f10 rfl rfl rfl rfl rfl rfl rfl ⟨rfl,rfl,rfl,rfl,rfl⟩ rfl rfl rfl rfl rfl Z2 Try.func10 Z2
  (Zgm Z2) (by unfold Func.isWrapper;first|(rw[if_pos ZcM];kernel_rfl)|(rw[if_neg ZcM];exact⟨rfl,rfl⟩))
  (λf a H d _=>scanKeeps_lifted f a H d)
#print axioms scanKeeps_holds
end Go.Proofs.Ytffknkhabklijaa
end
