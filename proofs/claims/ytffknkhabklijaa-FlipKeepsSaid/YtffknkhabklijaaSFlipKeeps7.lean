import Derived.Test.YtffknkhabklijaaSFlipKeeps6
set_option linter.unusedSimpArgs false
set_option linter.unusedVariables false
set_option linter.defProp false
open Option renaming some→xk,none→xw
open Bool renaming true→xy,false→xh
open List renaming length→P
open Array renaming size→U
open Go.World renaming heap→R
open List renaming length→xq
open Array renaming size→xz
open Go.World renaming heap→xj
set_option maxHeartbeats 8000000
set_option maxRecDepth 100000
theorem Zd3{p:Prop}(h:p:=by rw[cell_of_row _ _ _ _ _ _ d];rfl):p:=h
theorem ZcX{p:Prop}(h:p:=by show U (R w1)<U (R u);omega):p:=h
theorem ZdA{p:Prop}(h:p:=by simp[results,Try.results33,go_sem,y,ZW]):p:=h
def Zi1:=@List.eq_replicate_iff
section
namespace Vm
open Go Go.Proofs
section
def ON{ws:Zc}{a:Nat}:∀ {n j:Nat},j<n->a+n<=P ws->(zr ws a n)[a+j]?=xk 0
 |0,_,h,_=>Z0
 |n+1,j,h,d=>by
  rw[zr];by_cases e:j=n;subst e;rw[ZfD (by rw[qV];omega)];rw[Zf4 Z0];exact ON Z0 Z0
def Stands.app{ws r:Zc}{old:Bool}{o:Ob}(s:Stands ws old o):Stands (ws++r) old o:=by
 have l:=YM.1 s.shape;have g:=s.fits;have k:=s.nat;have f:(ws++r)[o.at_.toNat]?=ws[o.at_.toNat]? :=Zeq Z0;refine⟨s.nat,s.shape,ZcP,Qi λj w d=> ?_,by rw[f];exact s.word⟩;have a:j<o.size.toNat:=by
  have:=(ZdQ.1 d).1;simp at this;omega
 rw[ZeQ a,Zep,Zeq Z0]at d;refine qG s.slots j w ?_;simp_all
def Tiles.append{ws r:Zc}{old:Bool}:∀ {a:Nat} {l d:Zn},Tiles ws old a l->a<=P ws->Tiles (ws++r) old (P ws) d->Tiles (ws++r) old a (l++d)
 |a,[],d,h,g,f=>by
  have:P ws<=a:=h;have:a=P ws:=Z0;subst this;exact f
 |a,o::l,d,h,g,f=>by
  have k:=YM.1 h.2.1.shape;have j:=h.2.1.fits;have e:=h.1;exact⟨h.1,h.2.1.app,Tiles.append h.2.2 Z0 f⟩
theorem Tiles.map{ws d:Zc}{old:Bool}{f:Ob->Ob}(g:∀o,(f o).at_=o.at_/\(f o).size=o.size)(j:P d=P ws):∀ {a:Nat} {l:Zn},Tiles ws old a l->(∀o∈l,Stands d old (f o))->Tiles d old a (l.map f)
 |a,[],h,_=>by show P d<=a;rw[j];exact h
 |a,o::l,h,k=>⟨by rw[(g o).1];exact h.1,k o (.head _),by rw[(g o).2];exact Tiles.map g j h.2.2 λx n=>k x (.tail _ n)⟩
def VI(a t:Int)(q:Ob):Ob:=if q.at_=a then {q with gone:=xy,target:=t}else q
theorem JZ(a t:Int)(q:Ob):(VI a t q).at_=q.at_/\(VI a t q).size=q.size/\(VI a t q).ptrs=q.ptrs:=by
 unfold VI;grind
theorem Tk{a t:Int}{q:Ob}(h:q.at_≠a):VI a t q=q:=if_neg h
theorem Tj{a t:Int}{q:Ob}(h:q.at_=a):VI a t q= {q with gone:=xy,target:=t}:=if_pos h
def Pts.mv(p:Pts)(k:Int)(o:Ob)(L:Nat)(t:Int):Pts:=⟨p.low++[⟨L,o.size,o.ptrs,xh,0⟩],p.high,if k=3 then p.old.map (VI o.at_ t)else p.old,if k=3 then p.far else p.far.map (VI o.at_ t)⟩
section
variable {h:Hp}{p:Pts}
def Kn{k:Int}(a:3<=k/\k<=4)(o:Ob)(L:Nat)(t:Int):(p.mv k o L t).at 1=p.low++[⟨L,o.size,o.ptrs,xh,0⟩]/\(p.mv k o L t).at 2=p.high/\(p.mv k o L t).at k=(p.at k).map (VI o.at_ t)/\(p.mv k o L t).at (7-k)=p.at (7-k):=by
 have:k=3\/k=4:=Z0;obtain rfl|rfl:=this<;>exact⟨rfl,rfl,rfl,rfl⟩
def Z3S{k:Int}(d:3<=k/\k<=4){o:Ob}{L:Nat}{t:Int}{j:Int}(w:1<=j/\j<=4){q:Ob}(x:q∈p.at j):∃a∈(p.mv k o L t).at j,a.at_=q.at_/\a.size=q.size/\a.ptrs=q.ptrs/\(a.gone=xh->a=q)/\(j<3->a=q):=by
 obtain⟨l,n,r,u⟩:=Kn (p:=p) d o L t;by_cases f:j=1;subst f;exact⟨q,ZcO,rfl,rfl,rfl,λ_=>rfl,λ_=>rfl⟩;by_cases g:j=2;subst g;exact⟨q,ZcO,rfl,rfl,rfl,λ_=>rfl,λ_=>rfl⟩;by_cases y:j=k;grind [VI,List.mem_map_of_mem,JZ,Tj,Tk];grind
def Z3R{g:Hp}{k:Int}(f:3<=k/\k<=4){o:Ob}{L:Nat}{t:Int}(r:∀j b,ZT (Zv g) j b=ZT (Zv h) j b){w i j:Int}(x:1<=i/\i<=4)(y:1<=j/\j<=4)(d:X5 h p w i j):X5 g (p.mv k o L t) w i j:=by
 obtain rfl|⟨m,q,l,n,rfl⟩:=d;exact .inl rfl;obtain⟨u,a,e,_⟩:=Z3S (p:=p) f (o:=o) (L:=L) (t:=t) (j:=m) Z0 n;exact .inr ⟨m,u,l,a,by rw[r,e]⟩
def OG{l:Zn}{o:Ob}{t:Int}(d:l.Pairwise λx y=>x.at_<y.at_)(a:o∈l)(j:o.gone=xh):Ys (l.map (VI o.at_ t))+(1+o.size.toNat)=Ys l:=by
 induction l with
 |nil=>simp at a
 |cons x l g=>
  rw[Zho]at d;simp only[Ys,Zeb,Zig]at g⊢;obtain rfl|a:=Zec.1 a
  .have:l.map (VI o.at_ t)=l:=by
    conv=>rhs;rw[<-Zic l]
    refine Zfc λy f=>Tk ?_;have:=d.1 y f;omega
   rw[this,Tj rfl];grind [WX]
  grind [Tk]
def Body.move(r:Body h p)(b5:h.scan<=xq h.low){k:Int}(G:3<=k/\k<=4){o:Ob}(N:o∈p.at k)(Y:o.gone=xh){a n:Nat}(X:o.at_=a)(L:o.size=n):
  Body (YJ h k a (n+1)) (p.mv k o (xq h.low) (ZB (Zv h) 1+xq h.low)):=by
 obtain⟨B,D,m,a6,a8,em,I,b2,b1⟩:=r.toTld.ob (k:=k) Z0 N;have:B=a:=Z0;subst this;have:D=n:=Z0;subst this;obtain⟨_,hm⟩:=r.fwd_wait G N Y X L;obtain⟨m1,m2,m3,m4,m5,m6,m7,m8,m9,b7⟩:=B5 h G B (D+1);have W:=B3 G (g:=h) I;have mr:=Z3M r.lay G I hm;have hr:=Z61 G I;have hw:∀ {j:Int} {b:Nat},3<=j/\j<=4->(j≠k\/b<B\/B+(D+1)<=b)->(Zx (YJ h k B (D+1)) j)[b]?=(Zx h j)[b]? :=λC hb=>Ho G Z0 C hb;have M:∀ {j:Int},3<=j/\j<=4->xq (Zx (YJ h k B (D+1)) j)=xq (Zx h j):=λC=>B4 G C;have P:ZB (Zv (YJ h k B (D+1))) 1=ZB (Zv h) 1:=by rw[W];rfl
 have T:∀i,i<D+1->(((Zx h k).take (B+(D+1))).drop B)[i]?=(Zx h k)[B+i]? :=λi z=>by
  simp_all
 have a3:xq (((Zx h k).take (B+(D+1))).drop B)=D+1:=ZcP;obtain⟨e1,e2,e3,e4⟩:=Kn (p:=p) G o (xq h.low) (ZB (Zv h) 1+xq h.low);have H:=((r.tiles k Z0).stands o N).1;obtain⟨u,hu,hc⟩:=H.word;rw[if_neg (by simp[Y])]at hc;rw[X,Zee]at hu;generalize b0:YJ h k B (D+1)=g at*;generalize a5:((Zx h k).take (B+(D+1))).drop B=ws at*;have a0:∀q∈p.at k,q.at_≠o.at_->∀i:Nat,(i:Int)<=q.size->q.at_.toNat+i<B\/B+(D+1)<=q.at_.toNat+i:=by
  intro q d Q i z;obtain⟨b,l,_,eb,el,_⟩:=r.toTld.ob (k:=k) Z0 d;rcases(r.tiles k Z0).apart q d o N with e|e|e;simp_all;left;omega;omega
 have F:∀q∈p.at k,q.at_≠o.at_->∀i:Nat,(i:Int)<=q.size->(Zx g k)[q.at_.toNat+i]?=(Zx h k)[q.at_.toNat+i]? :=λq d Q i z=>hw G (.inr (a0 q d Q i z));have Z:∀b,(Zx g (7-k))[b]?=(Zx h (7-k))[b]? :=λb=>hw Z0 (.inl Z0);have R:Stands (h.low++ws) xh ⟨xq h.low,o.size,o.ptrs,xh,0⟩:=by
  refine⟨Z1,H.shape,ZcP,Qi λj w C=>⟨Z1,λS=> ?_⟩,u,?_,?_⟩;have J:j<D:=by
   have:=(ZdQ.1 C).1;simp[L]at this;omega
  simp only[L,Zee]at C;rw[ZeQ J,Zep,Zef Z0,show xq h.low+1+j-xq h.low=1+j by omega,T _ Z0]at C;refine(qG H.slots j w ?_).2 S;rw[X,L,Zee,Zee,ZeQ J,Zep,<-C,Zf5];simp only[Zee];grind;grind
 have a4:=WG r.lay 1;refine⟨⟨mr,λj C=> ?_⟩,λj C q d A=> ?_,λj C q d A i z w f=> ?_,?_⟩;by_cases j1:j=1;subst j1;rw[e1];simp only[Tw,m1];exact(r.tiles 1 Z0).append (ZeJ _) ⟨rfl,R,by show xq (h.low++ws)<=_;simp[L,a3];omega⟩;by_cases j2:j=2;subst j2;rw[e2];simp only[Ja,m2];exact r.tiles 2 Z0;by_cases U:j=k;subst U;rw[e3];refine(r.tiles j Z0).map (λq=>⟨(JZ _ _ q).1,(JZ _ _ q).2.1⟩) (M G) λq d=> ?_;by_cases e:q.at_=o.at_;have:q=o:=r.toTld.same_at Z0 N d e;subst this;rw[Tj rfl];refine⟨H.nat,H.shape,ZcN,Qi λi w z=> ?_,ZT (Zv h) 1 (xq h.low),?_,?_⟩;have J:i<D:=by
  have:=(ZdQ.1 z).1;simp[L]at this;omega
 simp only[X,L,Zee]at z;rw[ZeQ J,Zep,m3,Zf4 Z0,Zf5,ON Z0 I]at z;cases z;exact⟨λ_=>rfl,λ_=>rfl⟩;grind [Int.toNat_natCast,List.getElem?_set_self,qV];simp only[ZeA];rw[T9 r.lay Z0];grind;rw[Tk e];refine((r.tiles j Z0).stands q d).1.congr (M G) (by simpa using F q d e 0 (by have:=YM.1 ((r.tiles j Z0).stands q d).1.shape;omega)) λi z=>.inl ?_;rw[Zf5];exact F q d e (1+i) Z0;have:j=7-k:=Z0;subst this;rw[e4,m4];exact r.tiles (7-k) Z0;by_cases U:j=k;subst U;rw[e3,Ze4]at d;obtain⟨x,O,rfl⟩:=d;by_cases e:x.at_=o.at_;have:x=o:=r.toTld.same_at Z0 N O e;subst this;rw[Tj rfl];exact⟨_,ZfZ _ (.head _),by rw[P],rfl,rfl⟩;rw[Tk e]at A⊢;obtain⟨y,hy,y1,y2,y3⟩:=r.gone j C x O A;exact⟨y,Zfh _ hy,Z0,y2,y3⟩;have:j=7-k:=Z0;subst this;rw[e4]at d;obtain⟨y,hy,y1,y2,y3⟩:=r.gone _ C q d A;exact⟨y,Zfh _ hy,Z0,y2,y3⟩;have a9:∀ {w i j:Int},1<=i/\i<=4->1<=j/\j<=4->X5 h p w i j->X5 g (p.mv k o (xq h.low) (ZB (Zv h) 1+xq h.low)) w i j:=λz C=>Z3R G hr z C;have K:∀ {j:Int} {i:Nat} {w:Int},VD h p j i w->VD g (p.mv k o (xq h.low) (ZB (Zv h) 1+xq h.low)) j i w:=λ{j i w} S=>by
  unfold VD at S⊢;rw[m6];by_cases c1:2<j;grind;rw[if_neg c1]at S⊢;by_cases c2:j=1/\h.scan<=i;grind;rw[if_neg c2]at S⊢;grind
 by_cases j1:j=1;subst j1;rw[e1]at d;obtain d|d:=Zel.1 d;obtain⟨b,l,l',eb,el,a7,a1,_⟩:=r.toTld.ob (k:=1) Z0 d;simp only[Tw]at a1 f;rw[m1,Zeq Z0]at f;exact K (r.ptr 1 Z0 q d A i z w f);simp at d;subst d;simp only at z f⊢;simp only[Zee,Tw,m1]at f⊢;rw[Zef Z0,show xq h.low+1+i-xq h.low=1+i by omega,T _ Z0]at f;have:=r.ptr k Z0 o N Y i z w (by grind [Int.toNat_natCast,Nat.add_assoc]);unfold VD at this⊢;rw[if_pos Z0]at this;rw[if_neg Z0,if_pos ⟨rfl,Z0⟩];grind;by_cases j2:j=2;subst j2;rw[e2]at d;simp only[Ja,m2]at f;exact K (r.ptr 2 Z0 q d A i z w f);by_cases U:j=k;subst U;rw[e3,Ze4]at d;obtain⟨x,O,rfl⟩:=d;by_cases e:x.at_=o.at_;grind [Tj];rw[Tk e]at A z f⊢;have b3:=(YM.1 ((r.tiles j Z0).stands x O).1.shape).2.2.2;rw[Zf5,F x O e (1+i) Z0,<-Zf5]at f;exact K (r.ptr j C x O A i z w f);have:j=7-k:=Z0;subst this;rw[e4]at d;rw[m4]at f;exact K (r.ptr _ C q d A i z w f);have b4:=r.room;have b6:Wp (p.mv k o (xq h.low) (ZB (Zv h) 1+xq h.low))+(1+D)=Wp p:=by
  have h1:=(r.tiles k Z0).pairwise;have:=OG (t:=ZB (Zv h) 1+xq h.low) h1 N Y;rw[L,Zee]at this;unfold Wp;have a2:k=3\/k=4:=Z0;obtain rfl|rfl:=a2;simp only[Pts.at3]at this;simp only[Pts.mv,ZeA];omega;simp only[Pts.at4]at this;simp only[Pts.mv,show ¬(4:Int)=3 by omega,Zex];omega
 grind
end
end
section
def Qs(h:Hp)(p:Pts):Prop:=∀o∈p.low,UB p (ZB (Zv h) 1+o.at_)=1
section
variable {h g:Hp}{p q:Pts}
def Z7R{l:Zn}{o:Ob}{t b:Int}(d:l.Pairwise λx y=>x.at_<y.at_)(a:o∈l)(j:o.gone=xh):X2 (l.map (VI o.at_ t)) b=X2 l b+if t=b then 1 else 0:=by
 induction l with
 |nil=>simp at a
 |cons x l k=>
  rw[Zho]at d;have e:∀(y:Ob) (r:Zn),X2 (y::r) b=(if y.gone=xy/\y.target=b then 1 else 0)+X2 r b:=λy r=>by
   unfold X2;grind
  rw[Zeb,e,e];obtain rfl|a:=Zec.1 a
  .have:l.map (VI o.at_ t)=l:=by
    conv=>rhs;rw[<-Zic l]
    refine Zfc λy f=>Tk ?_;have:=d.1 y f;omega
   rw[this,Tj rfl];grind
  grind [Tk]
def Z7S(r:Body h p){b:Int}(t:P h.low<=b):UB p (ZB (Zv h) 1+b)=0:=by
 have key:∀k:Int,3<=k/\k<=4->X2 (p.at k) (ZB (Zv h) 1+b)=0:=λk d=>by
  unfold X2;rw[Zfx,ZhO];intro o f a;simp only[ZdS,Ze9]at a;obtain⟨y,j,e,_⟩:=r.gone k d o f a.1;have:=r.toTld.low_at j;omega
 have l:=key 3 Z0;have n:=key 4 Z0;simp_all[Pts.at3,Pts.at4,UB]
def Z7P(r:Body h p){k:Int}(l:3<=k/\k<=4){o:Ob}(j:o∈p.at k)(f:o.gone=xh){L:Nat}{t b:Int}:UB (p.mv k o L t) b=UB p b+if t=b then 1 else 0:=by
 have d:=Z7R (t:=t) (b:=b) (r.tiles k Z0).pairwise j f;unfold UB;have a:k=3\/k=4:=Z0;obtain rfl|rfl:=a;simp only[Pts.at3]at d;simp only[Pts.mv,ZeA];omega;simp only[Pts.at4]at d;simp only[Pts.mv,show ¬(4:Int)=3 by omega,Zex];omega
structure Ext (h:Hp) (p:Pts) (g:Hp) (q:Pts):Prop where
 low:∃ws,g.low=h.low++ws
 high:g.high=h.high
 base:g.base=h.base
 cap:g.cap=h.cap
 tos:g.to=h.to
 cycle:g.cycle=h.cycle
 scan:g.scan=h.scan
 roots:g.roots=h.roots
 oldL:P g.old=P h.old
 farL:P g.far=P h.far
 obsL:∃r,q.low=p.low++r
 obsH:q.high=p.high
 obsO:∀k:Int,3<=k/\k<=4->(q.at k).map (λo=>(o.at_,o.size,o.ptrs))=(p.at k).map (λo=>(o.at_,o.size,o.ptrs))
 gone:∀k:Int,3<=k/\k<=4->∀(i:Nat) (o o':Ob),(p.at k)[i]?=xk o->(q.at k)[i]?=xk o'->(o.gone=xy->o'=o)/\(o'.gone=xh->o'=o/\∀j:Nat,(j:Int)<=o.size->(Zx g k)[o.at_.toNat+j]?=(Zx h k)[o.at_.toNat+j]?)
 room:(P g.low:Int)+Wp q=P h.low+Wp p
def Ext.refl(h:Hp)(p:Pts):Ext h p h p:=
 ⟨⟨[],Z1⟩,rfl,rfl,rfl,rfl,rfl,rfl,rfl,rfl,rfl,⟨[],Z1⟩,rfl,λ_ _=>rfl,λk f i o j a d=>ZcO,rfl⟩
theorem Ext.trans{f:Hp}{s:Pts}(a:Ext h p g q)(b:Ext g q f s):Ext h p f s:=by
 obtain⟨w1,y⟩:=a.low;obtain⟨w2,z⟩:=b.low;obtain⟨H,A⟩:=a.obsL;obtain⟨I,B⟩:=b.obsL;refine⟨⟨w1++w2,by rw[z,y,ZeH]⟩,b.high.trans a.high,b.base.trans a.base,b.cap.trans a.cap,b.tos.trans a.tos,b.cycle.trans a.cycle,b.scan.trans a.scan,b.roots.trans a.roots,b.oldL.trans a.oldL,b.farL.trans a.farL,⟨H++I,by rw[B,A,ZeH]⟩,b.obsH.trans a.obsH,λk d=>(b.obsO k d).trans (a.obsO k d),λk d i o r t C=> ?_,b.room.trans a.room⟩;have K:P (q.at k)=P (p.at k):=by have:=ZeY List.length (a.obsO k d);simpa using this
 have J:=(ZdQ.1 t).1;have n:(q.at k)[i]?=xk ((q.at k)[i]'Z0):=ZdO _;generalize (q.at k)[i]'Z0=w at n;obtain⟨x,c2⟩:=a.gone k d i o w t n;obtain⟨d1,d2⟩:=b.gone k d i w r n C;refine⟨λl=> ?_,λl=> ?_⟩;have:=x l;subst this;exact d1 l;obtain⟨k1,D⟩:=d2 l;subst k1;obtain⟨F,G⟩:=c2 l;subst F;exact⟨rfl,λj u=>(D j u).trans (G j u)⟩
def Ext.fst(e:Ext h p g q)(k a:Int)(d:k=1\/k=3\/k=4\/k=2):ZT (Zv g) k a=ZT (Zv h) k a:=by
 unfold ZT ZB Zv;simp only[e.base,e.cap,e.tos,e.high,e.farL]
def Ext.mem(e:Ext h p g q){j:Int}(l:1<=j/\j<=4){o:Ob}(f:o∈p.at j):∃a∈q.at j,a.at_=o.at_/\a.size=o.size/\a.ptrs=o.ptrs:=by
 have d:j=1\/j=2\/j=3\/j=4:=Z0;obtain rfl|rfl|k:=d;obtain⟨r,n⟩:=e.obsL;exact⟨o,ZcO,rfl,rfl,rfl⟩;exact⟨o,by show o∈q.high;rw[e.obsH];exact f,rfl,rfl,rfl⟩;have:=e.obsO j Z0;grind [List.mem_map_of_mem,Prod.mk.injEq]
def Ext.gos(e:Ext h p g q){w i j:Int}(t:1<=i/\i<=4)(u:1<=j/\j<=4)(l:X5 h p w i j):X5 g q w i j:=by
 obtain rfl|⟨m,o,f,n,rfl⟩:=l;exact .inl rfl;have a:1<=m/\m<=4:=by obtain rfl|rfl:=f<;>assumption
 obtain⟨r,d,k,_⟩:=e.mem a n;exact .inr ⟨m,r,f,d,by rw[e.fst _ _ Z0,k]⟩
theorem Body.ext(r:Body h p)(T:h.scan<=xq h.low){k:Int}(f:3<=k/\k<=4){o:Ob}(y:o∈p.at k)(H:o.gone=xh){a n:Nat}(ea:o.at_=a)(P:o.size=n):
  Ext h p (YJ h k a (n+1)) (p.mv k o (xq h.low) (ZB (Zv h) 1+xq h.low)):=by
 obtain⟨u,z,m,O,Q,em,B,S,R⟩:=r.toTld.ob (k:=k) Z0 y;have:u=a:=Z0;subst this;have:z=n:=Z0;subst this;obtain⟨X,Y,m3,m4,Z,m6,m7,m8,m9,F⟩:=B5 h f u (z+1);obtain⟨L,M,N,e4⟩:=Kn (p:=p) f o (xq h.low) (ZB (Zv h) 1+xq h.low);have U:(YJ h k u (z+1)).old.length=xq h.old:=B4 (j:=3) f Z0;have W:(YJ h k u (z+1)).far.length=xq h.far:=B4 (j:=4) f Z0;refine⟨⟨_,X⟩,Y,m9,m8,F,m7,m6,Z,U,W,⟨_,L⟩,M,λj I=> ?_,λj I i x x' w A=> ?_,?_⟩;by_cases K:j=k;simp_all[ZfY,Zfc,JZ,ZB,Zv,Function.comp];have:j=7-k:=Z0;simp_all;by_cases K:j=k;subst K;rw[N,Zed,w]at A;simp at A;subst A;have d:=ZdW w;by_cases e:x.at_=o.at_;have:x=o:=r.toTld.same_at Z0 y d e;subst this;rw[Tj rfl];exact⟨λh=>(by rw[H]at h;cases h),λh=>ZcY⟩;rw[Tk e];refine⟨λ_=>rfl,λ_=>⟨rfl,λi hi=>Ho f Z0 I (.inr ?_)⟩⟩;obtain⟨b,l,_,eb,el,_⟩:=r.toTld.ob (k:=j) Z0 d;rcases(r.tiles j Z0).apart x d o y with G|G|G;simp_all;left;omega;omega;have:j=7-k:=Z0;simp_all;have w:=(r.tiles k Z0).pairwise;have D:=OG (t:=ZB (Zv h) 1+xq h.low) w y H;rw[P,Zee]at D;have J:=Z3L f B;unfold Wp;have C:k=3\/k=4:=Z0;obtain rfl|rfl:=C;simp only[Pts.at3]at D;simp only[Pts.mv,ZeA];omega;simp only[Pts.at4]at D;simp only[Pts.mv,show ¬(4:Int)=3 by omega,Zex];omega
def Z4q(r:Body h p)(f:Qs h p)(j:h.scan<=P h.low){k:Int}(t:3<=k/\k<=4){o:Ob}(u:o∈p.at k)(l:o.gone=xh){a n:Nat}(w:o.at_=a)(y:o.size=n):
  Qs (YJ h k a (n+1)) (p.mv k o (P h.low) (ZB (Zv h) 1+P h.low)):=by
 have e:=r.ext j t u l w y;have z:ZB (Zv (YJ h k a (n+1))) 1=ZB (Zv h) 1:=by
  have:=e.fst 1 0 (.inl rfl);unfold ZT at this;omega
 intro x d;rw[Z7P r t u l,z];obtain d|d:=Zel.1 d;have:=r.toTld.low_at d;rw[f x d,if_neg Z0];simp_all[Z7S,Int.le_refl]
def Res(g:Hp)(q:Pts)(w v:Int):Prop:=(w=0/\v=0)\/∃k o,(k=3\/k=4)/\o∈q.at k/\w=ZT (Zv g) k o.at_/\o.gone=xy/\v=2*o.target+1
theorem Res.ext{w v:Int}(r:Res h p w v)(e:Ext h p g q):Res g q w v:=by
 obtain r|⟨k,o,t,u,j,d,l⟩:=r;exact .inl r;obtain⟨i,f⟩:=Zeg u;have x:P (q.at k)=P (p.at k):=by have:=ZeY List.length (e.obsO k Z0);simpa using this
 have n:=(ZdQ.1 f).1;have a:(q.at k)[i]?=xk ((q.at k)[i]'Z0):=ZdO _;have:=(e.gone k Z0 i o _ f a).1 d;rw[this]at a;exact .inr ⟨k,o,t,ZdW a,by rw[e.fst _ _ Z0];exact j,d,l⟩
def Z7Q{l:Zn}{a:Int}{o d:Ob}(f:o∈l)(n:d∈l)(t:o≠d)(j:o.gone=xy/\o.target=a)(k:d.gone=xy/\d.target=a):2<=X2 l a:=by
 have e:∀(y:Ob) (r:Zn),X2 (y::r) a=(if y.gone=xy/\y.target=a then 1 else 0)+X2 r a:=λy r=>by
  unfold X2;grind
 have one:∀ {l:Zn} {o:Ob},o∈l->o.gone=xy/\o.target=a->1<=X2 l a:=λ{l o} f j=>by
  unfold X2;exact ZfN.2 (List.ne_nil_of_mem (Zg8.2 ⟨f,by simp[j]⟩))
 induction l with
 |nil=>simp at f
 |cons x l u=>
  grind
theorem Res.inj(r:Body h p)(A:Qs h p){w w' v:Int}(a:Res h p w v)(b:Res h p w' v):w=w':=by
 have nz:∀ {k:Int} {o:Ob},(k=3\/k=4)->o∈p.at k->o.gone=xy->∃y∈p.low,o.target=ZB (Zv h) 1+y.at_:=λn j G=>by
  obtain⟨y,H,e,_⟩:=r.gone _ Z0 _ j G;grind
 obtain⟨rfl,rfl⟩|⟨k,o,n,j,M,t,N⟩:=a;obtain⟨rfl,_⟩|⟨I,D,f,d,J,u,K⟩:=b;rfl;omega;obtain⟨rfl,rfl⟩|⟨I,D,f,d,J,u,K⟩:=b;omega;have C:D.target=o.target:=Z0;obtain⟨y,H,e⟩:=nz n j t;have F:=A y H;rw[<-e]at F;unfold UB at F;by_cases z:k=I;subst z;by_cases B:o=D;simp_all;have:=Z7Q j d B ⟨t,rfl⟩ ⟨u,C⟩;obtain rfl|rfl:=n;grind [Pts.at3];grind [Pts.at4];have one:∀ {l:Zn} {x:Ob} {a:Int},x∈l->x.gone=xy->x.target=a->1<=X2 l a:=λ{l x a} L G C=>by
  unfold X2;exact ZfN.2 (List.ne_nil_of_mem (Zg8.2 ⟨L,ZcN⟩))
 have O:=one j t rfl;have P:=one d u C;obtain rfl|rfl:=n<;>obtain rfl|rfl:=f
 omega;grind [Pts.at3,Pts.at4];grind [Pts.at3,Pts.at4];omega
structure FwdTo (h:Hp) (p:Pts) (w v:Int) (g:Hp) (q:Pts):Prop where
 fwd:fwd h w=(v,g,0)
 body:Body g q
 once:Qs h p->Qs g q
 ext:Ext h p g q
 tgo:X5 g q v 1 2
 zero:v=0↔w=0
 res:(X5 h p w 1 2/\v=w/\g=h/\q=p)\/Res g q w v
 how:(g=h/\q=p)\/∃(k:Int) (o:Ob) (a n:Nat),(3<=k/\k<=4)/\o∈p.at k/\o.gone=xh/\o.at_=a/\o.size=n/\g=YJ h k a (n+1)/\q=p.mv k o (P h.low) (ZB (Zv h) 1+P h.low)/\v=ZT (Zv h) 1 (P h.low)
def Body.forward(r:Body h p)(l:h.scan<=P h.low){w:Int}(K:X5 h p w 1 2\/X5 h p w 3 4):∃v g q,FwdTo h p w v g q:=by
 by_cases C:w=0;subst C;exact⟨0,h,p,Z1r r.lay,r,id,.refl h p,.inl rfl,Z1,.inr (.inl ⟨rfl,rfl⟩),.inl ⟨rfl,rfl⟩⟩;have B:∃k o,1<=k/\k<=4/\o∈p.at k/\w=ZT (Zv h) k o.at_:=by
  obtain(G|⟨k,o,f,d,e⟩)|(G|⟨k,o,f,d,e⟩):=K;omega;grind;omega;grind
 obtain⟨k,o,k1,M,d,rfl⟩:=B;by_cases H:k<=2;exact⟨_,h,p,r.fwd_here ⟨k1,H⟩ d,r,id,.refl h p,.inr ⟨k,o,Z0,d,rfl⟩,ZfL,.inl ⟨.inr ⟨k,o,Z0,d,rfl⟩,rfl,rfl,rfl⟩,.inl ⟨rfl,rfl⟩⟩;have f:3<=k/\k<=4:=Z0;cases j:o.gone;obtain⟨a,n,m,t,u,em,I,_⟩:=r.toTld.ob ⟨k1,M⟩ d;obtain⟨F,_⟩:=r.fwd_wait f d j t u;have e:=r.ext l f d j t u;have b:=r.move l f d j t u;have x:(⟨P h.low,o.size,o.ptrs,xh,0⟩:Ob)∈(p.mv k o (P h.low) (ZB (Zv h) 1+P h.low)).low:=ZfZ _ (.head _);have A:ZT (Zv h) 1 (P h.low)=ZT (Zv (YJ h k a (n+1))) 1 (P h.low):=(e.fst 1 _ (.inl rfl)).symm;exact⟨_,_,_,F,b,λz=>Z4q r z l f d j t u,e,.inr ⟨1,_,.inl rfl,x,A⟩,iff_of_false (KZ r.lay Z0) C,.inr (.inr ⟨k,_,Z0,by rw[(Kn f o _ _).2.2.1];exact ZfO d,by rw[e.fst _ _ Z0,(JZ _ _ _).1],by rw[Tj rfl],by rw[Tj rfl];rfl⟩),.inr ⟨k,o,a,n,f,d,j,t,u,rfl,rfl,rfl⟩⟩;obtain⟨y,D,e,_⟩:=r.gone k f o d j;have J:2*o.target+1=ZT (Zv h) 1 y.at_:=by unfold ZT;omega
 have L:=r.toTld.low_at D;refine⟨_,h,p,r.fwd_gone f d j,r,id,.refl h p,.inr ⟨1,y,.inl rfl,D,J⟩,?_,.inr (.inr ⟨k,o,Z0,d,rfl,j,rfl⟩),.inl ⟨rfl,rfl⟩⟩;omega
end
end
section
def YI(h:Hp):Hp:=⟨h.base,h.cap,1-h.to,xh,0,[],[],h.low,h.high,h.roots⟩
def TT(g:Hp)(i:Nat):Hp:= {(fwd g ((g.roots[i]?).getD 0)).2.1 with roots:=(fwd g ((g.roots[i]?).getD 0)).2.1.roots.set i (fwd g ((g.roots[i]?).getD 0)).1}
def Xn(g:Hp):Nat->Hp
 |0=>g
 |i+1=>TT (Xn g i) i
def YW(g:Hp):Hp:=if 0<(P g.low) then {g with cycle:=xy}else {g with cycle:=xh,old:=[],far:=[]}
def Th(h:Hp):Hp:=YW (Xn (YI h) (P h.roots))
def Vp(h:Hp):Hp×Int:=if YS h=xh then(Hp.zero,1)else if h.cycle then(Hp.zero,10)else(Th h,0)
def qc(h:Hp):Hp:=if h.cycle=xy\/YS h=xh then Hp.zero else h
def Stands.old{ws:Zc}{o:Ob}(s:Stands ws xh o):Stands ws xy o:=by
 obtain⟨w,f,a⟩:=s.word;have d:o.gone=xh:=by
  cases d:o.gone;rfl;rw[if_pos d]at a;cases a.1
 refine⟨s.nat,s.shape,s.fits,s.slots,w,f,?_⟩;rw[if_neg (by simp[d])]at a⊢;exact⟨λ_=>DO (by rw[a.2.1]),a.2⟩
def Tiles.old{ws:Zc}:∀ {a:Nat} {l:Zn},Tiles ws xh a l->Tiles ws xy a l
 |_,[],h=>h
 |_,_::_,h=>⟨h.1,h.2.1.old,Tiles.old h.2.2⟩
def qT{l:Zn}(h:∀o∈l,o.gone=xh):Ys l=TF l:=by
 have:=Z8x l;have:A8 l=0:=Z7M λo a=>by rw[h o a];rfl
 omega
def Un(p:Pts):Pts:=⟨[],[],p.low,p.high⟩
section
variable {h:Hp}{p:Pts}
def jX(h:Hp)(k a:Int)(d:k=1\/k=2):ZT (Zv (YI h)) (k+2) a=ZT (Zv h) k a:=by
 obtain rfl|rfl:=d;show 2*(h.base+(1- (1-h.to))*h.cap+a)+1=2*(h.base+h.to*h.cap+a)+1;rw[show 1- (1-h.to)=h.to by omega];show 2*(h.base+(1- (1-h.to))*h.cap+(h.cap-P h.high)+a)+1=2*(h.base+h.to*h.cap+(h.cap-P h.high)+a)+1;rw[show 1- (1-h.to)=h.to by omega]
def jV{w:Int}(d:X5 h p w 1 2):X5 (YI h) (Un p) w 3 4:=by
 obtain rfl|⟨k,o,f,a,rfl⟩:=d;exact .inl rfl;obtain rfl|rfl:=f;exact .inr ⟨3,o,.inl rfl,a,(jX h 1 _ (.inl rfl)).symm⟩;exact .inr ⟨4,o,.inr rfl,a,(jX h 2 _ (.inr rfl)).symm⟩
def Fp(r:Rt h p)(hc:h.cycle=xh):Body (YI h) (Un p):=by
 have K:=WB.1 r.lay;have l:=r.tiles 1 Z0;have q:=r.tiles 2 Z0;simp only[Tw,Ja,Pts.at1,Pts.at2]at l q;refine⟨⟨WB.2 ?_,λk x=> ?_⟩,λk x o d g=> ?_,λk x o d g j u w y=> ?_,?_⟩;have A:(Zv h).cap=h.cap:=rfl;have B:(Zv h).base=h.base:=rfl;have C:(Zv h).to=h.to:=rfl;have D:(Zv h).low=P h.low:=rfl;have F:(Zv h).high=P h.high:=rfl;simp only[Zv,YI,Zfq];omega;have f:k=1\/k=2\/k=3\/k=4:=Z0;obtain rfl|rfl|rfl|rfl:=f;exact ZdU 0;exact ZdU 0;exact l.old;exact q.old;have f:k=3\/k=4:=Z0;obtain rfl|rfl:=f;have:=l.no_gone o d;rw[g]at this;cases this;have:=q.no_gone o d;rw[g]at this;cases this;have f:k=1\/k=2\/k=3\/k=4:=Z0;obtain rfl|rfl|rfl|rfl:=f;cases d;cases d;have:=r.ptr 1 Z0 o d g j u w y;obtain⟨a,n,m,G,H,em,t,_⟩:=r.toTld.ob (k:=1) Z0 d;simp only[Tw]at t;unfold VD at this⊢;rw[if_neg Z0,if_neg (by rw[(r.rest hc).1];omega)]at this;rw[if_pos Z0];exact jV this;have:=r.ptr 2 Z0 o d g j u w y;unfold VD at this⊢;rw[if_neg Z0,if_neg Z0]at this;rw[if_pos Z0];exact jV this;have I:=l.sum (ZeJ _);have J:=q.sum (ZeJ _);have w1:=qT l.no_gone;have w2:=qT q.no_gone;have z:=r.room;simp only[Wp,Un,YI,Zfq];omega
structure FlipI (h:Hp) (p:Pts) (i:Nat) (g:Hp) (q:Pts):Prop where
 body:Body g q
 once:Qs g q
 ext:Ext (YI h) (Un p) {g with roots:=h.roots} q
 len:P g.roots=P h.roots
 rest:∀j,i<=j->g.roots[j]?=h.roots[j]?
 did:∀j:Nat,j<i->∀w v,h.roots[j]?=xk w->g.roots[j]?=xk v->X5 g q v 1 2/\Res g q w v
def Body.roots(r:Body h p)(l:Zc):Body {h with roots:=l} p:=⟨⟨r.lay,r.tiles⟩,r.gone,r.ptr,r.room⟩
def jW(r:Rt h p){i:Nat}(a:i<P h.roots){g:Hp}{q:Pts}(I:FlipI h p i g q):X5 g q h.roots[i] 3 4:=I.ext.gos (i:=3) (j:=4) Z0 Z0 (jV (r.roots _ (Ze5 a)))
def Fs(r:Rt h p){i:Nat}(y:i<xq h.roots){g:Hp}{q:Pts}(I:FlipI h p i g q){v:Int}{g':Hp}{t:Pts}(f:FwdTo g q (h.roots[i]) v g' t):FlipI h p (i+1) (TT g i) t:=by
 have B:g.roots[i]?=xk h.roots[i]:=by rw[I.rest i (ZdU _)];exact ZdO y
 have N:=jW r y I;have e:TT g i= {g' with roots:=g'.roots.set i v}:=by
  unfold TT;rw[B,Zei,f.fwd]
 have x:g'.roots=g.roots:=f.ext.roots;have l:Res g' t h.roots[i] v:=by
  obtain⟨J,C,O,P⟩|B:=f.res;obtain d|⟨k,o,R,M,D⟩:=N;exact .inl ⟨d,C.trans d⟩;obtain d|⟨S,T,L,A,F⟩:=J;exact .inl ⟨d,C.trans d⟩;obtain⟨Q,_⟩:=I.body.toTld.inj Z0 Z0 M A (D.symm.trans F);omega;exact B
 rw[e];refine⟨f.body.roots _,f.once I.once,I.ext.trans ⟨f.ext.low,f.ext.high,f.ext.base,f.ext.cap,f.ext.tos,f.ext.cycle,f.ext.scan,rfl,f.ext.oldL,f.ext.farL,f.ext.obsL,f.ext.obsH,f.ext.obsO,f.ext.gone,f.ext.room⟩,?_,λj K=> ?_,λj K w u a n=> ?_⟩;simp only[ZgG,x];exact I.len;simp only;rw[Zf4 Z0,x];exact I.rest j Z0;simp only at n;by_cases z:j=i;subst z;rw[ZfD (by rw[x,I.len];exact y)]at n;cases n;rw[ZdO y]at a;cases a;exact⟨f.tgo,l⟩;rw[Zf4 Z0,x]at n;obtain⟨G,H⟩:=I.did j Z0 w u a n;exact⟨(show X5 g' t u 1 2 from f.ext.gos Z0 Z0 G),(show Res g' t w u from H.ext f.ext)⟩
def Fr(r:Rt h p){i:Nat}(j:i<P h.roots){g:Hp}{q:Pts}(I:FlipI h p i g q):(∃v d a,FwdTo g q (h.roots[i]) v d a)/\∃a,FlipI h p (i+1) (TT g i) a/\(fwd g ((g.roots[i]?).getD 0)).2.2=0:=by
 have l:g.roots[i]?=xk h.roots[i]:=by rw[I.rest i (ZdU _)];exact ZdO j
 have k:g.scan<=P g.low:=by
  have:g.scan=0:=I.ext.scan;omega
 obtain⟨v,d,a,f⟩:=I.body.forward k (.inr (jW r j I));exact⟨⟨v,d,a,f⟩,a,Fs r j I f,by rw[l,Zei,f.fwd]⟩
def jY(r:Rt h p)(hc:h.cycle=xh):∀i,i<=P h.roots->∃q,FlipI h p i (Xn (YI h) i) q
 |0,_=>⟨Un p,Fp r hc,λo d=>(by cases d),.refl _ _,rfl,λ_ _=>rfl,λj k=>Z0⟩
 |i+1,g=>by
  obtain⟨q,I⟩:=jY r hc i Z0;obtain⟨_,f,a,_⟩:=Fr r Z0 I;exact⟨f,a⟩
def jU(r:Rt h p)(hc:h.cycle=xh){g:Hp}{q:Pts}(I:FlipI h p (P h.roots) g q):Rt (YW g) (if 0<(P g.low) then q else⟨[],[],[],[]⟩)/\(¬0<P g.low->g.low=[]/\q.low=[]/\q.high=[]/\∀w∈g.roots,w=0):=by
 have t:g.scan=0:=I.ext.scan;have f:g.high=[]:=I.ext.high;have y:q.high=[]:=I.ext.obsH;have d:∀w∈g.roots,X5 g q w 1 2:=λw A=>by
  obtain⟨j,D⟩:=Zeg A;have u:=(ZdQ.1 D).1;rw[I.len]at u;exact(I.did j u _ w (ZdO u) D).1
 have F:P g.roots<=16:=by rw[I.len];exact r.nroots
 by_cases x:0<P g.low;refine⟨?_,λh=>absurd x h⟩;rw[if_pos x];unfold YW;rw[if_pos x];have b:=I.body;exact⟨⟨⟨b.lay,b.tiles⟩,b.gone,b.ptr,b.room⟩,F,by show 0<=g.scan;omega,by show g.scan<=P g.low;omega,λ_=>(by show g.scan<P g.low;omega),λh=>ZcY,λ_=>I.once,d⟩;have a:g.low=[]:=Zfx.1 Z0;have z:q.low=[]:=by
  have:=I.body.tiles 1 Z0;simp only[Tw,Pts.at1,a]at this;exact this.nil
 have G:∀w∈g.roots,w=0:=λw A=>by
  obtain h|⟨k,o,B,l,_⟩:=d w A;exact h;obtain rfl|rfl:=B;simp only[Pts.at1,z]at l;cases l;simp only[Pts.at2,y]at l;cases l
 refine⟨?_,λ_=>⟨a,z,y,G⟩⟩;rw[if_neg x];unfold YW;rw[if_neg x];have u:=WB.1 I.body.lay;have n:∀k,(⟨[],[],[],[]⟩:Pts).at k=[]:=λk=>by unfold Pts.at;split<;>(try split)<;>(try split)<;>rfl
 have C:∀k,Zx {g with cycle:=xh,old:=[],far:=[]} k=[]:=λk=>by unfold Zx;simp only[a,f];split<;>(try split)<;>(try split)<;>rfl
 refine⟨⟨⟨WB.2 ?_,λk B=> ?_⟩,λk B o l=> ?_,λk B o l=> ?_,?_⟩,F,by show 0<=g.scan;omega,by show g.scan<=P g.low;omega,λh=>ZcY,λ_=>⟨by show g.scan=P g.low;rw[a,t];rfl,rfl,rfl⟩,λh=>ZcY,λw A=>.inl (G w A)⟩;simp only[Zv,Zfq]at u⊢;omega;rw[n,C];exact ZdU _;rw[n]at l;cases l;rw[n]at l;cases l;show(P g.low:Int)+P g.high+Wp ⟨[],[],[],[]⟩<=g.cap;rw[a,f];simp only[Zv]at u;simp[Wp,Ys];omega
end
end
section
section
variable {h g:Hp}{p q:Pts}
def Cp(h:Hp)(p:Pts)(g:Hp)(q:Pts):Prop:=∀k:Int,3<=k/\k<=4->∀(i:Nat) (o a:Ob),(p.at k)[i]?=xk o->(q.at k)[i]?=xk a->o.gone=xh->a.gone=xy->
 ∃t∈q.low,a.target=ZB (Zv g) 1+t.at_/\t.size=o.size/\t.ptrs=o.ptrs/\∀j:Nat,(j:Int)<o.size->g.low[t.at_.toNat+1+j]?=(Zx h k)[o.at_.toNat+1+j]?
def Cp.refl(h:Hp)(p:Pts):Cp h p h p:=λk l i o n f d j a=>by
 rw[f]at d;cases d;rw[j]at a;cases a
def Dt(h:Hp)(p:Pts)(g:Hp)(q:Pts):Prop:=(∀k:Int,3<=k/\k<=4->(q.at k).map (λo=>(o.at_,o.size,o.ptrs))=(p.at k).map (λo=>(o.at_,o.size,o.ptrs)))/\
 ∀k:Int,3<=k/\k<=4->∀(i:Nat) (o a:Ob),(p.at k)[i]?=xk o->(q.at k)[i]?=xk a->(o.gone=xy->a=o)/\(a.gone=xh->a=o/\∀j:Nat,(j:Int)<=o.size->(Zx g k)[o.at_.toNat+j]?=(Zx h k)[o.at_.toNat+j]?)
def Cp.move(c:Cp h p g q)(e:Dt h p g q)(r:Body g q)(N:g.scan<=xq g.low){k:Int}(K:3<=k/\k<=4){o:Ob}(L:o∈q.at k)(T:o.gone=xh){a n:Nat}(ea:o.at_=a)(en:o.size=n):
  Cp h p (YJ g k a (n+1)) (q.mv k o (xq g.low) (ZB (Zv g) 1+xq g.low)):=by
 have ex:=r.ext N K L T ea en;obtain⟨C,F,m,a0,a1,em,a2,a5,a4⟩:=r.toTld.ob (k:=k) Z0 L;have:C=a:=Z0;subst this;have:F=n:=Z0;subst this;obtain⟨X,_⟩:=B5 g K C (F+1);obtain⟨S,e2,Z,e4⟩:=Kn (p:=q) K o (xq g.low) (ZB (Zv g) 1+xq g.low);have A:ZB (Zv (YJ g k C (F+1))) 1=ZB (Zv g) 1:=by
  have:=ex.fst 1 0 (.inl rfl);unfold ZT at this;omega
 intro j I i x R H D hx l;have U:xq (q.at j)=xq (p.at j):=by have:=ZeY List.length (e.1 j I);simpa using this
 have a3:=(ZdQ.1 H).1;have w:(q.at j)[i]?=xk ((q.at j)[i]'Z0):=ZdO _;generalize (q.at j)[i]'Z0=y at w;rw[A];have f:y.gone=xy->R=y->∃t∈(q.mv k o (xq g.low) (ZB (Zv g) 1+xq g.low)).low,R.target=ZB (Zv g) 1+t.at_/\t.size=x.size/\t.ptrs=x.ptrs/\∀u:Nat,(u:Int)<x.size->(YJ g k C (F+1)).low[t.at_.toNat+1+u]?=(Zx h j)[x.at_.toNat+1+u]? :=λhy G=>by
  subst G;obtain⟨t,W,Y,c2,c3,c4⟩:=c j I i x R H w hx hy;have O:=r.toTld.ob (k:=1) Z0 W;obtain⟨b,d,_,eb,ed,_,hb,_⟩:=O;have M:Zx g 1=g.low:=rfl;rw[M]at hb;refine⟨t,by show t∈Pts.at _ 1;rw[S];exact Zfh _ W,Y,c2,c3,λz Q=> ?_⟩;rw[X,Zeq Z0];exact c4 z Q
 by_cases J:j=k;subst J;rw[Z,Zed,w,Ze8]at D;cases D;by_cases B:y.at_=o.at_;have P:y=o:=r.toTld.same_at Z0 L (ZdW w) B;subst P;obtain⟨d1,d2⟩:=(e.2 j I i x y H w).2 T;refine⟨⟨xq g.low,y.size,y.ptrs,xh,0⟩,by show _∈Pts.at _ 1;rw[S];exact ZfZ _ (.head _),by rw[Tj rfl],by rw[d1],by rw[d1],λz Q=> ?_⟩;rw[<-d1]at Q⊢;have:=d2 (1+z) (by rw[<-d1];omega);rw[<-d1,<-Zf5]at this;rw[<-this,X];show(_++_)[(xq g.low:Int).toNat+1+z]?=_;rw[Zee,Zef Z0,Zep,ZeQ Z0];congr 1;omega;rw[Tk B]at l f⊢;exact f l rfl;have e7:j=7-k:=Z0;subst e7;rw[e4,w]at D;cases D;exact f l rfl
def Body.forward_cp(r:Body g q)(d:g.scan<=P g.low){w v:Int}{g':Hp}{j:Pts}(f:FwdTo g q w v g' j)(l:Dt h p g q)(c:Cp h p g q):Cp h p g' j:=by
 obtain⟨rfl,rfl⟩|⟨k,o,a,n,y,z,x,t,u,rfl,rfl,_⟩:=f.how;exact c;exact c.move l r d y z x t u
end
end
section
section
variable {h:Hp}{p:Pts}
def qY(i:Nat)(g:Hp)(q:Pts):Prop:=∀o∈q.low,∃j:Nat,j<i/\g.roots[j]?=xk (ZT (Zv g) 1 o.at_)
def Fq(r:Rt h p)(hc:h.cycle=xh):∀i,i<=P h.roots->∃q,FlipI h p i (Xn (YI h) i) q/\Cp (YI h) (Un p) (Xn (YI h) i) q/\qY i (Xn (YI h) i) q
 |0,_=>⟨Un p,⟨Fp r hc,λo g=>(by cases g),.refl _ _,rfl,λ_ _=>rfl,λj B=>Z0⟩,.refl _ _,λo g=>(by cases g)⟩
 |i+1,F=>by
  obtain⟨q,I,c,R⟩:=Fq r hc i Z0;have t:(Xn (YI h) i).scan<=(Xn (YI h) i).low.length:=by
   have:(Xn (YI h) i).scan=0:=I.ext.scan;omega
  obtain⟨v,l,D,f⟩:=I.body.forward t (.inr (jW r Z0 I));have y:=I.body.forward_cp t f ⟨I.ext.obsO,I.ext.gone⟩ c;have C:(Xn (YI h) i).roots[i]?=xk h.roots[i]:=by rw[I.rest i (ZdU _)];exact ZdO Z0
  have H:=I.len;have z:=f.ext.roots;have w:∀a,ZT (Zv l) 1 a=ZT (Zv (Xn (YI h) i)) 1 a:=λa=>f.ext.fst 1 a (.inl rfl);have A:Xn (YI h) (i+1)= {l with roots:=(Xn (YI h) i).roots.set i v}:=by
   show TT (Xn (YI h) i) i=_;unfold TT;rw[C,Zei,f.fwd,z]
  refine⟨D,Fs r Z0 I f,?_,?_⟩<;>rw[A];exact y;intro o g;have u:o∈q.low->∃j:Nat,j<i+1/\((Xn (YI h) i).roots.set i v)[j]?=xk (ZT (Zv l) 1 o.at_):=λd=>by
   obtain⟨j,B,e⟩:=R o d;refine⟨j,Z0,?_⟩;rw[Zf4 Z0,e,w]
  have:o∈q.low\/ZT (Zv l) 1 o.at_=v:=by
   obtain⟨_,rfl⟩|⟨k,x,a,n,G,_,_,_,_,_,rfl,rfl⟩:=f.how;exact .inl g;rw[w];obtain d|d:=Zel.1 g;exact .inl d;rw[ZeS.1 d];exact .inr rfl
  obtain d|d:=this;exact u d;refine⟨i,Z0,?_⟩;show((Xn (YI h) i).roots.set i v)[i]?=xk (ZT (Zv l) 1 o.at_);rw[ZfD Z0,d]
end
end
section
section
variable {h g:Hp}{p q:Pts}
def ED{G:Gr}(d:∀x∈G.roots,x= -1):YL G=⟨[],G.roots⟩:=by
 have j:order G=[]:=Z4E λx a=>by rw[d x a];omega
 have f:Wb [] G.roots=G.roots:=by
  unfold Wb
  conv=>rhs;rw[<-Zic G.roots]
  refine Zfc λx a=> ?_;rw[d x a];rfl
 simp only[YL,j,Zf9,f]
def Ku(F:Hp)(A:Int):Int:=(Y1 (Y6 F).tm A).getD A
def Jh(F:Hp)(w:Int):TA F w=Ku F (adr w).1:=rfl
def Z1j(r:Rt h p)(hc:h.cycle=xh):∃g q,FlipI h p (xq h.roots) g q/\Th h=YW g/\qY (xq h.roots) g q/\YL (vg (YW g))=YL (vg h):=by
 obtain⟨q,I,c,R⟩:=Fq r hc (xq h.roots) (ZdU _);have hF:Th h=YW (Xn (YI h) (xq h.roots)):=rfl;obtain⟨s,hz⟩:=jU r hc I;refine⟨_,q,I,hF,R,?_⟩;clear hF R;generalize Xn (YI h) (xq h.roots)=g at*;obtain⟨_,a5,a3⟩:=r.rest hc;by_cases h0:0<xq g.low;case neg=>
  obtain⟨_,_,_,d6⟩:=hz h0;have e6:∀w∈h.roots,w=0:=λw hw=>by
   obtain⟨j,B⟩:=Zeg hw;have a2:=(ZdQ.1 B).1;have b9:j<xq g.roots:=by rw[I.len];exact a2
   obtain⟨_,Y⟩:=I.did j a2 w _ B (ZdO b9);have:=d6 _ (Ze5 b9);obtain⟨h1,_⟩|⟨k,o,hk,ho,_,L,e⟩:=Y;exact h1;omega
  have Q:(YW g).roots=g.roots:=by unfold YW;split<;>rfl
  have z1:(vg h).roots=List.replicate (xq h.roots) (-1):=by
   refine Zi1.2 ⟨by simp[vg,Vw.gr],λx d=> ?_⟩;simp only[vg,Vw.gr,Ze4]at d;obtain⟨w,hw,rfl⟩:=d;rw[e6 w hw];simp[Vw.toA]
  have z2:(vg (YW g)).roots=List.replicate (xq h.roots) (-1):=by
   refine Zi1.2 ⟨by simp[vg,Vw.gr,Q,I.len],λx d=> ?_⟩;simp only[vg,Vw.gr,Ze4,Q]at d;obtain⟨w,hw,rfl⟩:=d;rw[d6 w hw];simp[Vw.toA]
  rw[ED (G:=vg h) λx d=>by rw[z1]at d;exact(Zhn.1 d).2,ED (G:=vg (YW g)) λx d=>by rw[z2]at d;exact(Zhn.1 d).2,z1,z2]
 rw[if_pos h0]at s;have eF:YW g= {g with cycle:=xy}:=by unfold YW;rw[if_pos h0]
 rw[eF]at s⊢;obtain⟨F,X⟩:∃F:Hp,F= {g with cycle:=xy}:=⟨_,rfl⟩;rw[<-X]at s⊢;have f2:F.low=g.low:=by rw[X]
 have P:F.roots=g.roots:=by rw[X]
 have N:Zv F=Zv g:=by rw[X];rfl
 have W:∀k,Zx F k=Zx g k:=λk=>by rw[X];rfl
 have e7:∀j:Nat,j<2->ZB (Zv F) (((j+2:Nat):Int)+1)=ZB (Zv h) ((j:Int)+1):=λj B=>by
  have S:=I.ext.fst (((j+2:Nat):Int)+1) 0 Z0;have U:=jX h ((j:Int)+1) 0 Z0;rw[show(j:Int)+1+2=((j+2:Nat):Int)+1 by omega]at U;rw[N];have e3:ZT (Zv g) (((j+2:Nat):Int)+1) 0=ZT (Zv {g with roots:=h.roots}) (((j+2:Nat):Int)+1) 0:=rfl;unfold ZT at S U e3;omega
 have e5:∀j:Nat,j<2->Zx (YI h) (((j+2:Nat):Int)+1)=Zx h ((j:Int)+1)/\(Un p).at (((j+2:Nat):Int)+1)=p.at ((j:Int)+1):=λj B=>by
  have:j=0\/j=1:=Z0;obtain rfl|rfl:=this<;>exact⟨rfl,rfl⟩
 have a4:∀(j:Nat) (x:Ob),j<2->x∈p.at ((j:Int)+1)->∃D,D∈q.at (((j+2:Nat):Int)+1)/\D.at_=x.at_/\(Ya F (j+2) D).ad=(Ya h j x).ad/\
   ((D.gone=xh/\D=x/\(Ya F (j+2) D).sl=(Ya h j x).sl)\/(D.gone=xy/\∃t∈q.at (((0:Nat):Int)+1),(Ya F 0 t).ad=D.target/\t.ptrs=x.ptrs/\(Ya F 0 t).sl=(Ya h j x).sl)):=by
  intro j x B d;obtain⟨a,n,m,ea,en,em,d7,_⟩:=r.toTld.ob Z0 d;obtain⟨i,T⟩:=Zeg d;obtain⟨p1,p2⟩:=e5 j B;have a1:((Un p).at (((j+2:Nat):Int)+1))[i]?=xk x:=by rw[p2];exact T
  have f0:x.gone=xh:=r.live12 B (by rw[r.obQ Z0];exact d);have c6:=I.ext.obsO (((j+2:Nat):Int)+1) Z0;have f3:xq (q.at (((j+2:Nat):Int)+1))=xq ((Un p).at (((j+2:Nat):Int)+1)):=by have:=ZeY List.length c6;simpa using this
  have b2:=(ZdQ.1 a1).1;have hq:(q.at (((j+2:Nat):Int)+1))[i]?=xk ((q.at (((j+2:Nat):Int)+1))[i]'Z0):=ZdO _;generalize (q.at (((j+2:Nat):Int)+1))[i]'Z0=D at hq;have Z:=ZeY (λl=>l[i]?) c6;simp only[Zed,hq,a1,Ze8,ZdP,Ze2]at Z;obtain⟨q1,q2,q3⟩:=Z;have hm:=ZdW hq;have J:(Ya F (j+2) D).ad=(Ya h j x).ad:=by
   rw[T8 s Z0 hm,T8 r Z0 d,e7 j B,q1]
  refine⟨D,hm,q1,J,?_⟩;cases L:D.gone;obtain⟨d1,d2⟩:=(I.ext.gone (((j+2:Nat):Int)+1) Z0 i x D a1 hq).2 L;subst d1;refine .inl ⟨rfl,rfl,?_⟩;simp only[Ya];rw[<-Sg _ Z0,<-Sg _ Z0,W];refine Zgo λz=> ?_;simp only[Zev,Zep];split;have:=d2 (1+z) Z0;rw[p1]at this;rw[show(D.at_+1).toNat+z=D.at_.toNat+(1+z)by omega];exact this;rfl;obtain⟨t,H,c1,c2,c3,c4⟩:=c (((j+2:Nat):Int)+1) Z0 i x D a1 hq f0 L;have f4:=(I.body.toTld.low_at H).1;refine .inr ⟨rfl,t,H,?_,c3,?_⟩;rw[T8 s Z0 H,N,c1];rfl;simp only[Ya];rw[<-Sg _ Z0,<-Sg _ Z0,W,c2];refine Zgo λz=> ?_;simp only[Zev,Zep];split;have:=c4 z Z0;rw[p1]at this;rw[show(x.at_+1).toNat+z=x.at_.toNat+1+z by omega,show(t.at_+1).toNat+z=t.at_.toNat+1+z by omega];exact this;rfl
 have b5:∀f∈(Y6 h).ns,∃(j:Nat) (x:Ob),j<2/\x∈p.at ((j:Int)+1)/\f=Ya h j x:=λf hf=>by
  obtain⟨d9,_⟩:=Tp.1 hf;obtain⟨j,x,_,B,d,rfl⟩:=RJ d9;rw[r.obQ Z0]at d;refine⟨j,x,?_,d,rfl⟩;by_cases b4:j<2;exact b4;have H:=r.tiles ((j:Int)+1) Z0;have b6:Zx h ((j:Int)+1)=[]:=by
   have:j=2\/j=3:=Z0;obtain rfl|rfl:=this;exact a5;exact a3
  rw[b6]at H;rw[H.nil]at d;cases d
 have e0:∀(j:Nat) (x:Ob),j<2->x∈p.at ((j:Int)+1)->Ya h j x∈(Y6 h).ns:=λj x B d=>Tp.2 ⟨UL r Z0 d,r.live12 B (by rw[r.obQ Z0];exact d)⟩;have K:∀A:Int,1<=A->(adr (2*A+1)).1=A:=λA hA=>by
  unfold adr;rw[if_neg Z0,if_neg Z0];show(2*A+1) / 2=A;omega
 have a6:∀(j:Nat) (x:Ob),j<2->x∈p.at ((j:Int)+1)->1<=(Ya h j x).ad:=λj x B d=>by
  obtain⟨a,_,_,ea,_⟩:=r.toTld.ob Z0 d;rw[T8 r Z0 d];have:=WG r.lay (k:=(j:Int)+1);omega
 have c5:∀(j:Nat) (x:Ob),j<2->x∈p.at ((j:Int)+1)->∃f'∈(Y6 F).ns,f'.ad=Ku F (Ya h j x).ad/\f'.ob.ptrs=x.ptrs/\f'.sl=(Ya h j x).sl:=by
  intro j x B d;obtain⟨D,a0,_,J,hh⟩:=a4 j x B d;have hA:=a6 j x B d;obtain⟨L,rfl,c7⟩|⟨L,t,H,S,U,e3⟩:=hh;refine⟨Ya F (j+2) D,Tp.2 ⟨UL s Z0 a0,L⟩,?_,rfl,c7⟩;have:=qi s (UL s Z0 a0) L (w:=2*(Ya h j D).ad+1) (by rw[K _ hA,J]);rw[Jh,K _ hA]at this;exact this.symm;refine⟨Ya F 0 t,Tp.2 ⟨UL s Z0 H,s.live12 (q:=0) Z0 (by rw[s.obQ Z0];exact H)⟩,?_,U,e3⟩;have:=Cs s (UL s Z0 a0) L (w:=2*(Ya h j x).ad+1) (by rw[K _ hA,J]);rw[Jh,K _ hA]at this;rw[this,S];rfl
 have a7:∀w i j:Int,(1<=i/\i<=4)->(1<=j/\j<=4)->X5 h p w i j->w=0\/∃f∈(Y6 h).ns,(adr w).1=f.ad/\f.ad=TA h w:=λw i j T B hG=>by
  by_cases C:w=0;exact .inl C;obtain⟨z,y,hz,_,hy,_,ha⟩:=r.gos T B hG C;have M:=hy;rw[r.obQ hz]at M;have b8:z<2:=by
   by_cases b4:z<2;exact b4;have H:=r.tiles ((z:Int)+1) Z0;have b6:Zx h ((z:Int)+1)=[]:=by
    have:z=2\/z=3:=Z0;obtain rfl|rfl:=this;exact a5;exact a3
   rw[b6]at H;rw[H.nil]at M;cases M
  exact .inr ⟨_,e0 z y b8 M,ha,(qi r (UL r hz M) (r.live12 b8 hy) ha).symm⟩
 refine Z87 r s (Ku F) (λf hf=> ?_) (λf hf f' b1 he=> ?_) (DP (by rw[P,I.len]) λj w v hw hv=> ?_);obtain⟨j,x,B,d,rfl⟩:=b5 f hf;obtain⟨f',b1,S,U,e3⟩:=c5 j x B d;refine⟨f',b1,S,U,by rw[e3],?_⟩;rw[e3];refine DQ λw e9=> ?_;have d0:x∈obP h j:=by rw[r.obQ Z0];exact d
 obtain⟨a,n,m,ea,en,em,d7,_⟩:=r.toTld.ob Z0 d;obtain⟨i,T⟩:=Zeg e9;have b2:=(ZdQ.1 T).1;rw[ZeZ]at b2;have e4:(Ya h j x).ob.ptrs=x.ptrs:=rfl;rw[e4]at T b2;rw[ZeQ Z0]at T;have c7:=zl r Z0 d0;have c8:(Zx h ((j:Int)+1))[x.at_.toNat+1+i]?=xk w:=by
  rw[Sg h Z0];simp only[Ya]at T;rw[ZeQ Z0,Zep]at T;rw[<-T];congr 1;omega
 obtain⟨u,v,hu,hv,hG⟩:=Mu (r.ptr ((j:Int)+1) Z0 x d (r.live12 B d0) i Z0 w c8);obtain rfl|⟨f,hf,ha,hr⟩:=a7 w u v hu hv hG;exact .inl ⟨rfl,rfl⟩;by_cases C:w=0;exact .inl ⟨C,C⟩;exact .inr ⟨C,C,f,hf,hr,by rw[Jh,ha]⟩;obtain⟨j,x,B,d,rfl⟩:=b5 f hf;obtain⟨j',D,b3,a0,rfl⟩:=b5 f' b1;have a8:∀(j:Nat) (x:Ob),j<2->x∈p.at ((j:Int)+1)->∃y,y∈q.at (((j+2:Nat):Int)+1)/\(Ya F (j+2) y).ad=(Ya h j x).ad/\((y.gone=xh/\Ku F (Ya h j x).ad=(Ya h j x).ad)\/(y.gone=xy/\Ku F (Ya h j x).ad=y.target/\∃t∈q.at (((0:Nat):Int)+1),(Ya F 0 t).ad=y.target)):=by
  intro j x B d;obtain⟨y,hy,_,J,hh⟩:=a4 j x B d;have hA:=a6 j x B d;refine⟨y,hy,J,?_⟩;obtain⟨L,rfl,_⟩|⟨L,t,H,S,_⟩:=hh;have:=qi s (UL s Z0 hy) L (w:=2*(Ya h j y).ad+1) (by rw[K _ hA,J]);rw[Jh,K _ hA,J]at this;exact .inl ⟨L,this⟩;have:=Cs s (UL s Z0 hy) L (w:=2*(Ya h j x).ad+1) (by rw[K _ hA,J]);rw[Jh,K _ hA]at this;exact .inr ⟨L,this,t,H,S⟩
 obtain⟨y,hy,d5,f1⟩:=a8 j x B d;obtain⟨y',M,b0,a9⟩:=a8 j' D b3 a0;have c0:∀(i:Nat) (z t:Ob),i<2->z∈q.at (((i+2:Nat):Int)+1)->t∈q.at (((0:Nat):Int)+1)->(Ya F (i+2) z).ad≠(Ya F 0 t).ad:=λi z t T hz H=>A1 s Z0 Z0 (by rw[s.obQ Z0];exact hz) (by rw[s.obQ Z0];exact H) (.inl Z0);obtain⟨g1,n1⟩|⟨g1,n1,t,H,S⟩:=f1;obtain⟨g2,n2⟩|⟨g2,n2,t',O,U⟩:=a9;rw[<-n1,he,n2];exact(c0 j y t' B hy O (by rw[d5,<-n1,he,n2,U])).elim;obtain⟨g2,n2⟩|⟨g2,n2,t',O,U⟩:=a9;exact(c0 j' y' t b3 M H (by rw[b0,<-n2,<-he,n1,S])).elim;have e8:y.target=y'.target:=by rw[<-n1,he,n2]
 have hR:∀(i:Nat) (z:Ob),i<2->z∈q.at (((i+2:Nat):Int)+1)->z.gone=xy->Res g q (ZT (Zv g) (((i+2:Nat):Int)+1) z.at_) (2*z.target+1):=λi z T hz L=>.inr ⟨_,z,Z0,hz,rfl,L,rfl⟩;have:=Res.inj I.body I.once (hR j y B hy g1) (by rw[e8];exact hR j' y' b3 M g2);rw[<-d5,<-b0,T8 s Z0 hy,T8 s Z0 M,N];unfold ZT at this;omega;rw[P]at hv;have a2:=(ZdQ.1 hw).1;obtain⟨_,Y⟩:=I.did j a2 w v hw hv;obtain⟨h1,h2⟩|⟨k,o,hk,ho,S,L,U⟩:=Y;exact .inl ⟨h1,h2⟩;obtain⟨z,rfl,b8⟩:∃z:Nat,k=((z+2:Nat):Int)+1/\z<2:=⟨(k-3).toNat,Z0,Z0⟩;have C:w≠0:=by
  rw[S];exact I.body.toTld.ne0 Z0 ho
 obtain h1|⟨f,hf,ha,hr⟩:=a7 w 1 2 Z0 Z0 (r.roots w (ZdW hw));exact(C h1).elim;refine .inr ⟨C,Z0,f,hf,hr,?_⟩;obtain⟨t,H,c1,_⟩:=I.body.gone _ Z0 o ho L;have O:t∈q.at (((0:Nat):Int)+1):=H;have b7:(Ya F 0 t).ad=o.target:=by rw[T8 s Z0 O,N,c1];rfl
 have hT:1<=o.target:=by
  rw[<-b7,T8 s Z0 O];obtain⟨b,_,_,eb,_⟩:=s.toTld.ob Z0 O;have:=WG s.lay (k:=((0:Nat):Int)+1);omega
 have d8:(adr w).1=(Ya F (z+2) o).ad:=by
  rw[S,I.body.toTld.adr Z0 ho,T8 s Z0 ho,N]
 have h3:=Cs s (UL s Z0 ho) L d8;have h4:=qi s (UL s Z0 O) (s.live12 (q:=0) Z0 (by rw[s.obQ Z0];exact O)) (w:=v) (by rw[U,K _ hT,b7]);rw[h4,b7,<-ha,<-Jh,h3];rfl
end
end
section
def Wu(g:Gr):List Int:=Yb [] g.roots
def A3{G:Gr}{x:Int}:x∈Wu G↔x∈G.roots/\0<=x:=by
 unfold Wu;rw[SZ];simp
def zq(G:Gr):∃t,order G=Wu G++t:=yA
def FE{G:Gr}(a:right G=xy):(Wu G).Nodup:=by
 obtain⟨t,e⟩:=zq G;have:=(KE a).1;rw[e]at this;exact(Zgp.1 this).1
def Ej{l t:Zc}{x:Int}(h:x∈l):WY (l++t) x=WY l x:=by
 unfold WY;rw[List.findIdx?_append];cases e:l.findIdx? (· ==x);exact absurd h (zd.1 e);rfl
def Z1n{G:Gr}(r:right G=xy):(∀x∈(YL G).roots,x+1<=(P (Wu G):Int))/\(P (Wu G)=0\/∃x∈(YL G).roots,x+1=(P (Wu G):Int)):=by
 obtain⟨t,e⟩:=zq G;have j:(YL G).roots=G.roots.map λp=>if 0<=p then WY (order G) p else p:=rfl
 refine⟨λx k=> ?_,?_⟩;rw[j]at k;obtain⟨y,d,rfl⟩:=Ze4.1 k;split;rename_i f;have a:=A3.2 ⟨d,f⟩;rw[e,Ej a];have:=ji a;omega;omega;by_cases f:P (Wu G)=0;exact .inl f;obtain⟨n,z⟩:=Nat.exists_eq_succ_of_ne_zero f;have d:(Wu G)[n]?=xk ((Wu G)[n]'Z0):=ZdO _;generalize (Wu G)[n]'Z0=y at d;have a:=ZdW d;have h:=A3.1 a;refine .inr ⟨WY (order G) y,?_,?_⟩;rw[j];exact Ze4.2 ⟨y,h.1,if_pos h.2⟩;rw[e,Ej a];obtain⟨u,w,g⟩:=ji a;have l:(Wu G)[(WY (Wu G) y).toNat]'Z0=y:=by rw[ZdO Z0]at g;exact Zfy g
 have o:(Wu G)[n]'Z0=y:=by rw[ZdO Z0]at d;exact Zfy d
 have:=(List.getElem_inj (FE r)).1 (l.trans o.symm);omega
def JY(g:Gr):Nat:=V6 ((YL g).nodes.take (P (Wu g)))
def Z1m(G:Gr):JY G=((Wu G).map λx=>S8 ((G.nodes[x.toNat]?).getD default)).sum:=by
 obtain⟨t,e⟩:=zq G;unfold JY V6;simp only[YL];rw[<-Zif,e,Zgv,ZfY];congr 1;refine Zfc λx _=> ?_;simp[SF,S8,Wb]
section
variable {F:Hp}{q:Pts}
def FF(s:Rt F q)(S:q.high=[])(R:∀o∈q.low,ZT (Zv F) 1 o.at_∈F.roots):JY (vg F)=xq F.low:=by
 have J:=s.tiles 1 Z0;have I:=J.sum (ZeJ _);have g:∀o∈q.low,∃n:Nat,(Y6 F).toA (ZT (Zv F) 1 o.at_)=n/\(Y6 F).ns[n]?=xk (Ya F 0 o):=λo g=>by
  have h:o∈q.at (((0:Nat):Int)+1):=g;have u:ZT (Zv F) 1 o.at_≠0:=s.toTld.ne0 (k:=1) Z0 g;obtain⟨n,f,r,t,L⟩:=s.to_root (w:=ZT (Zv F) 1 o.at_) (.inr ⟨1,o,.inl rfl,g,rfl⟩) u;have M:=Tp.1 (ZdW t);have K:=T8 s Z0 h;have:f=Ya F 0 o:=QJ s M.1 (UL s Z0 h) (by rw[K];unfold ZT at L;simp only[Int.natCast_zero,Int.zero_add]at*;omega);exact⟨n,r,this▸t⟩
 have Q:(Wu (vg F)).Perm (q.low.map λo=>(Y6 F).toA (ZT (Zv F) 1 o.at_)):=by
  refine(List.perm_ext_iff_of_nodup (FE s.vg_right) ?_).2 λx=> ?_;refine ZhA.2 ?_;have B:q.low.Pairwise λx y=>x.at_<y.at_:=J.pairwise;refine(List.Pairwise.and_mem.1 B).imp λ{a b} N k=> ?_;obtain⟨G,H,P⟩:=N;have e:=s.to_inj (w:=ZT (Zv F) 1 a.at_) (v:=ZT (Zv F) 1 b.at_) (.inr ⟨1,a,.inl rfl,G,rfl⟩) (.inr ⟨1,b,.inl rfl,H,rfl⟩) k;obtain⟨_,D⟩:=s.toTld.inj (k:=1) (j:=1) Z0 Z0 G H e;subst D;omega;rw[A3];constructor;rintro⟨p,u⟩;obtain⟨w,T,rfl⟩:=Ze4.1 p;obtain rfl|⟨k,o,O,d,rfl⟩:=s.roots w T;simp[Vw.toA]at u;obtain rfl|rfl:=O;exact Ze4.2 ⟨o,d,rfl⟩;have l:o∈q.high:=d;rw[S]at l;cases l;intro p;obtain⟨o,d,rfl⟩:=Ze4.1 p;obtain⟨n,r,_⟩:=g o d;exact⟨Ze4.2 ⟨_,R o d,rfl⟩,Z0⟩
 rw[Z1m,(Q.map _).sum_nat,ZfY];have C:TF q.low=xq F.low:=by
  have z:Zx F 1=F.low:=rfl;rw[z]at I;have p:q.at 1=q.low:=rfl;rw[p]at I;omega
 rw[<-C];unfold TF;congr 1;refine Zfc λo d=> ?_;obtain⟨n,r,t⟩:=g o d;have h:o∈obP F 0:=by rw[s.obQ Z0];exact d
 have z:=zl s (q:=0) Z0 h;obtain⟨a,b,c,_,D,U,_,_,W⟩:=s.ob4 (q:=0) Z0 h;have A:(Ya F 0 o).ob=o:=rfl;simp only[Function.comp,r,vg,Vw.gr,Zee,Zed,t,Ze8,Zei,S8,Ut,Zem,ZeZ,ZfG,z,A];omega
def Z1i{h:Hp}{p:Pts}(r:Rt h p)(hc:h.cycle=xh){g:Hp}(I:FlipI h p (P h.roots) g q)(R:qY (P h.roots) g q):JY (vg (YW g))=P g.low:=by
 obtain⟨s,k⟩:=jU r hc I;by_cases a:0<P g.low;rw[if_pos a]at s;have e:YW g= {g with cycle:=xy}:=if_pos a;rw[e]at s⊢;exact FF s I.ext.obsH λo d=>by
  obtain⟨j,_,f⟩:=R o d;exact ZdW f
 rw[if_neg a]at s;have e:YW g= {g with cycle:=xh,old:=[],far:=[]}:=if_neg a;rw[e]at s⊢;exact FF s rfl λo d=>by cases d
def To(l:Zc):Int:=l.foldl (λm x=>max m (x+1)) 0
def Z3v{l:Zc}{i:Nat}{x:Int}(h:l[i]?=xk x):To (l.take (i+1))=max (To (l.take i)) (x+1):=by
 unfold To;rw[ZeM,h,List.foldl_append];rfl
def Z3u{D:Int}(j:0<=D):∀ {l:Zc},(∀x∈l,x+1<=D)->0<=To l/\To l<=D/\∀x∈l,x+1<=To l:=by
 unfold To
 suffices ∀(l:Zc) (m:Int),(∀x∈l,x+1<=D)->0<=m->m<=D->m<=l.foldl (λm x=>max m (x+1)) m/\l.foldl (λm x=>max m (x+1)) m<=D/\∀x∈l,x+1<=l.foldl (λm x=>max m (x+1)) m fromλ{l} f=>this l 0 f (Int.le_refl _) j
 intro l;induction l with
 |nil=>intro m _ h g;exact⟨Int.le_refl _,g,λx d=>by cases d⟩
 |cons a l o=>
  intro m f h g;have p:=f a (.head _);obtain⟨r,k,n⟩:=o (max m (a+1)) (λx d=>f x (.tail _ d)) Z0 Z0;refine⟨by simp only[Zfj];omega,k,λx d=> ?_⟩;obtain rfl|d:=Zec.1 d;simp only[Zfj];omega;exact n x d
end
end
end Vm
end
section
namespace Vm
open Go Go.Proofs Go.RowKit
structure Now (B:Nat) (w:World) (b:Nat) (h:Hp) (x:Nat->Value):Prop where
 blk:w.heap[b]?=xk (.cells #[.int .u64 h.base,.int .i64 h.cap,.int .i64 h.to,.bool h.cycle,.int .i64 h.scan,x 0,x 1,x 2,x 3,x 4] 127 (0,0))
 own:HOwn B w h x
 far:∀j,j<5->∀c,(x j).ownBlock=xk c->c≠b
 new:B<=b
def TG(h:Hp)(part:Int)(a n:Nat):Int:=(XN (Y4 (Zv (Xw h part a n)) 1 (P h.low)).1).1
def P1(B:Nat)(w:World)(b:Nat)(h:Hp)(p a n:Nat)(e:Ending)(w':World):Prop:=
 ∃d,e=.returned (.int .u64 (TG h (p+1) a n))/\Below B w w'/\Now B w' b (Xr (Xw h (p+1) a n) (p+1) ((zr (Zu h p) a n).set a (TG h (p+1) a n))) d
def Z8t{P:Program}(w:World){o:Oper}{a:Act}{K:Act->World->Prop}{Q:Exit->Act->World->Prop}(s:Operand)(t:TypeId)
  (d:o.op=.call {callee:=.builtin .clear,args:=#[s],argTypes:=#[t]}) (vs:Value) (g:a.eval s=vs)
  (w':World) (f:(Builtin.clear_ #[t] o.type #[vs]).run P w=.ok (.tuple #[]) w') (h:K (a.put o.dst (.tuple #[])) w'):o.wp P a w K Q:=by
 unfold Oper.wp execOp;simp only[d,resolve,invoke,builtin,Zet,ZfH,Zeo,ZhJ,Zeb,Zf9,g,f];exact h
def Z8p{P:Program}(w:World){ops:Array Oper}{rest:List Oper}{o:Oper}{a:Act}{Q:Exit->Act->World->Prop}(d:o.guard=xw)(s:Operand)(t:TypeId)
  (g:o.op=.call {callee:=.builtin .clear,args:=#[s],argTypes:=#[t]}) (vs:Value) (k:a.eval s=vs)
  (w':World) (j:(Builtin.clear_ #[t] o.type #[vs]).run P w=.ok (.tuple #[]) w') (h:wpList P ops Q rest (a.put o.dst (.tuple #[])) w'):wpList P ops Q (o::rest) a w:=
 wpList_plain d λ_ f=>Z8t w s t g vs k w' j (f _ _ h)
def Nr{b c:Nat}(hc:c≠b):∀(vs:List Value) (o:Nat) (w:World),(w.setCells b o vs).heap[c]?=w.heap[c]?
 | [],_,_=>rfl
 |v::r,o,w=>by
  show((w.setCell ⟨b,o,xw⟩ v).setCells b (o+1) r).heap[c]?=_;rw[Nr hc r];exact Zen _ _ _ _ hc
def Ns(b:Nat):∀(vs:List Value) (o:Nat) (w:World),U (R (w.setCells b o vs))=U (R w)
 | [],_,_=>rfl
 |v::r,o,w=>by
  show U (R ((w.setCell ⟨b,o,xw⟩ v).setCells b (o+1) r))=_;rw[Ns b r];simp[World.setCell]
def Np{B b:Nat}(d:B<=b):∀(vs:List Value) (o:Nat) (a w:World),Below B a w->Below B a (w.setCells b o vs)
 | [],_,_,_,h=>h
 |v::r,o,a,w,h=>Np d r (o+1) a _ (h.setCell d _)
def Io{B g len cap:Nat}{L:List Int}(a:Nat):∀(n k:Nat) (w:World),a+k+n<=len->w.ownsRow B 24 1 (.slice (xk ⟨g,0,xw⟩) len cap) len (YQ .u64 (zr L a k))->
  (w.setCells g (a+k) (List.replicate n (.int .u64 0))).ownsRow B 24 1 (.slice (xk ⟨g,0,xw⟩) len cap) len (YQ .u64 (zr L a (k+n)))
 |0,k,w,_,h=>h
 |n+1,k,w,j,h=>by
  have d:=(h.stored (a+k) (.int .u64 0)).1;have f:(YQ .u64 (zr L a k)).set (a+k) (.int .u64 0)=YQ .u64 (zr L a (k+1)):=by rw[zr,Bg]
  rw[f]at d;have:=Io a n (k+1) _ Z0 d;rw[show k+1+n=k+(n+1)by omega]at this;exact this
def Z0t(w:World)(B b:Nat)(h:Hp)(x:Nat->Value)(q:Now B w b h x)(hB:B<=xz (xj w))(hh:h.ok)(p a n:Nat)(hp:p=2\/p=3)(Q:0<n)(hn:n<=1000)(e7:(n:Int)<=Xx (Zv h))
  (g cap:Nat) (hx:x p=.slice (xk ⟨g,0,xw⟩) (xq (Zu h p)) cap) (i6:a+n<=xq (Zu h p)) (c':Nat):
  Calls Sol.prog 71 #[.pointer (xk ⟨b,0,xw⟩),.slice (xk ⟨g,a,xw⟩) n c'] w (P1 B w b h p a n):=by
 obtain⟨iU,c5,i3,i0,i7⟩:=info_parts Z2T;have k0:xq (Zu h 0)<=1000000:=QW hh 0;obtain⟨v1,w1,h9,e5,z,a6⟩:=Z6A (P:=Sol.prog) (w:=w) (T:=35) (tI:=3) (ty:=35) Sol.underlying35 Sol.underlying3 c5 i3 rfl rfl i0 i7 (q.own.own 0 Z0) hB Q Z0 .i64;obtain⟨a0,q0,e0⟩:=Yn (q.own.own 0 Z0);have b0:w.cell? ⟨b,5,xw⟩=xk (x 0):=by rw[Ze6 _ _ _ _ _ _ q.blk];rfl
 have f0:w.frozen? ⟨b,5,xw⟩=xh:=Yi q.blk;have b8:=YC q.blk;have F:xk b≠(x 0).ownBlock:=λe=>q.far 0 Z0 b e.symm rfl;have c1:=(z.cell_far ⟨b,5,xw⟩ b8 F).trans b0;have f1:=(z.frozen_far ⟨b,5,xw⟩ b8 F).trans f0;rw[e0]at h9 b0 c1;have h6:xq (YQ .u64 (Zu h 0))=xq (Zu h 0):=by simp[YQ]
 obtain⟨_,j6⟩|⟨g0,q1,y,j5,a9,f9,j3,j4,a7,e9⟩:=e5.2;omega;subst j5;have j7:¬q1=xq (Zu h 0):=Z0;have O:g0≠b:=by
  intro e;obtain r|⟨_,r⟩:=a6;exact F (by rw[<-r,e];rfl);have:=(r.lt g0 rfl).1;omega
 have b9:g≠b:=q.far p Z0 g (by rw[hx];rfl);have g8:g<xz (xj w):=((q.own.own p Z0).lt g (by rw[hx];rfl)).2;have c0:xk g≠(x 0).ownBlock:=λe=>q.own.apart 0 p Z0 Z0 g e.symm (by rw[hx];rfl);have b1:g≠g0:=by
  intro e;obtain r|⟨_,r⟩:=a6;exact c0 (by rw[<-r,e];rfl);have:=(r.lt g0 rfl).1;omega
 obtain⟨w2,H⟩:∃w2,w2=w1.setCell ⟨b,5,xw⟩ (.slice (xk ⟨g0,0,xw⟩) (xq (Zu h 0)+n) q1):=⟨_,rfl⟩;have N:w2.heap[g0]?=xk (.cells y 24 (0,0)):=by rw[H,Zen _ _ _ _ O];exact f9
 have g6:∀c,c≠b->c<xz (xj w)->xk c≠(x 0).ownBlock->w2.heap[c]?=w.heap[c]? :=λc A h2 h3=>by
  rw[H,Zen _ _ _ _ A,z.block c h2 h3]
 have K:w2.heap[b]?=xk (.cells #[.int .u64 h.base,.int .i64 h.cap,.int .i64 h.to,.bool h.cycle,.int .i64 h.scan,.slice (xk ⟨g0,0,xw⟩) (xq (Zu h 0)+n) q1,x 1,x 2,x 3,x 4] 127 (0,0)):=by
  have:=(z.block b b8 F).trans q.blk;rw[H];simp[World.setCell,ZeF,this]
 have i4:w2.cell? ⟨b,5,xw⟩=xk (.slice (xk ⟨g0,0,xw⟩) (xq (Zu h 0)+n) q1):=by rw[Ze6 _ _ _ _ _ _ K];rfl
 have R:w2.ownsRow B 24 1 (x p) (xq (Zu h p)) (YQ .u64 (Zu h p)):=WJ (q.own.own p Z0) λc f=>by
  rw[hx]at f;cases f;exact g6 g b9 g8 c0
 obtain⟨J,a5⟩:∃J,J=YQ .u64 (((Zu h p).take (a+n)).drop a):=⟨_,rfl⟩;have M:xq J=n:=by rw[a5];simp[YQ];omega
 have i1:∀j v,J[j]?=xk v->w2.cell? ((⟨g,a,xw⟩:Addr).add j)=xk v:=by
  intro j v hv;have o:j<n:=by rw[<-M];exact(ZdQ.1 hv).1
  rw[hx]at R;have:=R.cellAt (a+j) Z0;rw[Zfz,this];rw[a5]at hv;simp only[YQ]at hv⊢;rw[<-hv];simp[Zev,show a+j<a+n by omega]
 obtain⟨w3,I⟩:∃w3,w3=w2.setRow g0 (y.toList.take (xq (Zu h 0))++(J++y.toList.drop (xq (Zu h 0)+xq J))).toArray:=⟨_,rfl⟩;have a8:xq (Zu h 0)+xq J<=y.size:=by rw[M];simp at a7;omega
 have h8:∀v∈J,v.oneCell'=xy:=by
  intro v hv;rw[a5]at hv;obtain⟨_,_,rfl⟩:=Ze4.1 hv;rfl
 have h7:xq J=Nat.min n n:=by rw[M];simp
 have i2:(Sol.prog.info? 24).map (·.size)=xk 1:=by rw[c5];simp[i0]
 have d:w3.heap[b]?=xk (.cells #[.int .u64 h.base,.int .i64 h.cap,.int .i64 h.to,.bool h.cycle,.int .i64 h.scan,.slice (xk ⟨g0,0,xw⟩) (xq (Zu h 0)+n) q1,x 1,x 2,x 3,x 4] 127 (0,0)):=by
  rw[I,ZfI _ _ _ _ O.symm];exact K
 have g9:∀c,c≠b->c≠g0->c<xz (xj w)->xk c≠(x 0).ownBlock->w3.heap[c]?=w.heap[c]? :=λc A h2 h3 h4=>by
  rw[I,ZfI _ _ _ _ h2];exact g6 c A h3 h4
 have j8:xz (xj w)<=xz (xj w3):=by
  have:=z.size;have e2:xz (xj w2)=xz (xj w1):=by rw[H];simp[World.setCell]
  have e3:xz (xj w3)=xz (xj w2):=by rw[I];simp[World.setRow]
  omega
 have j0:Zu (Xw h (p+1) a n) 0=Zu h 0++((Zu h p).take (a+n)).drop a:=by
  obtain rfl|rfl:=hp<;>rfl
 have h5:∀j,j≠0->Zu (Xw h (p+1) a n) j=Zu h j:=λj o=>by
  unfold Zu Xw;simp[o]
 have S:∀j,j<5->w3.ownsRow B 24 1 (if j=0 then .slice (xk ⟨g0,0,xw⟩) (xq (Zu h 0)+n) q1 else x j) (xq (Zu (Xw h (p+1) a n) j)) (YQ .u64 (Zu (Xw h (p+1) a n) j)):=by
  intro j o;by_cases c8:j=0;subst c8;rw[if_pos rfl,j0];have hd:xq (((Zu h p).take (a+n)).drop a)=n:=ZcP;refine⟨by simp[YQ],.inr ⟨g0,q1,(y.toList.take (xq (Zu h 0))++(J++y.toList.drop (xq (Zu h 0)+xq J))).toArray,?_,a9,?_,?_,j4,?_,?_⟩⟩;rw[ZeK,hd];rw[I];exact Zib _ _ _ _ _ _ N;rw[ZeK,hd];exact j3;simp[M]at a7 a8⊢;omega;have ht:y.toList.take (xq (Zu h 0))=YQ .u64 (Zu h 0):=by
   have:=ZeY (List.take (xq (Zu h 0))) e9;rw[List.take_take,Zi6 Z0]at this;rw[this,List.take_left' h6]
  rw[ZeK,hd,ht];simp only[Zid];rw[<-ZeH,List.take_left' (by simp[h6,M]),a5];simp[YQ];rw[if_neg c8,h5 j c8];have ho:=q.own.own j o;exact WJ ho λc f=>g9 c (q.far j o c f) (λe=>by
   obtain r|⟨_,r⟩:=a6;exact q.own.apart 0 j Z0 o c (by rw[<-r,e];rfl) f;have A:=(r.lt g0 rfl).1;have h2:=(ho.lt c f).2;omega) (ho.lt c f).2 (λe=>q.own.apart 0 j Z0 o c e.symm f)
 have g3:∀j,0<j->j<5->(x j).ownBlock≠xk g0:=λj h0 o f=>by
  obtain r|⟨_,r⟩:=a6;exact q.own.apart 0 j h0 o g0 (by rw[<-r];rfl) f;have A:=(r.lt g0 rfl).1;have h2:=((q.own.own j o).lt g0 f).2;omega
 have i8:∀j,j<5->j≠p->(x j).ownBlock≠xk g:=λj o F f=>by
  have g7:(x p).ownBlock=xk g:=by rw[hx];rfl
  obtain A|A:=ZgK F;exact q.own.apart j p A Z0 g f g7;exact q.own.apart p j A o g g7 f
 have g5:B<=g:=((q.own.own p Z0).lt g (by rw[hx];rfl)).1;have b2:=q.own.own p Z0;rw[hx]at b2;have U:∀W:World,W.heap[g]?=w.heap[g]? ->W.ownsRow B 24 1 (.slice (xk ⟨g,0,xw⟩) (xq (Zu h p)) cap) (xq (Zu h p)) (YQ .u64 (Zu h p)):=λW hW=>WJ b2 λc f=>by
  cases f;exact hW
 have j1:xq (YQ .u64 (Zu h p))=xq (Zu h p):=by simp[YQ]
 have l:∀W:World,W.heap[g]?=w.heap[g]? ->(∀j,j<n->(W.cell? ⟨g,a+j,xw⟩).isSome=xy)/\(∀j,j<n->W.frozen? ⟨g,a+j,xw⟩=xh):=λW hW=>⟨λj o=>by
  rw[(U W hW).cellAt (a+j) Z0];simp[j1];omega,λj o=>(U W hW).frozenAt _⟩
 have g4:w3.heap[g]?=w.heap[g]? :=g9 g b9 b1 g8 c0;have HN:=ZdX q;have HO:=ZdX e5;have HG:=ZdX z;have f3:=ZdX H;have f4:=ZdX I;have f2:=ZdX S;have d0:w3.cell? ⟨b,0,xw⟩=xk (Value.int .u64 h.base):=Zd3;have d1:w3.cell? ⟨b,1,xw⟩=xk (Value.int .i64 h.cap):=Zd3;have d2:w3.cell? ⟨b,2,xw⟩=xk (Value.int .i64 h.to):=Zd3;have d3:w3.cell? ⟨b,3,xw⟩=xk (Value.bool h.cycle):=Zd3;have d4:w3.cell? ⟨b,4,xw⟩=xk (Value.int .i64 h.scan):=Zd3;have d5:w3.cell? ⟨b,5,xw⟩=xk (Value.slice (xk ⟨g0,0,xw⟩) (xq (Zu h 0)+n) q1):=Zd3;have d6:w3.cell? ⟨b,6,xw⟩=xk (x 1):=Zd3;have d7:w3.cell? ⟨b,7,xw⟩=xk (x 2):=Zd3;have d8:w3.cell? ⟨b,8,xw⟩=xk (x 3):=Zd3;have d9:w3.cell? ⟨b,9,xw⟩=xk (x 4):=Zd3;have j2:(Xw h (p+1) a n).ok:=Hq hh (by obtain rfl|rfl:=hp<;>exact i6) e7 Q;clear q e5 z H I S;go_enter Sol.func71,Try.ntmps71;go_wp2_with (first
  |(at_builtin;refine Lib.wpList_append_run _ rfl _ _ 35 3 rfl _ _ rfl rfl _ _ h9 ?_)
  |(rw[<-f3.out];refine wpList_copy_own rfl _ _ 35 35 rfl 24 Sol.underlying35 i2 g0 (xq (Zu h 0)) n (q1- xq (Zu h 0)) ⟨g,a,xw⟩ n c' rfl rfl y 24 N J h7 i1 a8 h8 ?_;rw[<-f4.out])
  |(go_at_call 64;refine(TL (h:=Xw h (p+1) a n) (x:=λj=>if j=0 then .slice (xk ⟨g0,0,xw⟩) (xq (Zu h 0)+n) q1 else x j) (G:=λc=>B<=c/\c<xz (xj w3)) (λc f=>f.2) (λj o=>yE (f2.out j o) (λc A h2=>⟨A,h2⟩))).mono ?_;rintro e w4 ⟨rfl,f8⟩;have t:=ZdX f8;clear f8)
  |(go_at_call 75;refine(DM j2.lay _ _ _).mono ?_;rintro e C ⟨rfl,a3⟩;have D:C.heap[g]?=w.heap[g]? :=(a3.block g (by have:=t.out.size;omega)).trans ((t.out.block g (by omega)).trans g4);have k3:xz (xj w3)<=xz (xj C):=Zes t.out.size a3.size;have a1:=ZdX a3;clear a3;obtain⟨w6,Z⟩:∃w6,w6=C.setCells g a (List.replicate n (.int .u64 0)):=⟨_,rfl⟩;have k4:xz (xj w6)=xz (xj C):=by {rw[Z];exact Ns _ _ _ _};have c6:w6.cell? ⟨g,a,xw⟩=xk (.int .u64 0):=by {rw[Z];have:=World.cell?_setCells_in g (List.replicate n (Value.int .u64 0)) a C (by simpa using(l C D).1) 0 (by simpa using Q);simpa using this};have f6:w6.frozen? ⟨g,a,xw⟩=xh:=by {rw[Z,World.frozen?_setCells];exact(l C D).2 0 Q};have a2:=ZdX Z;clear Z)
  |(refine Z8p _ rfl _ 35 rfl _ rfl _ (Lib.run_clear_slice _ _ 24 _ (.int .u64 0) Sol.underlying35 (qq c5 i3) rfl rfl g a n c' Q (l C D).1 (l C D).2) ?_;rw[<-a2.out])
  |(go_at_call 95;refine(Z5q Pu _).mono ?_;rintro e w7 ⟨rfl,a4⟩;have c7:=(a4.cell (p:=⟨g,a,xw⟩) (by show g<xz (xj w6);omega)).trans c6;have f7:=(a4.frozen (p:=⟨g,a,xw⟩) (by show g<xz (xj w6);omega)).trans f6;have b3:=ZdX a4;clear a4))
 go_ret
 have b4:Below B w w3:=by
  rw[f4.out,f3.out];exact Go.below_setRow (Zfw (p:=⟨b,5,xw⟩) ((Zeh B w).grown HG.out hB (λk hk=>((HN.out.own.own 0 Z0).lt k hk).1)) HN.out.new _) a9 _
 have i5:B<=xz (xj w3):=Z0;have b5:Below B w C:=(b4.trans (t.out.mono i5)).trans (a1.out.mono (by have:=t.out.size;omega));have b6:Below B w w6:=by rw[a2.out];exact Np g5 _ _ _ _ b5
 have b7:Below B w w7:=b6.trans (b3.out.mono Z0);have k2:=t.out.size;have j9:=a1.out.size;have f5:∀(c:Nat) (u:Value),c≠g->c<xz (xj w3)->(w7.setCell ⟨g,a,xw⟩ u).heap[c]?=w3.heap[c]? :=λc u A h2=>by
  rw[Zen _ _ _ _ A,b3.out.block c Z0,a2.out,Nr A,a1.out.block c Z0,t.out.block c h2]
 have D:C.heap[g]?=w.heap[g]? :=(a1.out.block g Z0).trans ((t.out.block g Z0).trans g4);have X:=Io (L:=Zu h p) a n 0 C Z0 (U C D);have e6:C.setCells g (a+0) (List.replicate n (.int .u64 0))=w6:=a2.out.symm;rw[e6,ZeC]at X;have e8:=WJ (w':=w7) X λc f=>by
  cases f;exact b3.out.block g Z0
 have Y:=(e8.stored a (.int .u64 (TG h (p+1) a n))).1;rw[<-Bg]at Y;refine⟨λj=>if j=0 then .slice (xk ⟨g0,0,xw⟩) (xq (Zu h 0)+n) q1 else x j,rfl,b7.setCell g5 _,?_,⟨?_,?_⟩,?_,HN.out.new⟩;rw[f5 b _ (λe=>b9 e.symm) Z0,d];obtain rfl|rfl:=hp<;>rfl;intro j o;by_cases e4:j=p;subst e4;have r:Zu (Xr (Xw h (j+1) a n) (j+1) ((zr (Zu h j) a n).set a (TG h (j+1) a n))) j=(zr (Zu h j) a n).set a (TG h (j+1) a n):=by
  obtain rfl|rfl:=hp<;>rfl
 rw[r,if_neg Z0,hx,ZgG,qV];exact Y;have r:Zu (Xr (Xw h (p+1) a n) (p+1) ((zr (Zu h p) a n).set a (TG h (p+1) a n))) j=Zu (Xw h (p+1) a n) j:=by
  have:j=0\/j=1\/j=2\/j=3\/j=4:=Z0;obtain rfl|rfl:=hp<;>obtain rfl|rfl|rfl|rfl|rfl:=this<;>first|rfl|exact(e4 rfl).elim
 rw[r];have ho:=f2.out j o;refine WJ ho λc f=>f5 c _ (λe=> ?_) (ho.lt c f).2;subst e;by_cases h0:j=0;rw[if_pos h0]at f;cases f;exact b1 rfl;rw[if_neg h0]at f;exact i8 j o e4 f;intro i j i9 o c f;rw[if_neg (Z0:¬j=0)];by_cases h0:i=0;rw[if_pos h0]at f;cases f;exact g3 j Z0 o;rw[if_neg h0]at f;exact HN.out.own.apart i j i9 o c f;intro j o c f;by_cases h0:j=0;rw[if_pos h0]at f;cases f;exact O;rw[if_neg h0]at f;exact HN.out.far j o c f
end Vm
namespace Vm
open Go Go.Proofs Go.RowKit
def FD(w:World)(B b:Nat)(h:Hp)(x:Nat->Value)(j:Now B w b h x)(o:h.ok)(p a:Nat)(q:p=2\/p=3)(g cap:Nat)
  (hx:x p=.slice (xk ⟨g,0,xw⟩) (P (Zu h p)) cap) (y:a< P (Zu h p)):
  Calls Sol.prog 68 #[.pointer (xk ⟨b,0,xw⟩),.agg #[.int .i64 ((p:Int)+1),.int .i64 a]] w λe r=>e=.returned (.slice (xk ⟨g,a,xw⟩) (P (Zu h p)-a) (cap-a))/\Below (U (R w)) w r:=by
 have f:=YC j.blk;have z:=QW o p;have l:P (Zu h p)<=cap:=by
  have:=(j.own.own p Z0).2;rw[hx]at this;obtain⟨k,_⟩|⟨_,_,_,k,_,_,n,_⟩:=this;cases k;cases k;exact n
 obtain rfl|rfl:=q
 .have t:(w.alloc (.cells #[.int .i64 3,.int .i64 a] 72)).cell? ⟨b,7,xw⟩=xk (.slice (xk ⟨g,0,xw⟩) (P (Zu h 2)) cap):=by
   rw[Zfl _ _ _ f,Ze6 _ _ _ _ _ _ j.blk,<-hx];rfl
  have d:(P (Zu h 2):Int)<=9223372036854775807:=Z0;go_enter Sol.func68,Try.ntmps68;go_wp2;go_region;go_wp2;go_ret
  exact⟨rfl,((Zeh _ _).alloc (ZdU _) _).drew⟩
 .have u:(w.alloc (.cells #[.int .i64 4,.int .i64 a] 72)).cell? ⟨b,8,xw⟩=xk (.slice (xk ⟨g,0,xw⟩) (P (Zu h 3)) cap):=by
   rw[Zfl _ _ _ f,Ze6 _ _ _ _ _ _ j.blk,<-hx];rfl
  have d:(P (Zu h 3):Int)<=9223372036854775807:=Z0;go_enter Sol.func68,Try.ntmps68;go_wp2;go_region;go_wp2;go_ret
  exact⟨rfl,((Zeh _ _).alloc (ZdU _) _).drew⟩
end Vm
namespace Vm
open Go Go.Proofs Go.RowKit
def Qq(w:World)(r:Int×Hp×Int)(e:Ending)(w':World):Prop:=
 ∃x,e=.returned (.tuple #[.int .u64 r.1,ZN r.2.1 x,.int .i64 r.2.2])/\Below (U (R w)) w w'/\HOwn (U (R w)) w' r.2.1 x
def KF{B' B:Nat}{w:World}{e:TypeId}{n:Nat}{v:Value}{l:List Value}(h:w.ownsRow B' e 1 v n l)(j:∀c,B'<=c->c<U (R w)->B<=c/\c<U (R w)):w.ownsRow B e 1 v n l:=by
 refine⟨h.1,?_⟩;obtain f|⟨g,cap,a,o,k,d,r⟩:=h.2;exact .inl f;exact .inr ⟨g,cap,a,o,(j g k (YC d)).1,d,r⟩
def OJ(w':World)(G:Nat->Prop):∀j,j<5->Rd w' G (.sl ((Zu Hp.zero j).map vu)) (.slice xw 0 0):=λj a=>by
 have:Zu Hp.zero j=[]:=by
  unfold Zu Hp.zero;split;rfl;split;rfl;split;rfl;split<;>rfl
 rw[this];exact .nil _ _ Zdu
def Ju(B:Nat)(w':World):HOwn B w' Hp.zero (λ_=>.slice xw 0 0):=⟨λj d=>by
 have:Zu Hp.zero j=[]:=by
  unfold Zu Hp.zero;split;rfl;split;rfl;split;rfl;split<;>rfl
 rw[this];exact Zff _ _ _ _,λi j _ _ c a=>by cases a⟩
def ZW:Array Value:=#[.int .u64 0,.int .i64 0,.int .i64 0,.bool xh,.int .i64 0,.slice xw 0 0,.slice xw 0 0,.slice xw 0 0,.slice xw 0 0,.slice xw 0 0]
def TJ(w:World)(o:Obj):((w.alloc o).alloc (.cells #[.int .u64 0,.int .i64 0,.int .i64 0,.bool xh,.int .i64 0,.slice xw 0 0,.slice xw 0 0,.slice xw 0 0,.slice xw 0 0,.slice xw 0 0] 37)).heap[U (R w)+1]?=xk (.cells ZW 37 (0,0)):=by
 have e:U (R (w.alloc o))=U (R w)+1:=Z1;have:=Zej (w.alloc o) (.cells ZW 37);rw[e]at this;exact this
def C7{w2:World}{b:Nat}{T:TypeId}(a:w2.heap[b]?=xk (.cells ZW T (0,0)))(v0 v1 d f v4 g v6 h j k:Value):((((((((((w2.setCell ⟨b,0,xw⟩ v0).setCell ⟨b,1,xw⟩ v1).setCell ⟨b,2,xw⟩ d).setCell ⟨b,3,xw⟩ f).setCell ⟨b,4,xw⟩ v4).setCell ⟨b,5,xw⟩ g).setCell ⟨b,6,xw⟩ v6).setCell ⟨b,7,xw⟩ h).setCell ⟨b,8,xw⟩ j).setCell ⟨b,9,xw⟩ k).heap[b]?=xk (.cells #[v0,v1,d,f,v4,g,v6,h,j,k] T (0,0)):=by
 unfold ZW at a;simp[World.setCell,ZeF,a]
def VP{w2:World}{b:Nat}{T:TypeId}(l:w2.heap[b]?=xk (.cells ZW T (0,0)))(v0 v1 a d v4 f v6 g h k:Value)(j:Nat):((((((((((w2.setCell ⟨b,0,xw⟩ v0).setCell ⟨b,1,xw⟩ v1).setCell ⟨b,2,xw⟩ a).setCell ⟨b,3,xw⟩ d).setCell ⟨b,4,xw⟩ v4).setCell ⟨b,5,xw⟩ f).setCell ⟨b,6,xw⟩ v6).setCell ⟨b,7,xw⟩ g).setCell ⟨b,8,xw⟩ h).setCell ⟨b,9,xw⟩ k).cell? ⟨b,j,xw⟩=(#[v0,v1,a,d,v4,f,v6,g,h,k]:Array Value)[j]? :=
 Ze6 _ _ _ _ _ _ (C7 l v0 v1 a d v4 f v6 g h k)
def V2{B:Nat}{w0 w2:World}{b:Nat}(h:Below B w0 w2)(a:B<=b)(v0 v1 d f v4 g v6 j k l:Value):Below B w0 ((((((((((w2.setCell ⟨b,0,xw⟩ v0).setCell ⟨b,1,xw⟩ v1).setCell ⟨b,2,xw⟩ d).setCell ⟨b,3,xw⟩ f).setCell ⟨b,4,xw⟩ v4).setCell ⟨b,5,xw⟩ g).setCell ⟨b,6,xw⟩ v6).setCell ⟨b,7,xw⟩ j).setCell ⟨b,8,xw⟩ k).setCell ⟨b,9,xw⟩ l):=
 (((((((((h.setCell a _).setCell a _).setCell a _).setCell a _).setCell a _).setCell a _).setCell a _).setCell a _).setCell a _).setCell a _
def Q9{w2:World}{b c:Nat}(hc:c≠b)(v0 v1 a d v4 f v6 g h j:Value):((((((((((w2.setCell ⟨b,0,xw⟩ v0).setCell ⟨b,1,xw⟩ v1).setCell ⟨b,2,xw⟩ a).setCell ⟨b,3,xw⟩ d).setCell ⟨b,4,xw⟩ v4).setCell ⟨b,5,xw⟩ f).setCell ⟨b,6,xw⟩ v6).setCell ⟨b,7,xw⟩ g).setCell ⟨b,8,xw⟩ h).setCell ⟨b,9,xw⟩ j).heap[c]?=w2.heap[c]? :=by
 have:¬b=c:=λe=>hc e.symm;simp[World.setCell,ZeF,this]
end Vm
namespace Vm
open Go Go.Proofs Go.RowKit
def qR(h:Hp)(x:Nat->Value):Obj:=.cells #[.int .u64 h.base,.int .i64 h.cap,.int .i64 h.to,.bool h.cycle,.int .i64 h.scan,x 0,x 1,x 2,x 3,x 4] 127
def Bf{B:Nat}{a:World}{h:Hp}{x:Nat->Value}(f:HOwn B a h x)(k:B<=U (R a)):Now B (a.alloc (qR h x)) (U (R a)) h x:=by
 refine⟨Zej a _,⟨λj d=> ?_,f.apart⟩,λj d c g=> ?_,k⟩;exact WJ (f.own j d) λc g=>ZdY _ _ _ ((f.own j d).lt c g).2;have:=((f.own j d).lt c g).2;omega
def Z0K(W:World):W.drew.heap=W.heap:=rfl
def C8{w2:World}{b c:Nat}(hc:c≠b)(v0 v1 a d v4 f v6 g h j:Value):((((((((((w2.setCell ⟨b,0,xw⟩ v0).setCell ⟨b,1,xw⟩ v1).setCell ⟨b,2,xw⟩ a).setCell ⟨b,3,xw⟩ d).setCell ⟨b,4,xw⟩ v4).setCell ⟨b,5,xw⟩ f).setCell ⟨b,6,xw⟩ v6).setCell ⟨b,7,xw⟩ g).setCell ⟨b,8,xw⟩ h).setCell ⟨b,9,xw⟩ j).drew.heap[c]?=w2.heap[c]? :=by
 rw[Z0K];exact Q9 hc v0 v1 a d v4 f v6 g h j
def Bq{w:World}{B n q:Nat}{e:TypeId}{z:Nat}{a:Option Addr}{v:Value}{xs:List Value}(h:w.ownsRow B e z v n xs)(j:v=.slice a n q)(l:0<n):∃g,a=xk ⟨g,0,xw⟩:=by
 subst j;obtain⟨_,k⟩|⟨g,cap,d,f,_⟩:=h.2;omega;cases f;exact⟨g,rfl⟩
def Z4L{w:World}{B n q:Nat}{e:TypeId}{z:Nat}{a:Option Addr}{xs:List Value}(h:w.ownsRow B e z (.slice a n q) n xs)(o:0<n):n<=q/\q<=maxLen:=by
 obtain⟨_,l⟩|⟨g,cap,d,k,_,_,f,j,_⟩:=h.2;omega;cases k;exact⟨f,j⟩
def Q6{w:World}{B g cap:Nat}{l:List Int}(h:w.ownsRow B 24 1 (.slice (xk ⟨g,0,xw⟩) (P l) cap) (P l) (YQ .u64 l)){i:Nat}{v:Int}(a:l[i]?=xk v):w.cell? ⟨g,i,xw⟩=xk (.int .u64 v):=by
 obtain⟨d,f⟩:=ZdQ.1 a;rw[h.cellAt i Z0];simp[YQ,a]
structure FwSt (w W:World) (rb lb kb b B:Nat) (part at_:Int) (h:Hp) (x:Nat->Value):Prop where
 res:W.heap[rb]?=xk (.cells ZW 37 (0,0))
 lay:W.heap[lb]?=xk (.cells #[.int .u64 (Zv h).base,.int .i64 (Zv h).cap,.int .i64 (Zv h).to,.int .i64 (Zv h).low,.int .i64 (Zv h).high,.int .i64 (Zv h).old,.int .i64 (Zv h).far] 69 (0,0))
 plc:W.heap[kb]?=xk (.cells #[.int .i64 part,.int .i64 at_] 72 (0,0))
 now:Now B W b h x
 bel:Below (U (R w)) w W
 old:U (R w)<=rb
 rbB:rb<B
 lbB:lb<B
 kbB:kb<B
 sz:B<=U (R W)
def FwSt.below{w W f:World}{l lb k b B:Nat}{part at_:Int}{h:Hp}{x:Nat->Value}(s:FwSt w W l lb k b B part at_ h x)(a:Below (U (R W)) W f):FwSt w f l lb k b B part at_ h x:=by
 have t:=s.sz;have n:=s.rbB;have o:=s.lbB;have p:=s.kbB;have r:=a.size;have d:=s.bel.size;refine⟨(a.block _ Z0).trans s.res,(a.block _ Z0).trans s.lay,(a.block _ Z0).trans s.plc,⟨(a.block _ (YC s.now.blk)).trans s.now.blk,⟨λj g=> ?_,s.now.own.apart⟩,s.now.far,s.now.new⟩,s.bel.trans (a.mono d),s.old,n,o,p,Z0⟩;exact WJ (s.now.own.own j g) λc q=>a.block _ ((s.now.own.own j g).lt c q).2
def FwSt.drew{w W:World}{d lb a b B:Nat}{part at_:Int}{h:Hp}{x:Nat->Value}(s:FwSt w W d lb a b B part at_ h x):FwSt w W.drew d lb a b B part at_ h x:=
 ⟨s.res,s.lay,s.plc,⟨s.now.blk,⟨λj f=>WJ (s.now.own.own j f) λc g=>rfl,s.now.own.apart⟩,s.now.far,s.now.new⟩,s.bel.drew,s.old,s.rbB,s.lbB,s.kbB,s.sz⟩
def FwSt.F{w W:World}{a lb d b B:Nat}{part at_:Int}{h:Hp}{x:Nat->Value}(s:FwSt w W a lb d b B part at_ h x):(∀j,W.cell? ⟨a,j,xw⟩=(#[.int .u64 0,.int .i64 0,.int .i64 0,.bool xh,.int .i64 0,.slice xw 0 0,.slice xw 0 0,.slice xw 0 0,.slice xw 0 0,.slice xw 0 0]:Array Value)[j]?)/\(∀j,W.frozen? ⟨a,j,xw⟩=xh)/\
  (∀j,W.cell? ⟨b,j,xw⟩=(#[.int .u64 h.base,.int .i64 h.cap,.int .i64 h.to,.bool h.cycle,.int .i64 h.scan,x 0,x 1,x 2,x 3,x 4]:Array Value)[j]?)/\(∀j,W.cell? ⟨d,j,xw⟩=(#[.int .i64 part,.int .i64 at_]:Array Value)[j]?)/\∀j,W.cell? ⟨lb,j,xw⟩=(#[.int .u64 (Zv h).base,.int .i64 (Zv h).cap,.int .i64 (Zv h).to,.int .i64 (Zv h).low,.int .i64 (Zv h).high,.int .i64 (Zv h).old,.int .i64 (Zv h).far]:Array Value)[j]? :=
 ⟨λj=>Ze6 _ _ _ _ _ _ s.res,λj=>Yi s.res,λj=>Ze6 _ _ _ _ _ _ s.now.blk,λj=>Ze6 _ _ _ _ _ _ s.plc,λj=>Ze6 _ _ _ _ _ _ s.lay⟩
def Pb(w:World)(G:Nat->Prop)(O:∀b,G b->b<xz (xj w))(h:Hp)(hh:h.ok)(p:Nat->Value)(hs:∀j,j<5->Rd w G (.sl ((Zu h j).map vu)) (p j))(v:Int)(hv:ZC v)
  (hr:ZI (Zv h)=xy) (Z:¬v=0) (h1:(adr v).2=0) (part:Int) (at_:Nat) (hf:Ye (Zv h) (adr v).1=(part,(at_:Int),0)) (hp:part=1\/part=2):
  Calls Sol.prog 33 #[ZN h p,.int .u64 v] w (Qq w (fwd h v)):=by
 have HS:=ZdX hs;have R:=ZdX hh;clear hs hh;unfold ZN;go_enter Sol.func33,Try.ntmps33;obtain rfl|rfl:=hp;all_goals
  go_wp2_with (first
   |(go_at_call 64;go_loud (refine(TL (h:=h) (x:=p) (G:=G) (λc T=>by have:=O c T;simp;omega) (λj M=>(HS.out j M).keep (λb L=>by have:=O b L;rw[ZdY _ _ _ (by simp;omega),ZdY _ _ _ (by omega)]) (λ_ h=>h))).mono ?_;rintro e w1 ⟨rfl,n⟩;unfold Vu;have z1:=(n.block (xz (xj w)+1) (by simp)).trans (TJ w _);have p1:=(n.block (xz (xj w)) (by simp;omega)).trans ((ZdY _ _ (xz (xj w)) (by simp)).trans (Zej w _));have W:=n.size;simp at W;have P:=ZdX n;clear n))
   |(go_at_call 65;go_loud (refine(Qe R.out.lay _).mono ?_;rintro e w2 ⟨rfl,d⟩;rw[hr];have z2:=(d.block (xz (xj w)+1) (by simp;omega)).trans ((ZdY w1 _ (xz (xj w)+1) (by omega)).trans z1);have p2:=(d.block (xz (xj w)) (by simp;omega)).trans ((ZdY w1 _ (xz (xj w)) (by omega)).trans p1);have x2:=λj=>Ze6 _ _ j _ _ _ p2;have r:Below (xz (xj w)) w w2:=((((((Zeh _ _).alloc (ZdU _) _).alloc (by simp) _).trans (P.out.mono (by simp;omega))).alloc (by omega) _).trans (d.mono (by simp;omega)));have X:=d.size;simp at X;have m2:=(d.block (xz (xj w1)) (by simp)).trans (Zej w1 _);have A:=ZdX r;clear d r))
   |(go_at_call 44;go_loud (refine(VY hv _).mono ?_;rintro e w3 ⟨rfl,f⟩;have z3:=(f.block (xz (xj w)+1) (by omega)).trans z2;have p3:=(f.block (xz (xj w)) (by omega)).trans p2;have m3:=(f.block (xz (xj w1)) (by omega)).trans m2;have l3:=λj=>Ze6 _ _ j _ _ _ m3;have a7:=f.size;have Q:=ZdX f;clear f))
   |(go_at_call 67;go_loud (refine(ze R.out.lay (LC hv) _).mono ?_;rintro e w4 ⟨rfl,g⟩;rw[hf];dsimp only;have a8:=g.size;have z4:=λo=>(ZdY w4 o (xz (xj w)+1) (by omega)).trans ((g.block (xz (xj w)+1) (by omega)).trans z3);have p4:=λo=>(ZdY w4 o (xz (xj w)) (by omega)).trans ((g.block (xz (xj w)) (by omega)).trans p3);have x4:=λo j=>Ze6 _ _ j _ _ _ (p4 o);have t:∀o,Below (xz (xj w)) w (w4.alloc o):=λo=>((A.out.trans (Q.out.mono (by omega))).trans (g.mono (by omega))).alloc (by omega) o;have m4:=λo=>(ZdY w4 o (xz (xj w1)) (by omega)).trans ((g.block (xz (xj w1)) (by omega)).trans m3);have q:=ZdX t;clear g t z3 p3 m3 l3 z2 p2 x2 m2))
   |(go_at_call 66;go_loud (refine(Lu _ G (λb L=>by have:=O b L;simp;omega) h R.out p (λj M=>(HS.out j M).keep (λb L=>(q.out _).block b (O b L)) (λ_ h=>h))).mono ?_;rintro e z ⟨x,rfl,k,a⟩;obtain⟨a0,q0,C⟩:=Yn (a.own 0 Z0);obtain⟨a1,q1,D⟩:=Yn (a.own 1 Z0);obtain⟨a2,q2,H⟩:=Yn (a.own 2 Z0);obtain⟨a3,q3,I⟩:=Yn (a.own 3 Z0);obtain⟨a4,q4,J⟩:=Yn (a.own 4 Z0);unfold ZN;rw[C,D,H,I,J];have Y:=k.size;simp at Y;have N:∀o,xz (xj (w4.alloc o))=xz (xj w4)+1:=λo=>Z1;rw[N]at a;have K:=Bf a Z0;unfold qR at K;rw[C,D,H,I,J]at K;have l:∀o,Below (xz (xj w)) w (z.alloc o):=λo=>((q.out _).trans (k.mono ZcP)).alloc Z0 o;have z6:=λo=>(ZdY z o (xz (xj w)+1) Z0).trans ((k.block (xz (xj w)+1) ZcP).trans (z4 _));have u:FwSt w (z.alloc _) (xz (xj w)+1) (xz (xj w1)) (xz (xj w4)) (xz (xj z)) (xz (xj w4)+1) _ (at_:Nat) h x:=⟨z6 _,(ZdY z _ (xz (xj w1)) Z0).trans ((k.block (xz (xj w1)) ZcP).trans (m4 _)),(ZdY z _ (xz (xj w4)) Z0).trans ((k.block (xz (xj w4)) Z1).trans (Zej w4 _)),K,l _,Z0,Z0,Z0,Z0,ZcP⟩;obtain⟨y6,f6,a5,a9,b0⟩:=u.F;rw[C,D,H,I,J]at a5;have S:=ZdX u;clear u;have B:=ZdX l;have HN:=ZdX K;have E0:=ZdX C;have E1:=ZdX D;have E2:=ZdX H;have E3:=ZdX I;have E4:=ZdX J;clear l K C D H I J a k z4 p4 x4 m4)))
  go_region;all_goals
   go_wp2;try simp only[Exit.inBlock,Exit.then]
   have y:=VP S.out.res (.int .u64 h.base) (.int .i64 h.cap) (.int .i64 h.to) (.bool h.cycle) (.int .i64 h.scan) (.slice a0 (xq (Zu h 0)) q0) (.slice a1 (xq (Zu h 1)) q1) (.slice a2 (xq (Zu h 2)) q2) (.slice a3 (xq (Zu h 3)) q3) (.slice a4 (xq (Zu h 4)) q4);have U:fwd h v=(v,h,0):=by simp[fwd,hr,Z,h1,hf]
   rw[U];refine ZeP (v:=.tuple #[.int .u64 v,ZN h x,.int .i64 0]) ?_ rfl ?_
   .unfold ZN;rw[E0.out,E1.out,E2.out,E3.out,E4.out];simp[results,Try.results33,go_sem,y]
   refine⟨x,rfl,?_,?_⟩;exact(V2 (B.out _) Z0 _ _ _ _ _ _ _ _ _ _).drew;refine⟨λj M=> ?_,HN.out.own.apart⟩;have ho:=HN.out.own.own j M;refine KF (WJ ho ?_) ?_;intro c T;have a6:=(ho.lt c T).1;exact C8 Z0 _ _ _ _ _ _ _ _ _ _;intro c h1 h2;exact⟨Z0,h2⟩
def Pa(w:World)(G:Nat->Prop)(hG:∀b,G b->b<xz (xj w))(h:Hp)(hh:h.ok)(A:Nat->Value)(hs:∀j,j<5->Rd w G (.sl ((Zu h j).map vu)) (A j))(v:Int)(hv:ZC v)
  (hr:ZI (Zv h)=xy) (b7:¬v=0) (h1:(adr v).2=0) (part:Int) (at_:Nat) (hf:Ye (Zv h) (adr v).1=(part,(at_:Int),0)) (j:Nat) (M:((j:Nat):Int)+1=part) (hp:part=3\/part=4)
  (C:Int) (z:(Zu h j)[at_]?=xk C) (d5:at_< xq (Zu h j)) (b8:ZC C) (b1:(adr C).2=0):
  Calls Sol.prog 33 #[ZN h A,.int .u64 v] w (Qq w (fwd h v)):=by
 have HS:=ZdX hs;have HH:=ZdX hh;clear hs hh;unfold ZN;go_enter Sol.func33,Try.ntmps33;obtain rfl|rfl:=hp;all_goals
  have d7:j=2\/j=3:=Z0;go_wp2_with (first
   |(go_at_call 68;go_loud (have L:=FD _ (xz (xj w4)+1) (xz (xj P)) h x R.out.now HH.out j at_ (by omega) g qj EP.out (by omega);rw[M]at L;refine L.mono ?_;clear L;rintro e w7 ⟨rfl,J⟩;obtain⟨m,hm⟩:∃m,xq (Zu h j)-at_=m:=⟨_,rfl⟩;obtain⟨qm,b2⟩:∃qm,qj-at_=qm:=⟨_,rfl⟩;rw[hm,b2];have d8:0<m:=(by omega);have d0:(0:Int)< (m:Int):=(by omega);have c6:at_+0=at_:=rfl;have d:=R.out.below J;have b6:=J.size;simp at b6;obtain⟨y7,f7,c0,f0,f3⟩:=d.F;rw[E0.out,E1.out,E2.out,E3.out,E4.out]at c0;have r:=d.now.own.own j (by omega);rw[EP.out]at r;have c7:=Q6 r z;have a9:=ZdX d;clear J d r))
   |(go_at_call 44;go_loud (have d:=a9.out;refine(VY b8 _).mono ?_;rintro e w8 ⟨rfl,K⟩;have B:=d.below K;have e8:=K.size;obtain⟨y8,f8,c1,f1,f4⟩:=B.F;rw[E0.out,E1.out,E2.out,E3.out,E4.out]at c1;have t:=B.now.own.own j (by omega);rw[EP.out]at t;have c8:=Q6 t z;have u:=ZdX B;clear K B d t))
   |(go_at_call 64;go_loud (refine(TL (h:=h) (x:=A) (G:=G) (λc hc=>by have:=hG c hc;simp;omega) (λj M=>(HS.out j M).keep (λb Z=>by have:=hG b Z;rw[ZdY _ _ _ (by simp;omega),ZdY _ _ _ (by omega)]) (λ_ h=>h))).mono ?_;rintro e w1 ⟨rfl,q⟩;unfold Vu;have z1:=(q.block (xz (xj w)+1) (by simp)).trans (TJ w _);have p1:=(q.block (xz (xj w)) (by simp;omega)).trans ((ZdY _ _ (xz (xj w)) (by simp)).trans (Zej w _));have b3:=q.size;simp at b3;have a7:=ZdX q;clear q))
   |(go_at_call 65;go_loud (refine(Qe HH.out.lay _).mono ?_;rintro e w2 ⟨rfl,f⟩;rw[hr];have z2:=(f.block (xz (xj w)+1) (by simp;omega)).trans ((ZdY w1 _ (xz (xj w)+1) (by omega)).trans z1);have p2:=(f.block (xz (xj w)) (by simp;omega)).trans ((ZdY w1 _ (xz (xj w)) (by omega)).trans p1);have x2:=λj=>Ze6 _ _ j _ _ _ p2;have H:Below (xz (xj w)) w w2:=((((((Zeh _ _).alloc (ZdU _) _).alloc (by simp) _).trans (a7.out.mono (by simp;omega))).alloc (by omega) _).trans (f.mono (by simp;omega)));have b4:=f.size;simp at b4;have m2:=(f.block (xz (xj w1)) (by simp)).trans (Zej w1 _);have Q:=ZdX H;clear f H))
   |(go_at_call 44;go_loud (refine(VY hv _).mono ?_;rintro e w3 ⟨rfl,k⟩;have z3:=(k.block (xz (xj w)+1) (by omega)).trans z2;have p3:=(k.block (xz (xj w)) (by omega)).trans p2;have m3:=(k.block (xz (xj w1)) (by omega)).trans m2;have l3:=λj=>Ze6 _ _ j _ _ _ m3;have e6:=k.size;have a8:=ZdX k;clear k))
   |(go_at_call 67;go_loud (refine(ze HH.out.lay (LC hv) _).mono ?_;rintro e w4 ⟨rfl,l⟩;rw[hf];dsimp only;have e7:=l.size;have z4:=λo=>(ZdY w4 o (xz (xj w)+1) (by omega)).trans ((l.block (xz (xj w)+1) (by omega)).trans z3);have p4:=λo=>(ZdY w4 o (xz (xj w)) (by omega)).trans ((l.block (xz (xj w)) (by omega)).trans p3);have x4:=λo j=>Ze6 _ _ j _ _ _ (p4 o);have I:∀o,Below (xz (xj w)) w (w4.alloc o):=λo=>((Q.out.trans (a8.out.mono (by omega))).trans (l.mono (by omega))).alloc (by omega) o;have m4:=λo=>(ZdY w4 o (xz (xj w1)) (by omega)).trans ((l.block (xz (xj w1)) (by omega)).trans m3);have D:=ZdX I;clear l I z3 p3 m3 l3 z2 p2 x2 m2))
   |(go_at_call 66;go_loud (refine(Lu _ G (λb Z=>by have:=hG b Z;simp;omega) h HH.out A (λj M=>(HS.out j M).keep (λb Z=>(D.out _).block b (hG b Z)) (λ_ h=>h))).mono ?_;rintro e P ⟨x,rfl,n,a⟩;obtain⟨a0,q0,S⟩:=Yn (a.own 0 Z0);obtain⟨a1,q1,T⟩:=Yn (a.own 1 Z0);obtain⟨a2,q2,U⟩:=Yn (a.own 2 Z0);obtain⟨a3,q3,W⟩:=Yn (a.own 3 Z0);obtain⟨a4,q4,X⟩:=Yn (a.own 4 Z0);obtain⟨aj,qj,ej⟩:=Yn (a.own j Z0);obtain⟨g,hg⟩:=Bq (a.own j Z0) ej Z0;subst hg;unfold ZN;rw[S,T,U,W,X];have b5:=n.size;simp at b5;have a6:∀o,xz (xj (w4.alloc o))=xz (xj w4)+1:=λo=>Z1;rw[a6]at a;have Y:=Bf a Z0;unfold qR at Y;rw[S,T,U,W,X]at Y;have p:∀o,Below (xz (xj w)) w (P.alloc o):=λo=>((D.out _).trans (n.mono ZcP)).alloc Z0 o;have z6:=λo=>(ZdY P o (xz (xj w)+1) Z0).trans ((n.block (xz (xj w)+1) ZcP).trans (z4 _));have O:FwSt w (P.alloc _) (xz (xj w)+1) (xz (xj w1)) (xz (xj w4)) (xz (xj P)) (xz (xj w4)+1) _ (at_:Nat) h x:=⟨z6 _,(ZdY P _ (xz (xj w1)) Z0).trans ((n.block (xz (xj w1)) ZcP).trans (m4 _)),(ZdY P _ (xz (xj w4)) Z0).trans ((n.block (xz (xj w4)) Z1).trans (Zej w4 _)),Y,p _,Z0,Z0,Z0,Z0,ZcP⟩;obtain⟨y6,f6,b9,e9,f2⟩:=O.F;rw[S,T,U,W,X]at b9;have R:=ZdX O;have EP:=ZdX ej;clear ej;clear O;have c5:=ZdX p;have HN:=ZdX Y;have E0:=ZdX S;have E1:=ZdX T;have E2:=ZdX U;have E3:=ZdX W;have E4:=ZdX X;clear p Y S T U W X a n z4 p4 x4 m4)))
  have b0:fwd h v=(C,h,0):=by
   first
   | (have N:j=2:=by omega
      subst N)
   | (have N:j=3:=by omega
      subst N)
   first
   |have a5:h.old.getD at_ 0=C:=by show(Zu h 2).getD at_ 0=C;simp[List.getD,z]
   |have a5:h.far.getD at_ 0=C:=by show(Zu h 3).getD at_ 0=C;simp[List.getD,z]
   have d9:xq h.old=xq (Zu h 2):=rfl;have e5:xq h.far=xq (Zu h 3):=rfl;simp[fwd,hr,b7,h1,hf,-List.getD_eq_getElem?_getD,a5,b1]
  go_region;all_goals
   go_wp2;try simp only[Exit.inBlock,Exit.then]
   have y:=VP u.out.res (.int .u64 h.base) (.int .i64 h.cap) (.int .i64 h.to) (.bool h.cycle) (.int .i64 h.scan) (.slice a0 (xq (Zu h 0)) q0) (.slice a1 (xq (Zu h 1)) q1) (.slice a2 (xq (Zu h 2)) q2) (.slice a3 (xq (Zu h 3)) q3) (.slice a4 (xq (Zu h 4)) q4);rw[b0];refine ZeP (v:=.tuple #[.int .u64 C,ZN h x,.int .i64 0]) ?_ rfl ?_
   .unfold ZN;rw[E0.out,E1.out,E2.out,E3.out,E4.out];simp[results,Try.results33,go_sem,y]
   refine⟨x,rfl,?_,?_⟩;exact(V2 u.out.bel Z0 _ _ _ _ _ _ _ _ _ _).drew;refine⟨λj M=> ?_,u.out.now.own.apart⟩;have ho:=u.out.now.own.own j M;refine KF (WJ ho ?_) ?_;intro c hc;have d6:=(ho.lt c hc).1;exact C8 Z0 _ _ _ _ _ _ _ _ _ _;intro c h1 h2;exact⟨Z0,h2⟩
def Dw(w:World)(G:Nat->Prop)(hG:∀b,G b->b<xz (xj w))(h:Hp)(hh:h.ok)(f0:Nat->Value)(hs:∀j,j<5->Rd w G (.sl ((Zu h j).map vu)) (f0 j))(v:Int)(hv:ZC v)
  (hr:ZI (Zv h)=xy) (e9:¬v=0) (h1:(adr v).2=0) (part:Int) (at_:Nat) (hf:Ye (Zv h) (adr v).1=(part,(at_:Int),0)) (j:Nat) (hj:((j:Nat):Int)+1=part) (hp:part=3\/part=4)
  (I:Int) (q:(Zu h j)[at_]?=xk I) (n2:at_< xq (Zu h j)) (j5:ZC I) (e8:¬(adr I).2=0) (sz:Nat) (pt er:Int) (d9:ZS I=((sz:Int),pt,er)) (o1:sz<=255)
  (hc:¬er=0\/(er=0/\xq (Zu h j)<at_+(sz+1))\/(er=0/\at_+(sz+1)<=xq (Zu h j)/\Xx (Zv h)< ((sz+1:Nat):Int))\/(er=0/\at_+(sz+1)<=xq (Zu h j)/\¬Xx (Zv h)< ((sz+1:Nat):Int))):
  Calls Sol.prog 33 #[ZN h f0,.int .u64 v] w (Qq w (fwd h v)):=by
 have HS:=ZdX hs;have HH:=ZdX hh;clear hs hh;unfold ZN;go_enter Sol.func33,Try.ntmps33;obtain S|⟨S,k9⟩|⟨S,O,X⟩|⟨S,O,X⟩:=hc;all_goals obtain rfl|rfl:=hp
 all_goals
  have n4:j=2\/j=3:=Z0;go_wp2_with (first
   |(go_at_call 68;go_loud (have h8:=FD _ (xz (xj w4)+1) (xz (xj K)) h x i8.out.now HH.out j at_ (by omega) g qj EP.out (by omega);rw[hj]at h8;refine h8.mono ?_;clear h8;rintro e w7 ⟨rfl,h5⟩;obtain⟨m,hm⟩:∃m,xq (Zu h j)-at_=m:=⟨_,rfl⟩;obtain⟨qm,h9⟩:∃qm,qj-at_=qm:=⟨_,rfl⟩;rw[hm,h9];have n5:0<m:=(by omega);have m5:(0:Int)< (m:Int):=(by omega);have f5:at_+0=at_:=rfl;have Y:=i8.out.below h5;have l4:=h5.size;simp at l4;obtain⟨y7,f7,i0,j6,j8⟩:=Y.F;rw[E0.out,E1.out,E2.out,E3.out,E4.out]at i0;have d6:=Y.now.own.own j (by omega);rw[EP.out]at d6;have c7:=Q6 d6 q;have k6:=ZdX Y;clear h5 Y d6))
   |(go_at_call 44;go_loud (have Y:=k6.out;refine(VY j5 _).mono ?_;rintro e w8 ⟨rfl,h6⟩;have f1:=Y.below h6;have n9:=h6.size;obtain⟨y8,f8,i1,j7,j9⟩:=f1.F;rw[E0.out,E1.out,E2.out,E3.out,E4.out]at i1;have d7:=f1.now.own.own j (by omega);rw[EP.out]at d7;have c8:=Q6 d7 q;have k7:=ZdX f1;clear h6 f1 Y d7))
   |(go_at_call 69;go_loud (refine(Ll j5 _).mono ?_;rintro e t ⟨rfl,h7⟩;rw[d9];dsimp only;have o0:=h7.size;have a8:FwSt w (t.alloc (.cells #[.int .i64 (sz:Nat),.int .i64 pt] 52)) _ _ _ _ _ _ _ h x:=(k7.out.below h7).below ((Zeh _ _).alloc (ZdU _) _);obtain⟨k2,j0,e5,g6,d⟩:=a8.F;rw[E0.out,E1.out,E2.out,E3.out,E4.out]at e5;have T:=a8.now.own.own j (by omega);rw[EP.out]at T;have n0:=Q6 T q;have a7:=λj=>Ze6 _ _ j _ _ _ (Zej t (.cells #[.int .i64 (sz:Nat),.int .i64 pt] 52));have z:=ZdX a8;have n6:m<=1000000:=(by have:=QW HH.out j;omega);have m1:at_+m=xq (Zu h j):=(by omega);clear h7 a8 T))
   |(go_at_call 64;go_loud (refine(TL (h:=h) (x:=f0) (G:=G) (λc hc=>by have:=hG c hc;simp;omega) (λj hj=>(HS.out j hj).keep (λb p=>by have:=hG b p;rw[ZdY _ _ _ (by simp;omega),ZdY _ _ _ (by omega)]) (λ_ h=>h))).mono ?_;rintro e w1 ⟨rfl,b9⟩;unfold Vu;have z1:=(b9.block (xz (xj w)+1) (by simp)).trans (TJ w _);have p1:=(b9.block (xz (xj w)) (by simp;omega)).trans ((ZdY _ _ (xz (xj w)) (by simp)).trans (Zej w _));have l0:=b9.size;simp at l0;have k4:=ZdX b9;clear b9))
   |(go_at_call 65;go_loud (refine(Qe HH.out.lay _).mono ?_;rintro e w2 ⟨rfl,a9⟩;rw[hr];have z2:=(a9.block (xz (xj w)+1) (by simp;omega)).trans ((ZdY w1 _ (xz (xj w)+1) (by omega)).trans z1);have p2:=(a9.block (xz (xj w)) (by simp;omega)).trans ((ZdY w1 _ (xz (xj w)) (by omega)).trans p1);have x2:=λj=>Ze6 _ _ j _ _ _ p2;have f9:Below (xz (xj w)) w w2:=((((((Zeh _ _).alloc (ZdU _) _).alloc (by simp) _).trans (k4.out.mono (by simp;omega))).alloc (by omega) _).trans (a9.mono (by simp;omega)));have l1:=a9.size;simp at l1;have m2:=(a9.block (xz (xj w1)) (by simp)).trans (Zej w1 _);have i3:=ZdX f9;clear a9 f9))
   |(go_at_call 44;go_loud (refine(VY hv _).mono ?_;rintro e w3 ⟨rfl,b5⟩;have z3:=(b5.block (xz (xj w)+1) (by omega)).trans z2;have p3:=(b5.block (xz (xj w)) (by omega)).trans p2;have m3:=(b5.block (xz (xj w1)) (by omega)).trans m2;have l3:=λj=>Ze6 _ _ j _ _ _ m3;have n7:=b5.size;have k5:=ZdX b5;clear b5))
   |(go_at_call 67;go_loud (refine(ze HH.out.lay (LC hv) _).mono ?_;rintro e w4 ⟨rfl,b6⟩;rw[hf];dsimp only;have n8:=b6.size;have z4:=λo=>(ZdY w4 o (xz (xj w)+1) (by omega)).trans ((b6.block (xz (xj w)+1) (by omega)).trans z3);have p4:=λo=>(ZdY w4 o (xz (xj w)) (by omega)).trans ((b6.block (xz (xj w)) (by omega)).trans p3);have x4:=λo j=>Ze6 _ _ j _ _ _ (p4 o);have g5:∀o,Below (xz (xj w)) w (w4.alloc o):=λo=>((i3.out.trans (k5.out.mono (by omega))).trans (b6.mono (by omega))).alloc (by omega) o;have m4:=λo=>(ZdY w4 o (xz (xj w1)) (by omega)).trans ((b6.block (xz (xj w1)) (by omega)).trans m3);have f3:=ZdX g5;clear b6 g5 z3 p3 m3 l3 z2 p2 x2 m2))
   |(go_at_call 66;go_loud (refine(Lu _ G (λb p=>by have:=hG b p;simp;omega) h HH.out f0 (λj hj=>(HS.out j hj).keep (λb p=>(f3.out _).block b (hG b p)) (λ_ h=>h))).mono ?_;rintro e K ⟨x,rfl,b7,D⟩;obtain⟨a0,q0,e0⟩:=Yn (D.own 0 Z0);obtain⟨a1,q1,e1⟩:=Yn (D.own 1 Z0);obtain⟨a2,q2,e2⟩:=Yn (D.own 2 Z0);obtain⟨a3,q3,e3⟩:=Yn (D.own 3 Z0);obtain⟨a4,q4,e4⟩:=Yn (D.own 4 Z0);obtain⟨aj,qj,ej⟩:=Yn (D.own j Z0);obtain⟨g,hg⟩:=Bq (D.own j Z0) ej Z0;subst hg;unfold ZN;rw[e0,e1,e2,e3,e4];have l2:=b7.size;simp at l2;have j4:∀o,xz (xj (w4.alloc o))=xz (xj w4)+1:=λo=>Z1;rw[j4]at D;have hN:=Bf D Z0;unfold qR at hN;rw[e0,e1,e2,e3,e4]at hN;have b8:∀o,Below (xz (xj w)) w (K.alloc o):=λo=>((f3.out _).trans (b7.mono ZcP)).alloc Z0 o;have z6:=λo=>(ZdY K o (xz (xj w)+1) Z0).trans ((b7.block (xz (xj w)+1) ZcP).trans (z4 _));have i2:FwSt w (K.alloc _) (xz (xj w)+1) (xz (xj w1)) (xz (xj w4)) (xz (xj K)) (xz (xj w4)+1) _ (at_:Nat) h x:=⟨z6 _,(ZdY K _ (xz (xj w1)) Z0).trans ((b7.block (xz (xj w1)) ZcP).trans (m4 _)),(ZdY K _ (xz (xj w4)) Z0).trans ((b7.block (xz (xj w4)) Z1).trans (Zej w4 _)),hN,b8 _,Z0,Z0,Z0,Z0,ZcP⟩;obtain⟨y6,f6,l6,o3,o4⟩:=i2.F;rw[e0,e1,e2,e3,e4]at l6;have i8:=ZdX i2;have EP:=ZdX ej;clear ej;clear i2;have l8:=ZdX b8;have HN:=ZdX hN;have E0:=ZdX e0;have E1:=ZdX e1;have E2:=ZdX e2;have E3:=ZdX e3;have E4:=ZdX e4;clear b8 hN e0 e1 e2 e3 e4 D b7 z4 p4 x4 m4)))
 iterate 2
  focus
   have N:fwd h v=(0,Hp.zero,3):=by
    first
    | (have k:j=2:=by omega
       subst k)
    | (have k:j=3:=by omega
       subst k)
    first
    |have B:h.old.getD at_ 0=I:=by show(Zu h 2).getD at_ 0=I;simp[List.getD,q]
    |have B:h.far.getD at_ 0=I:=by show(Zu h 3).getD at_ 0=I;simp[List.getD,q]
    have U:xq h.old=xq (Zu h 2):=rfl;have W:xq h.far=xq (Zu h 3):=rfl;simp[fwd,TU,hr,e9,h1,hf,-List.getD_eq_getElem?_getD,B,U,W,e8,d9,S]
   have y:=VP z.out.res (.int .u64 0) (.int .i64 0) (.int .i64 0) (.bool xh) (.int .i64 0) (.slice xw 0 0) (.slice xw 0 0) (.slice xw 0 0) (.slice xw 0 0) (.slice xw 0 0);rw[N];refine ZeP (v:=.tuple #[.int .u64 0,.agg ZW,.int .i64 3]) ?_ rfl ?_
   .simp[results,Try.results33,go_sem,y,ZW]
   refine⟨λ_=>.slice xw 0 0,?_,?_,Ju _ _⟩;simp[ZN,Hp.zero,ZW];exact V2 z.out.bel Z0 _ _ _ _ _ _ _ _ _ _
 iterate 2
  focus
   have N:fwd h v=(0,Hp.zero,2):=by
    first
    | (have k:j=2:=by omega
       subst k)
    | (have k:j=3:=by omega
       subst k)
    first
    |have B:h.old.getD at_ 0=I:=by show(Zu h 2).getD at_ 0=I;simp[List.getD,q]
    |have B:h.far.getD at_ 0=I:=by show(Zu h 3).getD at_ 0=I;simp[List.getD,q]
    have U:xq h.old=xq (Zu h 2):=rfl;have W:xq h.far=xq (Zu h 3):=rfl;simp[fwd,TU,hr,e9,h1,hf,-List.getD_eq_getElem?_getD,B,U,W,e8,d9,S,k9]
   have y:=VP z.out.res (.int .u64 0) (.int .i64 0) (.int .i64 0) (.bool xh) (.int .i64 0) (.slice xw 0 0) (.slice xw 0 0) (.slice xw 0 0) (.slice xw 0 0) (.slice xw 0 0);rw[N];refine ZeP (v:=.tuple #[.int .u64 0,.agg ZW,.int .i64 2]) ?_ rfl ?_
   .simp[results,Try.results33,go_sem,y,ZW]
   refine⟨λ_=>.slice xw 0 0,?_,?_,Ju _ _⟩;simp[ZN,Hp.zero,ZW];exact V2 z.out.bel Z0 _ _ _ _ _ _ _ _ _ _
 iterate 2
  focus
   obtain⟨H,P⟩:∃H:Nat,sz+1=H:=⟨_,rfl⟩;have l5:IntKind.i64.wrap ((sz:Int)+1)=(H:Int):=by rw[Zy ((sz:Int)+1) Z0 Z0];omega
   have j2:Xx (Zv h)< (H:Int):=Z0;have h0:=ZdX P;have i7:=ZdX X;have g9:=ZdX O;clear P X O;have d5:xz (xj t)< xz (xj ((t.alloc (.cells #[.int .i64 (sz:Nat),.int .i64 pt] 52)))):=Z1;clear j8 j9 g6 j6 j7 y7 y8 f7 f8 i0 i1 c7 c8;generalize (t.alloc (.cells #[.int .i64 (sz:Nat),.int .i64 pt] 52))=e7 at*;have A:FwSt w e7 (xz (xj w)+1) (xz (xj w1)) (xz (xj w4)) (xz (xj K)) (xz (xj w4)+1) (((j:Nat):Int)+1) (at_:Nat) h x:=by rw[hj];exact z.out
   have Q:(λa=>a.cell? ⟨xz (xj w1),0,xw⟩=xk (.int .u64 (Zv h).base)/\a.cell? ⟨xz (xj w1),1,xw⟩=xk (.int .i64 (Zv h).cap)/\a.cell? ⟨xz (xj w1),2,xw⟩=xk (.int .i64 (Zv h).to)/\a.cell? ⟨xz (xj w1),3,xw⟩=xk (.int .i64 (Zv h).low)/\a.cell? ⟨xz (xj w1),4,xw⟩=xk (.int .i64 (Zv h).high)/\a.cell? ⟨xz (xj w1),5,xw⟩=xk (.int .i64 (Zv h).old)/\a.cell? ⟨xz (xj w1),6,xw⟩=xk (.int .i64 (Zv h).far)/\a.cell? ⟨xz (xj t),0,xw⟩=xk (.int .i64 (sz:Nat))/\FwSt w a (xz (xj w)+1) (xz (xj w1)) (xz (xj w4)) (xz (xj K)) (xz (xj w4)+1) (((j:Nat):Int)+1) (at_:Nat) h x/\xz (xj t)<xz (xj a)) e7.drew:=⟨d 0,d 1,d 2,d 3,d 4,d 5,d 6,a7 0,A.drew,d5⟩;have L:∀(u u':World),(λa=>a.cell? ⟨xz (xj w1),0,xw⟩=xk (.int .u64 (Zv h).base)/\a.cell? ⟨xz (xj w1),1,xw⟩=xk (.int .i64 (Zv h).cap)/\a.cell? ⟨xz (xj w1),2,xw⟩=xk (.int .i64 (Zv h).to)/\a.cell? ⟨xz (xj w1),3,xw⟩=xk (.int .i64 (Zv h).low)/\a.cell? ⟨xz (xj w1),4,xw⟩=xk (.int .i64 (Zv h).high)/\a.cell? ⟨xz (xj w1),5,xw⟩=xk (.int .i64 (Zv h).old)/\a.cell? ⟨xz (xj w1),6,xw⟩=xk (.int .i64 (Zv h).far)/\a.cell? ⟨xz (xj t),0,xw⟩=xk (.int .i64 (sz:Nat))/\FwSt w a (xz (xj w)+1) (xz (xj w1)) (xz (xj w4)) (xz (xj K)) (xz (xj w4)+1) (((j:Nat):Int)+1) (at_:Nat) h x/\xz (xj t)<xz (xj a)) u->Below (xz (xj u)) u u'->(λa=>a.cell? ⟨xz (xj w1),0,xw⟩=xk (.int .u64 (Zv h).base)/\a.cell? ⟨xz (xj w1),1,xw⟩=xk (.int .i64 (Zv h).cap)/\a.cell? ⟨xz (xj w1),2,xw⟩=xk (.int .i64 (Zv h).to)/\a.cell? ⟨xz (xj w1),3,xw⟩=xk (.int .i64 (Zv h).low)/\a.cell? ⟨xz (xj w1),4,xw⟩=xk (.int .i64 (Zv h).high)/\a.cell? ⟨xz (xj w1),5,xw⟩=xk (.int .i64 (Zv h).old)/\a.cell? ⟨xz (xj w1),6,xw⟩=xk (.int .i64 (Zv h).far)/\a.cell? ⟨xz (xj t),0,xw⟩=xk (.int .i64 (sz:Nat))/\FwSt w a (xz (xj w)+1) (xz (xj w1)) (xz (xj w4)) (xz (xj K)) (xz (xj w4)+1) (((j:Nat):Int)+1) (at_:Nat) h x/\xz (xj t)<xz (xj a)) u':=by
    rintro u u' ⟨c0,c1,c2,c3,c4,c5,c6,c7,st,hs⟩ p;have hl:=st.lbB;have hz:=st.sz;exact⟨(p.cell ZcX).trans c0,(p.cell ZcX).trans c1,(p.cell ZcX).trans c2,(p.cell ZcX).trans c3,(p.cell ZcX).trans c4,(p.cell ZcX).trans c5,(p.cell ZcX).trans c6,(p.cell hs).trans c7,st.below p,by have:=p.size;omega⟩
   go_region_held3 (λa=>a.cell? ⟨xz (xj w1),0,xw⟩=xk (.int .u64 (Zv h).base)/\a.cell? ⟨xz (xj w1),1,xw⟩=xk (.int .i64 (Zv h).cap)/\a.cell? ⟨xz (xj w1),2,xw⟩=xk (.int .i64 (Zv h).to)/\a.cell? ⟨xz (xj w1),3,xw⟩=xk (.int .i64 (Zv h).low)/\a.cell? ⟨xz (xj w1),4,xw⟩=xk (.int .i64 (Zv h).high)/\a.cell? ⟨xz (xj w1),5,xw⟩=xk (.int .i64 (Zv h).old)/\a.cell? ⟨xz (xj w1),6,xw⟩=xk (.int .i64 (Zv h).far)/\a.cell? ⟨xz (xj t),0,xw⟩=xk (.int .i64 (sz:Nat))/\FwSt w a (xz (xj w)+1) (xz (xj w1)) (xz (xj w4)) (xz (xj K)) (xz (xj w4)+1) (((j:Nat):Int)+1) (at_:Nat) h x/\xz (xj t)<xz (xj a)) (first|exact Q|assumption)
    (first|(go_at_call 70;refine(N1 HH.out.lay _).mono ?_;rintro e k0 ⟨rfl,M⟩;have h4:=L _ _ Q M))
   obtain⟨-,-,-,-,-,-,-,k8,n,j3⟩:=h4;clear Q A L a7 k2 j0 e5 d M d5;rename_i R;clear R;obtain⟨k3,j1,a6,g7,g8⟩:=n.F;rw[E0.out,E1.out,E2.out,E3.out,E4.out]at a6;have l:=n.now.own.own j Z0;rw[EP.out]at l;have i9:=Q6 l q;clear l hm h9 f5;have f:=ZdX n;clear n;go_wp2;have a5:Xx (Zv h)< (sz:Int)+1:=by have:=h0.out;omega
   have N:fwd h v=(0,Hp.zero,7):=by
    first
    | (have k:j=2:=by omega
       subst k)
    | (have k:j=3:=by omega
       subst k)
    first
    |have B:h.old.getD at_ 0=I:=by show(Zu h 2).getD at_ 0=I;simp[List.getD,q]
    |have B:h.far.getD at_ 0=I:=by show(Zu h 3).getD at_ 0=I;simp[List.getD,q]
    have U:xq h.old=xq (Zu h 2):=rfl;have W:xq h.far=xq (Zu h 3):=rfl;simp[fwd,TU,hr,e9,h1,hf,-List.getD_eq_getElem?_getD,B,U,W,e8,d9,S,Zh5.2 g9.out,a5]
   have y:=VP f.out.res (.int .u64 0) (.int .i64 0) (.int .i64 0) (.bool xh) (.int .i64 0) (.slice xw 0 0) (.slice xw 0 0) (.slice xw 0 0) (.slice xw 0 0) (.slice xw 0 0);rw[N];refine ZeP (v:=.tuple #[.int .u64 0,.agg ZW,.int .i64 7]) ?_ rfl ?_
   .simp[results,Try.results33,go_sem,y,ZW]
   refine⟨λ_=>.slice xw 0 0,?_,?_,Ju _ _⟩;simp[ZN,Hp.zero,ZW];exact V2 f.out.bel Z0 _ _ _ _ _ _ _ _ _ _
 iterate 2
  focus
   obtain⟨H,P⟩:∃H:Nat,sz+1=H:=⟨_,rfl⟩;have l5:IntKind.i64.wrap ((sz:Int)+1)=(H:Int):=by rw[Zy ((sz:Int)+1) Z0 Z0];omega
   have j2:¬(Xx (Zv h)< (H:Int)):=Z0;have d8:=z.out.now.own.own j Z0;rw[EP.out]at d8;have m0:=Z4L d8 Z0;have m8:(H:Int)<=(qm:Int):=Z0;have m7:(0:Int)<=(H:Int):=Z0;clear d8;have h0:=ZdX P;have i7:=ZdX X;have g9:=ZdX O;clear P X O;have d5:xz (xj t)< xz (xj ((t.alloc (.cells #[.int .i64 (sz:Nat),.int .i64 pt] 52)))):=Z1;clear j8 j9 g6 j6 j7 y7 y8 f7 f8 i0 i1 c7 c8;generalize (t.alloc (.cells #[.int .i64 (sz:Nat),.int .i64 pt] 52))=e7 at*;have A:FwSt w e7 (xz (xj w)+1) (xz (xj w1)) (xz (xj w4)) (xz (xj K)) (xz (xj w4)+1) (((j:Nat):Int)+1) (at_:Nat) h x:=by rw[hj];exact z.out
   have Q:(λa=>a.cell? ⟨xz (xj w1),0,xw⟩=xk (.int .u64 (Zv h).base)/\a.cell? ⟨xz (xj w1),1,xw⟩=xk (.int .i64 (Zv h).cap)/\a.cell? ⟨xz (xj w1),2,xw⟩=xk (.int .i64 (Zv h).to)/\a.cell? ⟨xz (xj w1),3,xw⟩=xk (.int .i64 (Zv h).low)/\a.cell? ⟨xz (xj w1),4,xw⟩=xk (.int .i64 (Zv h).high)/\a.cell? ⟨xz (xj w1),5,xw⟩=xk (.int .i64 (Zv h).old)/\a.cell? ⟨xz (xj w1),6,xw⟩=xk (.int .i64 (Zv h).far)/\a.cell? ⟨xz (xj t),0,xw⟩=xk (.int .i64 (sz:Nat))/\FwSt w a (xz (xj w)+1) (xz (xj w1)) (xz (xj w4)) (xz (xj K)) (xz (xj w4)+1) (((j:Nat):Int)+1) (at_:Nat) h x/\xz (xj t)<xz (xj a)) e7.drew:=⟨d 0,d 1,d 2,d 3,d 4,d 5,d 6,a7 0,A.drew,d5⟩;have L:∀(u u':World),(λa=>a.cell? ⟨xz (xj w1),0,xw⟩=xk (.int .u64 (Zv h).base)/\a.cell? ⟨xz (xj w1),1,xw⟩=xk (.int .i64 (Zv h).cap)/\a.cell? ⟨xz (xj w1),2,xw⟩=xk (.int .i64 (Zv h).to)/\a.cell? ⟨xz (xj w1),3,xw⟩=xk (.int .i64 (Zv h).low)/\a.cell? ⟨xz (xj w1),4,xw⟩=xk (.int .i64 (Zv h).high)/\a.cell? ⟨xz (xj w1),5,xw⟩=xk (.int .i64 (Zv h).old)/\a.cell? ⟨xz (xj w1),6,xw⟩=xk (.int .i64 (Zv h).far)/\a.cell? ⟨xz (xj t),0,xw⟩=xk (.int .i64 (sz:Nat))/\FwSt w a (xz (xj w)+1) (xz (xj w1)) (xz (xj w4)) (xz (xj K)) (xz (xj w4)+1) (((j:Nat):Int)+1) (at_:Nat) h x/\xz (xj t)<xz (xj a)) u->Below (xz (xj u)) u u'->(λa=>a.cell? ⟨xz (xj w1),0,xw⟩=xk (.int .u64 (Zv h).base)/\a.cell? ⟨xz (xj w1),1,xw⟩=xk (.int .i64 (Zv h).cap)/\a.cell? ⟨xz (xj w1),2,xw⟩=xk (.int .i64 (Zv h).to)/\a.cell? ⟨xz (xj w1),3,xw⟩=xk (.int .i64 (Zv h).low)/\a.cell? ⟨xz (xj w1),4,xw⟩=xk (.int .i64 (Zv h).high)/\a.cell? ⟨xz (xj w1),5,xw⟩=xk (.int .i64 (Zv h).old)/\a.cell? ⟨xz (xj w1),6,xw⟩=xk (.int .i64 (Zv h).far)/\a.cell? ⟨xz (xj t),0,xw⟩=xk (.int .i64 (sz:Nat))/\FwSt w a (xz (xj w)+1) (xz (xj w1)) (xz (xj w4)) (xz (xj K)) (xz (xj w4)+1) (((j:Nat):Int)+1) (at_:Nat) h x/\xz (xj t)<xz (xj a)) u':=by
    rintro u u' ⟨c0,c1,c2,c3,c4,c5,c6,c7,st,hs⟩ p;have hl:=st.lbB;have hz:=st.sz;exact⟨(p.cell ZcX).trans c0,(p.cell ZcX).trans c1,(p.cell ZcX).trans c2,(p.cell ZcX).trans c3,(p.cell ZcX).trans c4,(p.cell ZcX).trans c5,(p.cell ZcX).trans c6,(p.cell hs).trans c7,st.below p,by have:=p.size;omega⟩
   go_region_held3 (λa=>a.cell? ⟨xz (xj w1),0,xw⟩=xk (.int .u64 (Zv h).base)/\a.cell? ⟨xz (xj w1),1,xw⟩=xk (.int .i64 (Zv h).cap)/\a.cell? ⟨xz (xj w1),2,xw⟩=xk (.int .i64 (Zv h).to)/\a.cell? ⟨xz (xj w1),3,xw⟩=xk (.int .i64 (Zv h).low)/\a.cell? ⟨xz (xj w1),4,xw⟩=xk (.int .i64 (Zv h).high)/\a.cell? ⟨xz (xj w1),5,xw⟩=xk (.int .i64 (Zv h).old)/\a.cell? ⟨xz (xj w1),6,xw⟩=xk (.int .i64 (Zv h).far)/\a.cell? ⟨xz (xj t),0,xw⟩=xk (.int .i64 (sz:Nat))/\FwSt w a (xz (xj w)+1) (xz (xj w1)) (xz (xj w4)) (xz (xj K)) (xz (xj w4)+1) (((j:Nat):Int)+1) (at_:Nat) h x/\xz (xj t)<xz (xj a)) (first|exact Q|assumption)
    (first|(go_at_call 70;refine(N1 HH.out.lay _).mono ?_;rintro e k0 ⟨rfl,M⟩;have h4:=L _ _ Q M))
   obtain⟨-,-,-,-,-,-,-,k8,n,j3⟩:=h4;clear Q A L a7 k2 j0 e5 d M d5;rename_i R;clear R;obtain⟨k3,j1,a6,g7,g8⟩:=n.F;rw[E0.out,E1.out,E2.out,E3.out,E4.out]at a6;have l:=n.now.own.own j Z0;rw[EP.out]at l;have i9:=Q6 l q;clear l hm h9 f5;have f:=ZdX n;clear n;have P:=h0.out;have X:=i7.out;have O:=g9.out;have a5:¬Xx (Zv h)< (sz:Int)+1:=Z0;have N:fwd h v=(TG h (((j:Nat):Int)+1) at_ H,Xr (Xw h (((j:Nat):Int)+1) at_ H) (((j:Nat):Int)+1) ((zr (Zu h j) at_ H).set at_ (TG h (((j:Nat):Int)+1) at_ H)),0):=by
    first
    | (have k:j=2:=by omega
       subst k)
    | (have k:j=3:=by omega
       subst k)
    first
    |have B:h.old.getD at_ 0=I:=by show(Zu h 2).getD at_ 0=I;simp[List.getD,q]
    |have B:h.far.getD at_ 0=I:=by show(Zu h 3).getD at_ 0=I;simp[List.getD,q]
    have U:xq h.old=xq (Zu h 2):=rfl;have W:xq h.far=xq (Zu h 3):=rfl;subst P;simp only[fwd,hr,e9,h1,hf,Zex,ZeA,Zfv,ne_eq,ZhC];simp[-List.getD_eq_getElem?_getD,B,e8,d9,S,TU,U,W,Zh5.2 O,a5];exact⟨rfl,rfl⟩
   have HC:=ZdX (Z0t k0 (xz (xj w4)+1) (xz (xj K)) h x f.out.now f.out.sz HH.out j at_ H Z0 Z0 Z0 Z0 g qj EP.out Z0 qm);have i5:=ZdX N;clear P X O N a5;have i6:=ZdX f.out.res;go_wp2_with (first|(go_at_call 71;go_loud (refine HC.out.mono ?_;rintro e f2 ⟨x',rfl,Z,r⟩;have J:=(Z.block _ f.out.rbB).trans i6.out;have d0:=f.out.bel.trans (Z.mono (by have:=f.out.old;have:=f.out.rbB;omega));obtain⟨b0,r0,g0⟩:=Yn (r.own.own 0 Z0);obtain⟨b1,r1,g1⟩:=Yn (r.own.own 1 Z0);obtain⟨b2,r2,g2⟩:=Yn (r.own.own 2 Z0);obtain⟨b3,r3,g3⟩:=Yn (r.own.own 3 Z0);obtain⟨b4,r4,g4⟩:=Yn (r.own.own 4 Z0);have e6:=r.blk;have e1:fwd h v=(TG h (((j:Nat):Int)+1) at_ H,_,0):=i5.out;generalize o2:TG h (((j:Nat):Int)+1) at_ H=to at*;generalize Xr (Xw h (((j:Nat):Int)+1) at_ H) (((j:Nat):Int)+1) ((zr (Zu h j) at_ H).set at_ to)=C at*;rw[g0,g1,g2,g3,g4]at e6)))
   have l7:∀j,f2.cell? ⟨xz (xj w)+1,j,xw⟩=ZW[j]? :=λj=>Ze6 _ _ _ _ _ _ J;unfold ZW at l7;have n1:∀j,f2.frozen? ⟨xz (xj w)+1,j,xw⟩=xh:=λj=>Yi J;have m9:∀j,f2.cell? ⟨xz (xj K),j,xw⟩=(#[.int .u64 C.base,.int .i64 C.cap,.int .i64 C.to,.bool C.cycle,.int .i64 C.scan,.slice b0 (xq (Zu C 0)) r0,.slice b1 (xq (Zu C 1)) r1,.slice b2 (xq (Zu C 2)) r2,.slice b3 (xq (Zu C 3)) r3,.slice b4 (xq (Zu C 4)) r4]:Array Value)[j]? :=λj=>Ze6 _ _ _ _ _ _ e6;have m6:=d0.size;have l9:xz (xj w4)+1<=xz (xj f2):=by have:=Z.size;have:=f.out.sz;omega
   have f4:=ZdX r;have i4:=ZdX d0;have h3:=ZdX J;have G0:=ZdX g0;have G1:=ZdX g1;have G2:=ZdX g2;have G3:=ZdX g3;have G4:=ZdX g4;clear e6 r d0 Z J g0 g1 g2 g3 g4 k3 j1 a6 g7 g8;go_region;all_goals
    go_wp2;try simp only[Exit.inBlock,Exit.then]
    have y:=VP h3.out (.int .u64 C.base) (.int .i64 C.cap) (.int .i64 C.to) (.bool C.cycle) (.int .i64 C.scan) (.slice b0 (xq (Zu C 0)) r0) (.slice b1 (xq (Zu C 1)) r1) (.slice b2 (xq (Zu C 2)) r2) (.slice b3 (xq (Zu C 3)) r3) (.slice b4 (xq (Zu C 4)) r4);rw[i5.out];refine ZeP (v:=.tuple #[.int .u64 to,ZN C x',.int .i64 0]) ?_ rfl ?_
    .unfold ZN;rw[G0.out,G1.out,G2.out,G3.out,G4.out];simp[results,Try.results33,go_sem,y]
    refine⟨x',rfl,?_,?_⟩;exact(V2 i4.out Z0 _ _ _ _ _ _ _ _ _ _).drew;refine⟨λj hj=> ?_,f4.out.own.apart⟩;have ho:=f4.out.own.own j hj;refine KF (WJ ho ?_) ?_;intro c hc;have n3:=(ho.lt c hc).1;exact C8 Z0 _ _ _ _ _ _ _ _ _ _;intro c h1 h2;exact⟨Z0,h2⟩
def P9(w:World)(G:Nat->Prop)(y:∀b,G b->b<U (R w))(h:Hp)(t:h.ok)(f:Nat->Value)(B:∀j,j<5->Rd w G (.sl ((Zu h j).map vu)) (f j))(v:Int)(C:ZC v)
  (A:ZI (Zv h)=xy) (o:¬v=0) (x:(adr v).2=0) (h2:(Ye (Zv h) (adr v).1).2.2=0):
  Calls Sol.prog 33 #[ZN h f,.int .u64 v] w (Qq w (fwd h v)):=by
 obtain⟨_,K,L,M,D,_⟩:=Z12 h2;rw[TC ⟨K,L⟩]at D;obtain⟨k,J⟩:=Zea M;have z:Ye (Zv h) (adr v).1=((Ye (Zv h) (adr v).1).1,(k:Int),0):=by rw[<-J,<-h2]
 rw[J]at D;generalize (Ye (Zv h) (adr v).1).1=part at*;have:(part=1\/part=2)\/(part=3\/part=4):=Z0;obtain r|r:=this;exact Pb w G y h t f B v C A o x part k z r;obtain⟨j,F,I⟩:∃j:Nat,((j:Nat):Int)+1=part/\Zx h part=Zu h j:=by
  obtain rfl|rfl:=r;exact⟨2,rfl,rfl⟩;exact⟨3,rfl,rfl⟩
 have d:=(XM t part).1;rw[I]at D d;have g:k< xq (Zu h j):=Z0;have q:(Zu h j)[k]?=xk (Zu h j)[k]:=ZdO g;replace d:=d _ (Ze5 g);generalize (Zu h j)[k]=l at*;by_cases p:(adr l).2=0;exact Pa w G y h t f B v C A o x part k z j F r l q g d p;by_cases a:(ZS l).2.2=0;have P:=YM.1 (D7 (w:=l) a);obtain⟨n,O⟩:=Zea P.1;refine Dw w G y h t f B v C A o x part k z j F r l q g d p n (ZS l).2.1 (ZS l).2.2 (by rw[<-O]) Z0 ?_;by_cases H:xq (Zu h j)<k+(n+1);exact .inr (.inl ⟨a,H⟩);by_cases u:Xx (Zv h)< ((n+1:Nat):Int);exact .inr (.inr (.inl ⟨a,Z0,u⟩));exact .inr (.inr (.inr ⟨a,Z0,u⟩));have N:ZS l=(((0:Nat):Int),(ZS l).2.1,(ZS l).2.2):=by
  unfold ZS at a⊢;split;rename_i c;rw[if_pos c]at a;exact absurd rfl a;rfl
 exact Dw w G y h t f B v C A o x part k z j F r l q g d p 0 _ _ N Z0 (.inl a)
end Vm
namespace Vm
open Go Go.Proofs Go.RowKit
def Pc(w:World)(G:Nat->Prop)(t:∀b,G b->b<xz (xj w))(h:Hp)(hh:h.ok)(a:Nat->Value)(hs:∀j,j<5->Rd w G (.sl ((Zu h j).map vu)) (a j))(v:Int)(T:ZC v):
  Calls Sol.prog 33 #[ZN h a,.int .u64 v] w (Qq w (fwd h v)):=by
 have M:=ZdX hs;have K:=ZdX hh;clear hs hh;by_cases z:ZI (Zv h)=xy/\¬v=0/\(adr v).2=0/\(Ye (Zv h) (adr v).1).2.2=0;exact P9 w G t h K.out a M.out v T z.1 z.2.1 z.2.2.1 z.2.2.2;unfold ZN;go_enter Sol.func33,Try.ntmps33;cases D:ZI (Zv h)
 .go_wp2_with (first
   |(go_at_call 64;refine(TL (h:=h) (x:=a) (G:=G) (λc H=>by have:=t c H;simp;omega) (λj A=>(M.out j A).keep (λb u=>by have:=t b u;rw[ZdY _ _ _ (by simp;omega),ZdY _ _ _ (by omega)]) (λ_ h=>h))).mono ?_;rintro e w1 ⟨rfl,d⟩;unfold Vu;have L:=(d.block (xz (xj w)+1) (by simp)).trans (TJ w _);have q:=d.size;simp at q;have n:=ZdX d;clear d)
   |(go_at_call 65;refine(Qe K.out.lay _).mono ?_;rintro e w2 ⟨rfl,f⟩;rw[D];have I:=(f.block (xz (xj w)+1) (by simp;omega)).trans ((ZdY w1 _ (xz (xj w)+1) (by omega)).trans L);have y2:∀j,w2.cell? ⟨xz (xj w)+1,j,xw⟩=ZW[j]? :=λj=>Ze6 _ _ _ _ _ _ I;have f2:∀j,w2.frozen? ⟨xz (xj w)+1,j,xw⟩=xh:=λj=>Yi I;unfold ZW at y2;have U:=ZdX f;clear f))
  have y:=VP I (.int .u64 0) (.int .i64 0) (.int .i64 0) (.bool xh) (.int .i64 0) (.slice xw 0 0) (.slice xw 0 0) (.slice xw 0 0) (.slice xw 0 0) (.slice xw 0 0);refine ZeP (v:=.tuple #[.int .u64 0,.agg ZW,.int .i64 1]) ZdA rfl ⟨λ_=>.slice xw 0 0,?_,V2 ?_ Z0 _ _ _ _ _ _ _ _ _ _,?_⟩;simp[fwd,D,ZN,Hp.zero,ZW];exact((((((Zeh _ _).alloc (ZdU _) _).alloc Z1 _).trans (n.out.mono ZcP)).alloc Z0 _).trans (U.out.mono ZcP));have:(fwd h v).2.1=Hp.zero:=by simp[fwd,D]
  rw[this];exact Ju _ _
 .by_cases Q:v=0
  .subst Q;go_wp2_with (first
    |(go_at_call 64;refine(TL (h:=h) (x:=a) (G:=G) (λc H=>by have:=t c H;simp;omega) (λj A=>(M.out j A).keep (λb u=>by have:=t b u;rw[ZdY _ _ _ (by simp;omega),ZdY _ _ _ (by omega)]) (λ_ h=>h))).mono ?_;rintro e w1 ⟨rfl,d⟩;unfold Vu;have L:=(d.block (xz (xj w)+1) (by simp)).trans (TJ w _);have O:=(d.block (xz (xj w)) (by simp;omega)).trans ((ZdY (w.alloc (.cells #[.int .u64 h.base,.int .i64 h.cap,.int .i64 h.to,.bool h.cycle,.int .i64 h.scan,a 0,a 1,a 2,a 3,a 4] 37)) _ (xz (xj w)) (by simp)).trans (Zej w _));have q:=d.size;simp at q;have n:=ZdX d;clear d)
    |(go_at_call 65;refine(Qe K.out.lay _).mono ?_;rintro e w2 ⟨rfl,f⟩;rw[D];have I:=(f.block (xz (xj w)+1) (by simp;omega)).trans ((ZdY w1 _ (xz (xj w)+1) (by omega)).trans L);have p2:=(f.block (xz (xj w)) (by simp;omega)).trans ((ZdY w1 _ (xz (xj w)) (by omega)).trans O);have x2:∀j,w2.cell? ⟨xz (xj w),j,xw⟩=(#[.int .u64 h.base,.int .i64 h.cap,.int .i64 h.to,.bool h.cycle,.int .i64 h.scan,a 0,a 1,a 2,a 3,a 4]:Array Value)[j]? :=λj=>Ze6 _ _ _ _ _ _ p2;have k:Below (xz (xj w)) w w2:=((((((Zeh _ _).alloc (ZdU _) _).alloc (by simp) _).trans (n.out.mono (by simp;omega))).alloc (by omega) _).trans (f.mono (by simp;omega)));have B:=f.size;simp at B;have l:=ZdX k;clear f k)
    |(go_at_call 66;refine(Lu _ G (λb u=>by have:=t b u;omega) h K.out a (λj A=>(M.out j A).keep (λb u=>l.out.block b (t b u)) (λ_ h=>h))).mono ?_;rintro e w3 ⟨x,rfl,g,p⟩;obtain⟨a0,q0,Z⟩:=Yn (p.own 0 Z0);obtain⟨a1,q1,e1⟩:=Yn (p.own 1 Z0);obtain⟨a2,q2,e2⟩:=Yn (p.own 2 Z0);obtain⟨a3,q3,e3⟩:=Yn (p.own 3 Z0);obtain⟨a4,q4,e4⟩:=Yn (p.own 4 Z0);unfold ZN;rw[Z,e1,e2,e3,e4];have C:=(g.block (xz (xj w)+1) Z0).trans I;have P:∀j,w3.cell? ⟨xz (xj w)+1,j,xw⟩=ZW[j]? :=λj=>Ze6 _ _ _ _ _ _ C;have f3:∀j,w3.frozen? ⟨xz (xj w)+1,j,xw⟩=xh:=λj=>Yi C;unfold ZW at P;have r:=ZdX g;have N:=ZdX p;clear g p))
   have y:=VP C (.int .u64 h.base) (.int .i64 h.cap) (.int .i64 h.to) (.bool h.cycle) (.int .i64 h.scan) (.slice a0 (xq (Zu h 0)) q0) (.slice a1 (xq (Zu h 1)) q1) (.slice a2 (xq (Zu h 2)) q2) (.slice a3 (xq (Zu h 3)) q3) (.slice a4 (xq (Zu h 4)) q4);have J:fwd h 0=(0,h,0):=by simp[fwd,D]
   refine ZeP (v:=.tuple #[.int .u64 0,ZN h x,.int .i64 0]) (by unfold ZN;rw[Z,e1,e2,e3,e4];simp[results,Try.results33,go_sem,y]) rfl ⟨x,?_,V2 (l.out.trans (r.out.mono Z0)) Z0 _ _ _ _ _ _ _ _ _ _,?_⟩;rw[J];rw[J];refine⟨λj A=> ?_,N.out.apart⟩;have ho:=N.out.own j A;refine KF (B':=xz (xj w2)) (WJ ho λc H=>Q9 (by have:=(ho.lt c H).1;omega) _ _ _ _ _ _ _ _ _ _) (λc R S=>⟨Z0,S⟩)
  .have X:¬(v=0):=Q;by_cases R:(adr v).2=0
   .by_cases S:(Ye (Zv h) (adr v).1).2.2=0;exact(z ⟨D,X,R,S⟩).elim
    .go_wp2_with (first
     |(go_at_call 64;refine(TL (h:=h) (x:=a) (G:=G) (λc H=>by have:=t c H;simp;omega) (λj A=>(M.out j A).keep (λb u=>by have:=t b u;rw[ZdY _ _ _ (by simp;omega),ZdY _ _ _ (by omega)]) (λ_ h=>h))).mono ?_;rintro e w1 ⟨rfl,d⟩;unfold Vu;have L:=(d.block (xz (xj w)+1) (by simp)).trans (TJ w _);have O:=(d.block (xz (xj w)) (by simp;omega)).trans ((ZdY (w.alloc (.cells #[.int .u64 h.base,.int .i64 h.cap,.int .i64 h.to,.bool h.cycle,.int .i64 h.scan,a 0,a 1,a 2,a 3,a 4] 37)) _ (xz (xj w)) (by simp)).trans (Zej w _));have q:=d.size;simp at q;have n:=ZdX d;clear d)
     |(go_at_call 65;refine(Qe K.out.lay _).mono ?_;rintro e w2 ⟨rfl,f⟩;rw[D];have I:=(f.block (xz (xj w)+1) (by simp;omega)).trans ((ZdY w1 _ (xz (xj w)+1) (by omega)).trans L);have p2:=(f.block (xz (xj w)) (by simp;omega)).trans ((ZdY w1 _ (xz (xj w)) (by omega)).trans O);have x2:∀j,w2.cell? ⟨xz (xj w),j,xw⟩=(#[.int .u64 h.base,.int .i64 h.cap,.int .i64 h.to,.bool h.cycle,.int .i64 h.scan,a 0,a 1,a 2,a 3,a 4]:Array Value)[j]? :=λj=>Ze6 _ _ _ _ _ _ p2;have k:Below (xz (xj w)) w w2:=((((((Zeh _ _).alloc (ZdU _) _).alloc (by simp) _).trans (n.out.mono (by simp;omega))).alloc (by omega) _).trans (f.mono (by simp;omega)));have B:=f.size;simp at B;have m2:=(f.block (xz (xj w1)) (by simp)).trans (Zej w1 _);have l:=ZdX k;clear f k)
     |(go_at_call 44;refine(VY T _).mono ?_;rintro e w3 ⟨rfl,g⟩;have C:=(g.block (xz (xj w)+1) (by omega)).trans I;have P:∀j,w3.cell? ⟨xz (xj w)+1,j,xw⟩=ZW[j]? :=λj=>Ze6 _ _ _ _ _ _ C;have f3:∀j,w3.frozen? ⟨xz (xj w)+1,j,xw⟩=xh:=λj=>Yi C;unfold ZW at P;have m3:=(g.block (xz (xj w1)) (by omega)).trans m2;have l3:∀j,w3.cell? ⟨xz (xj w1),j,xw⟩=(#[.int .u64 (Zv h).base,.int .i64 (Zv h).cap,.int .i64 (Zv h).to,.int .i64 (Zv h).low,.int .i64 (Zv h).high,.int .i64 (Zv h).old,.int .i64 (Zv h).far]:Array Value)[j]? :=λj=>Ze6 _ _ _ _ _ _ m3;have a5:=g.size;have r:=ZdX g;clear g)
     |(go_at_call 67;refine(ze K.out.lay (LC T) _).mono ?_;rintro e w4 ⟨rfl,F⟩;have a6:=F.size;have Y:∀o,(w4.alloc o).heap[xz (xj w)+1]?=xk (.cells ZW 37 (0,0)):=λo=>(ZdY w4 o (xz (xj w)+1) (by omega)).trans ((F.block (xz (xj w)+1) (by omega)).trans C);have y4:∀o j,(w4.alloc o).cell? ⟨xz (xj w)+1,j,xw⟩=ZW[j]? :=λo j=>Ze6 _ _ _ _ _ _ (Y o);have f4:∀o j,(w4.alloc o).frozen? ⟨xz (xj w)+1,j,xw⟩=xh:=λo j=>Yi (Y o);unfold ZW at y4;have W:=ZdX F;clear F))
     have y:=VP (Y (.cells #[.int .i64 (Ye (Zv h) (adr v).1).1,.int .i64 (Ye (Zv h) (adr v).1).2.1] 72)) (.int .u64 0) (.int .i64 0) (.int .i64 0) (.bool xh) (.int .i64 0) (.slice xw 0 0) (.slice xw 0 0) (.slice xw 0 0) (.slice xw 0 0) (.slice xw 0 0);have J:fwd h v=(0,Hp.zero,6):=by simp[fwd,D,Q,R,S]
     refine ZeP (v:=.tuple #[.int .u64 0,.agg ZW,.int .i64 6]) ZdA rfl ⟨λ_=>.slice xw 0 0,?_,V2 (((l.out.trans (r.out.mono Z0)).trans (W.out.mono Z0)).alloc Z0 _) Z0 _ _ _ _ _ _ _ _ _ _,?_⟩;rw[J];simp[ZN,Hp.zero,ZW];rw[J];exact Ju _ _
   .go_wp2_with (first
    |(go_at_call 64;refine(TL (h:=h) (x:=a) (G:=G) (λc H=>by have:=t c H;simp;omega) (λj A=>(M.out j A).keep (λb u=>by have:=t b u;rw[ZdY _ _ _ (by simp;omega),ZdY _ _ _ (by omega)]) (λ_ h=>h))).mono ?_;rintro e w1 ⟨rfl,d⟩;unfold Vu;have L:=(d.block (xz (xj w)+1) (by simp)).trans (TJ w _);have O:=(d.block (xz (xj w)) (by simp;omega)).trans ((ZdY (w.alloc (.cells #[.int .u64 h.base,.int .i64 h.cap,.int .i64 h.to,.bool h.cycle,.int .i64 h.scan,a 0,a 1,a 2,a 3,a 4] 37)) _ (xz (xj w)) (by simp)).trans (Zej w _));have q:=d.size;simp at q;have n:=ZdX d;clear d)
    | (go_at_call 65;refine(Qe K.out.lay _).mono ?_;rintro e w2 ⟨rfl,f⟩;rw[D];have I:=(f.block (xz (xj w)+1) (by simp;omega)).trans ((ZdY w1 _ (xz (xj w)+1) (by omega)).trans L);have p2:=(f.block (xz (xj w)) (by simp;omega)).trans ((ZdY w1 _ (xz (xj w)) (by omega)).trans O);have x2:∀j,w2.cell? ⟨xz (xj w),j,xw⟩=(#[.int .u64 h.base,.int .i64 h.cap,.int .i64 h.to,.bool h.cycle,.int .i64 h.scan,a 0,a 1,a 2,a 3,a 4]:Array Value)[j]? :=λj=>Ze6 _ _ _ _ _ _ p2;have k:Below (xz (xj w)) w w2:=((((((Zeh _ _).alloc (ZdU _) _).alloc (by simp) _).trans (n.out.mono (by simp;omega))).alloc (by omega) _).trans (f.mono (by simp;omega)));have B:=f.size;simp at B;have l:=ZdX k;clear f k)
      |(go_at_call 44;refine(VY T _).mono ?_;rintro e w3 ⟨rfl,g⟩;have C:=(g.block (xz (xj w)+1) (by omega)).trans I;have P:∀j,w3.cell? ⟨xz (xj w)+1,j,xw⟩=ZW[j]? :=λj=>Ze6 _ _ _ _ _ _ C;have f3:∀j,w3.frozen? ⟨xz (xj w)+1,j,xw⟩=xh:=λj=>Yi C;unfold ZW at P;have r:=ZdX g;clear g))
    have y:=VP C (.int .u64 0) (.int .i64 0) (.int .i64 0) (.bool xh) (.int .i64 0) (.slice xw 0 0) (.slice xw 0 0) (.slice xw 0 0) (.slice xw 0 0) (.slice xw 0 0);have J:fwd h v=(0,Hp.zero,3):=by simp[fwd,D,Q,R]
    refine ZeP (v:=.tuple #[.int .u64 0,.agg ZW,.int .i64 3]) ZdA rfl ⟨λ_=>.slice xw 0 0,?_,V2 (l.out.trans (r.out.mono Z0)) Z0 _ _ _ _ _ _ _ _ _ _,?_⟩;rw[J];simp[ZN,Hp.zero,ZW];rw[J];exact Ju _ _
end Vm
namespace Vm
open Go Go.Proofs Go.RowKit
def KW{w:World}{G:Nat->Prop}{k:IntKind}{n:Int}{v:Value}(r:Rd w G (.int k n) v):v=.int k n:=by cases r;rfl
def MH{w:World}{G:Nat->Prop}{b:Bool}{v:Value}(r:Rd w G (.bool b) v):v=.bool b:=by cases r;rfl
def Z1I{w:World}{G:Nat->Prop}{h:Hp}{v:Value}(r:Rd w G (ZQ h) v):∃f,v=ZN h f/\∀j,j<5->Rd w G (.sl ((Zu h j).map vu)) (f j):=by
 cases r with
 |agg _ vs t _ a=>
  refine⟨λj=>vs.getD (5+j) undef,?_,?_⟩;have g:=KW (a 0 _ rfl);have k:=KW (a 1 _ rfl);have l:=KW (a 2 _ rfl);have n:=MH (a 3 _ rfl);have o:=KW (a 4 _ rfl);have d:vs.size=10:=t;unfold ZN;rw[<-g,<-k,<-l,<-n,<-o];congr 1;apply ZgB;simp[d];intro i u x;have p:i<10:=Z0
  match i,p with
  |0,_|1,_|2,_|3,_|4,_|5,_|6,_|7,_|8,_|9,_=>simp[Array.getD,d]
  intro j q
  match j,q with
  |0,_=>exact a 5 _ rfl
  |1,_=>exact a 6 _ rfl
  |2,_=>exact a 7 _ rfl
  |3,_=>exact a 8 _ rfl
  |4,_=>exact a 9 _ rfl
def FX{w:World}{G:Nat->Prop}{h:Hp}{x:Nat->Value}(d:∀j,j<5->Rd w G (.sl ((Zu h j).map vu)) (x j)):Rd w G (ZQ h) (ZN h x):=by
 refine .agg _ _ rfl (by simp[V.one]) ?_;intro i y a
 match i,a with
 |0,a=>cases a;exact .int _ _
 |1,a=>cases a;exact .int _ _
 |2,a=>cases a;exact .int _ _
 |3,a=>cases a;exact .bool _
 |4,a=>cases a;exact .int _ _
 |5,a=>cases a;exact d 0 Z0
 |6,a=>cases a;exact d 1 Z0
 |7,a=>cases a;exact d 2 Z0
 |8,a=>cases a;exact d 3 Z0
 |9,a=>cases a;exact d 4 Z0
end Vm
end
section
namespace Vm
open Go Go.Proofs Go.RowKit
def Rd.slfT{w:Z3}{G:Z5}{l:Zr}{v:Z7}(h:Rd w G (.sl l) v):∃a c,v=.slice a (P l) c:=by
 cases h with
 |nil a cap _=>exact⟨a,cap,rfl⟩
 |sl l b o cap k vs=>exact⟨_,cap,rfl⟩
def append_empty{P:Z4}{w:Z3}{t ty e:Z9}(u:P.underlying t=xk (.slice e))(o:Uh P e=xy)(p a:Addr)(n c:Nat)(d:Zl)(r:xq d=n*P.cellsOf e)(f:∀j v,d[j]?=xk v->w.cell? (a.add j)=xk v)(y:0<n)(h:n<=Y5):
  (Builtin.append_ #[t,t] ty #[.slice (xk p) 0 0,.slice (xk a) n c]).run P w=(Builtin.append_ #[t,t] ty #[.slice xw 0 0,.slice (xk a) n c]).run P w:=by
 obtain⟨i,z,q,x,C,D,l,k⟩:=RB o;simp only[Y5]at h;have g:n*i.bytes<=140737488355328:=by
  have:n*i.bytes<=4294967296*32768:=Zhu h l;omega
 rw[run_append_nil (P:=P) w t ty e i z u q x a n c d (by rw[r,k]) f y Z0 Z0];have A:=run_append_grow (P:=P) w t ty e i z u q x p 0 0 [] Z1 (λj v B=>by simp at B) a n c d (by rw[r,k]) f Z0 Z0 (Zi8 Z0 (by simpa using g));simpa using A
def Px{w:Z3}(f:ZcI){ty:Z9}{G:Z5}{l:Zc}{y:Z7}(hl:xq l<=1000000)(N:Rd w G (.sl (l.map vu)) y):
  ∃C h,(Builtin.append_ #[35,35] ty #[.slice f 0 0,y]).run Sol.prog w=.ok C h/\Below (xz (xj w)) w h/\Rd h (λc=>xz (xj w)<=c/\c<xz (xj h)) (.sl (l.map vu)) C:=by
 have F:=Sol.underlying35;have g:∀(w:Z3),Rd w (λc=>xz (xj w)<=c/\c<xz (xj w)) (.sl ([]:List V)) (.slice f 0 0):=λw=>.nil _ _ Zdu;by_cases t:l=[];subst t;obtain⟨i,z,Y,hz,a0,d,W,X⟩:=RB (P:=Sol.prog) JN;have hv:∃a c,y=.slice a 0 c:=by
  obtain⟨a,c,e⟩:=Rd.slfT N;exact⟨a,c,by simpa using e⟩
 obtain⟨a,c,rfl⟩:=hv;refine⟨.slice f 0 0,w,?_,Zeh _ _,g w⟩;cases a<;>cases f<;>simp[Builtin.append_,ZeB F,Go.sizeOf,typeInfo,Y,Builtin.lenOf,Builtin.firstCells,loadCells,loadCellsFrom,storeCells]
 have S:0<xq l:=ZfN.2 t;have key:(Builtin.append_ #[35,35] ty #[.slice f 0 0,y]).run Sol.prog w=(Builtin.append_ #[35,35] ty #[.slice xw 0 0,y]).run Sol.prog w:=by
  obtain _|f:=f;rfl;have p:=N;generalize A:l.map vu=L at p;cases p with
  |nil=>simp at A;exact absurd A t
  |sl _ b o cap kk vs d k T U D O=>
   have R:xq L=xq l:=by rw[<-A,Zem]
   have H:kk=1:=by
    obtain⟨x,hx⟩:=Zhs l t;have:=(U (vu x) (by rw[<-A];exact ZfO hx)).1;simpa using this.symm
   subst H;refine append_empty (P:=Sol.prog) F JN f ⟨b,o,xw⟩ _ cap ((List.range (xq L)).map vs) (by rw[Rx];simp) (λj u Q=> ?_) Z0 (by simp only[Y5];omega);have J:j<xq L:=by simpa using(ZdQ.1 Q).1
   have M:vs j=u:=by simpa[J]using Q
   rw[Zfz,<-M];exact D j Z0
 obtain⟨C,h,q,K,d,k,T,_,D⟩:=ql (P:=Sol.prog) (ty:=ty) (B:=xz (xj w)) (n:=0) (xs:=[]) F JN (Zff w _ _ _) (ZdU _) N (by rw[Rx];exact qD _) (by simp only[Y5,Zem];omega);rw[Rx]at d;have I:xq q=xq l:=by have:=d.1;simpa using this
 have O:=B8 D I;rw[O]at d;simp only[Zem,ZeC,ZeR]at d;refine⟨C,h,key.trans K,?_,yE d λc d k=>⟨d,k⟩⟩;have Z:(Value.slice xw 0 0).ownBlock=xw:=rfl;rw[Z]at k;exact Below.grown (Zeh _ _) k (ZdU _) (λr K=>by cases K)
def Z8u{w:Z3}{o:Oper}{a:Act}{K:ZcJ}{Q:Zi}(s x:Operand)
  (p:o.op=.call {callee:=.builtin .append,args:=#[s,x],argTypes:=#[35,35]}) {g:ZcI} {y:Z7} (r:a.eval s=.slice g 0 0) (hx:a.eval x=y)
  {G:Z5} {l:Zc} (n:P l<=1000000) (t:Rd w G (.sl (l.map vu)) y)
  (h:∀f d,Below (U (R w)) w d->Rd d (λc=>U (R w)<=c/\c<U (R d)) (.sl (l.map vu)) f->K (a.put o.dst f) d):o.wp Sol.prog a w K Q:=by
 obtain⟨f,d,q,j,k⟩:=Px g (ty:=o.type) n t;unfold Oper.wp execOp;simp only[p,resolve,invoke,builtin,Zet,ZfH,Zeo,ZhJ,Zeb,Zf9,r,hx,q];exact h f d j k
def Z8q{w:Z3}{ops:Zo}{rest:List Oper}{o:Oper}{a:Act}{Q:Zi}(g:o.guard=xw)(s x:Operand)
  (r:o.op=.call {callee:=.builtin .append,args:=#[s,x],argTypes:=#[35,35]}) {j:ZcI} {y:Z7} (t:a.eval s=.slice j 0 0) (hx:a.eval x=y)
  {G:Z5} {l:Zc} (q:P l<=1000000) (u:Rd w G (.sl (l.map vu)) y)
  (h:∀f d,Below (U (R w)) w d->Rd d (λc=>U (R w)<=c/\c<U (R d)) (.sl (l.map vu)) f->wpList Sol.prog ops Q rest (a.put o.dst f) d):wpList Sol.prog ops Q (o::rest) a w:=
 wpList_plain g λ_ p=>Z8u s x r t hx q u λf d k n=>p _ _ (h f d k n)
def zp(w:Z3){G:Z5}{l:Zc}{y:Z7}(j:P l<=1000000)(f:Rd w G (.sl (l.map vu)) y):
  Calls Sol.prog 73 #[y] w λe d=>∃v,e=.returned v/\Below (U (R w)) w d/\Rd d (λc=>U (R w)<=c/\c<U (R d)) (.sl (l.map vu)) v:=by
 obtain⟨a,c,rfl⟩:=Rd.slfT f;go_enter Sol.func73,Try.ntmps73;go_wp2_with (at_builtin;refine Z8q rfl _ _ rfl rfl rfl j f ?_;intro g d h k)
 exact ZeP (v:=g) (by simp[results,Try.results73,go_sem]) rfl ⟨g,rfl,h,k⟩
section
def QN(K:ZcJ)(Q:Zi):Exit->Act->World->Prop
 |.normal,a,w=>K a w
 |.ret,a,w=>Q .ret a w
 |.outgrown,a,w=>Q .outgrown a w
 |e,a,w=>Q e a w
section
variable {P:Z4}{ops:Zo}{Q:Zi}
def Z8r{i:Nat}{o:Oper}{K:ZcJ}{a:Act}{w:Z3}(k:ops[i]?=xk o)(h:wpList P ops (QN K Q) [o] a w):wpOp P ops Q i K a w:=by
 unfold wpOp;rw[k];simp only;unfold wpList at h;split at h;rename_i f;rw[if_pos f];obtain h|⟨g,j⟩:=h;left;unfold Oper.wp at*;generalize (execOp a.eval o).run P w=r at*;cases r with
 |ok n l=>
  cases n<;>simp only[Oper.upon]at h⊢ <;>
   first
    |exact h
    |exact ZgN h (λe p d=>by cases e<;>exact d)
    |exact Rows.mono h (λ_ _ d=>d)
 |halt x l=>cases x<;>simp only[Oper.upon]at h⊢ <;>exact h
 exact .inr ⟨g,j⟩;rename_i f;rw[if_neg f];exact h
def Z67{id:Nat}{B:Act}{w0:Z3}(X:P.follows .mixedOrders=xy)(y:∀(i:Nat) (o:Oper),ops[i]?=xk o->∀e∈U2 o,e<i)(I:(Nat->Bool)->Act->World->Prop)
  (O:I (λ_=>xh) B {w0 with drawn:=w0.drawn+1})
  (G:∀(L:ZcK) (i:Nat) (o:Oper) (a:Act) (w:Z3),ops[i]?=xk o->L i=xh->(∀j∈U2 o,L j=xy)->I L a w->wpList P ops (QN (I (add L i)) Q) [o] a w)
  (J:∀(L:ZcK) (a:Act) (w:Z3),(∀i,i<ops.size->L i=xy)->I L a w->Q .normal a w):(Code.region id ops xy).wp P Q B w0:=by
 have t:∀(listed:Array Bool) (i:Nat),listed.size=ops.size->i<ops.size->listed.getD i xy=listed.getD i xh:=by
  intro listed i l C;simp[ZdT,l,C]
 have h:∀(listed:Array Bool),listed.size=ops.size->Region.ready .any ops listed=[]->∀i,i<ops.size->listed.getD i xh=xy:=by
  intro listed f z i;induction i using Nat.strongRecOn with
  |_ i H=>
   intro q;cases W:listed.getD i xh with
   |true=>rfl
   |false=>
    have:i∈Region.ready .any ops listed:=ZhW.2 ⟨by rw[t listed i f q];exact W,ops[i],Zek q,λe T S=>by
     have k:=y i ops[i] (Zek q) e.on (Hh T S);exact H e.on k Z0⟩
    rw[z]at this;simp at this
 refine wp_region_any X ?_;have main:∀(d:Nat) (listed:Array Bool) (a:Act) (w:Z3),listed.size=ops.size->Lk ops.size (λi=>listed.getD i xh)<=d->I (λi=>listed.getD i xh) a w->wpAny P .any ops Q d listed a w:=by
  intro d;induction d with
  |zero=>
   intro listed a w f K A;have g:=O1 (Nat.le_zero.1 K);refine⟨?_,J _ a w g A⟩;cases z:Region.ready .any ops listed with
   |nil=>rfl
   |cons i r=>
    have:i∈Region.ready .any ops listed:=by rw[z];simp
    obtain⟨l,o,x,_⟩:=ZhW.1 this;have q:i<ops.size:=(ZdV.1 x).1;rw[t listed i f q,g i q]at l;cases l
  |succ d H=>
   intro listed a w f K A;refine⟨λz=>J _ a w (h listed f z) A,λi q=> ?_⟩;obtain⟨l,o,x,g⟩:=ZhW.1 q;have k:i<ops.size:=(ZdV.1 x).1;rw[t listed i f k]at l;have p:(λj=>(listed.setIfInBounds i xy).getD j xh)=add (λi=>listed.getD i xh) i:=by
    funext j;simp only[add];by_cases u:j=i;subst u;have:j<listed.size:=Z0;simp[ZdT,this];have:(listed.setIfInBounds i xy).getD j xh=listed.getD j xh:=getD_set_ne xh (ZfF u);rw[this];simp[u]
   have Y:=Z8r x (G _ i o a w x l (λj U=>by
    obtain⟨N,C,R,rfl⟩:=EU U;exact g N C R) A)
   refine wpOp_mono (λM Z D=>H _ M Z Zd9 ?_ (by rw[p];exact D)) Y;rw[p];have:=O0 (n:=ops.size) (L:=λi=>listed.getD i xh) k l;omega
 have F:(λi=>(Array.replicate ops.size xh).getD i xh)=λ_=>xh:=by
  funext i;simp only[ZdT,Zhw];split<;>rfl
 refine main _ _ B _ Z1 ?_ (by rw[F];exact O);exact Zes (ZgV _ _) Z1
end
def Qa(a:Act)(l:List (Nat×Value)):Act:= {a with tmps:=l.foldl (λt p=>t.setIfInBounds p.1 p.2) a.tmps}
def Bh(ops:Zo):Bool:=(List.range ops.size).all λi=>match ops[i]? with|some o=>(U2 o).all λe=>decide (e<i)|none=>xy
def Z4D{ops:Zo}(h:Bh ops=xy):∀(i:Nat) (o:Oper),ops[i]?=xk o->∀e∈U2 o,e<i:=by
 intro i o a e d;unfold Bh at h;rw[ZdZ]at h;have:=h i (by simpa using(ZdV.1 a).1);rw[a]at this;simp only[ZdZ,Ze9]at this;exact this e d
def US(a:Act)(d:Zd)(v:Z8):Act:=Qa a (d.map λs=>(s,v s))
def ZG(v:Z8)(s:Nat)(x:Z7):Nat->Value:=λt=>if t=s then x else v t
def R8(v:Z8)(s:Nat)(x:Z7):ZG v s x s=x:=if_pos rfl
def TB(v:Z8){s t:Nat}(x:Z7)(h:t≠s):ZG v s x t=v t:=if_neg h
def MO{P:Z4}{ops:Zo}{Q:Zi}{id:Nat}{d:Act}{w0:Z3}(g:Zd)(C:(Nat->Bool)->(Nat->Value)->World->Prop)
  (t:P.follows .mixedOrders=xy) (f:Bh ops=xy) (l:∃v,d=US d g v/\C (λ_=>xh) v {w0 with drawn:=w0.drawn+1})
  (k:∀(L:ZcK) (i:Nat) (o:Oper) (v:Z8) (w:Z3),ops[i]?=xk o->L i=xh->(∀j∈U2 o,L j=xy)->C L v w->
   wpList P ops (QN (λa w=>∃v,a=US d g v/\C (add L i) v w) Q) [o] (US d g v) w)
  (p:∀(L:ZcK) (v:Z8) (w:Z3),(∀i,i<ops.size->L i=xy)->C L v w->Q .normal (US d g v) w):(Code.region id ops xy).wp P Q d w0:=by
 refine Z67 t (Z4D f) (λL a w=>∃v,a=US d g v/\C L v w) l ?_ ?_;rintro L i o _ w u q r ⟨v,rfl,h⟩;exact k L i o v w u q r h;rintro L _ w n ⟨v,rfl,h⟩;exact p L v w n h
def LB(L:ZcK)(i:Nat):add L i i=xy:=by simp[add]
def WD{L:ZcK}{i j:Nat}(h:j≠i):add L i j=L j:=by simp[add,h]
end
section
def Xb{v:Z8}{s:Nat}{x:Z7}(h:v s=x):ZG v s x=v:=by
 funext t;unfold ZG;by_cases e:t=s;rw[if_pos e,e,h];rw[if_neg e]
def Ul(h:Hp)(i:Nat):List Int:=if i=9 then h.low else if i=12 then h.high else h.roots
def U5(h:Hp)(y:Z8):Array Value:=#[.int .u64 h.base,.int .i64 h.cap,.int .i64 (1-h.to),.bool xh,.int .i64 0,.slice xw 0 0,.slice xw 0 0,y 9,y 12,y 15]
def Yv(bh:Nat)(h:Hp)(src:Z8):Nat->Value
 |0=>.pointer (xk ⟨bh,0,xw⟩)
 |1=>.int .u64 h.base
 |2=>.pointer (xk ⟨bh,1,xw⟩)
 |3=>.int .i64 h.cap
 |4=>.pointer (xk ⟨bh,2,xw⟩)
 |5=>.int .i64 h.to
 |6=>.int .i64 (1-h.to)
 |7=>.pointer (xk ⟨bh,5,xw⟩)
 |8=>src 0
 |10=>.pointer (xk ⟨bh,6,xw⟩)
 |11=>src 1
 |13=>.pointer (xk ⟨bh,9,xw⟩)
 |14=>src 4
 |_=>undef
def YV(i:Nat):Prop:=i<15/\i≠9/\i≠12
def Xs(i:Nat):Prop:=i=9\/i=12\/i=15
def V0(W0 W:Z3)(L:ZcK)(v:Z8)(b:Nat):Prop:=U (R W0)<=b/\b<U (R W)/\(L 17=xy->v 4≠.pointer (xk ⟨b,0,xw⟩))
structure FlC (W0:World) (bh:Nat) (h:Hp) (src:Nat->Value) (L:Nat->Bool) (v:Nat->Value) (W:World):Prop where
 b:Below (U (R W0)) W0 W
 eq:∀i,YV i->L i=xy->v (16+i)=Yv bh h src i
 rd:∀i,Xs i->L i=xy->Rd W (V0 W0 W L v) (.sl ((Ul h i).map vu)) (v (16+i))
 agg:L 16=xy->∃y,v 32=.agg (U5 h y)/\∀i,Xs i->Rd W (V0 W0 W L v) (.sl ((Ul h i).map vu)) (y i)
 new:L 17=xy->∃c,v 4=.pointer (xk ⟨c,0,xw⟩)/\U (R W0)<=c/\c<U (R W)/\(L 18=xh->W.heap[c]?=xk (.cells ZW 37 (0,0)))
 put:L 18=xy->∃c y,v 4=.pointer (xk ⟨c,0,xw⟩)/\U (R W0)<=c/\W.heap[c]?=xk (.cells (U5 h y) 37 (0,0))/\∀i,Xs i->Rd W (V0 W0 W L v) (.sl ((Ul h i).map vu)) (y i)
 c18:L 18=xy->L 17=xy
section
variable {W0 W W':Z3}{bh:Nat}{h:Hp}{src:Z8}{L:ZcK}{v:Z8}
def FlC.step(C:FlC W0 bh h src L v W){i s:Nat}(M:i<17)(J:s=16+i){x:Z7}(q:Below (U (R W)) W W')(H:YV i->x=Yv bh h src i)
  (I:Xs i->Rd W' (λb=>U (R W)<=b/\b<U (R W')) (.sl ((Ul h i).map vu)) x) (G:i=16->∃y,x=.agg (U5 h y)/\∀j,Xs j->Rd W (V0 W0 W L v) (.sl ((Ul h j).map vu)) (y j)):FlC W0 bh h src (add L i) (ZG v s x) W':=by
 subst J;have o:add L i 18=L 18:=WD Z0;have k:add L i 17=L 17:=WD Z0;have v4:ZG v (16+i) x 4=v 4:=TB v x Z0;have B:∀b,V0 W0 W L v b->b<U (R W)/\V0 W0 W' (add L i) (ZG v (16+i) x) b:=λb d=>by
  obtain⟨D,A,F⟩:=d;refine⟨A,D,Ze1 A q.size,?_⟩;rw[k,v4];exact F
 have t:∀ {u:V} {z:Z7},Rd W (V0 W0 W L v) u z->Rd W' (V0 W0 W' (add L i) (ZG v (16+i) x)) u z:=λK=>K.keep (λb d=>q.block b (B b d).1) λb d=>(B b d).2;refine⟨C.b.trans (q.mono C.b.size),λj f a=> ?_,λj f a=> ?_,λa=> ?_,λa=> ?_,λa=> ?_,λa=> ?_⟩;by_cases e:j=i;subst e;rw[R8];exact H f;rw[WD e]at a;rw[TB v x Z0];exact C.eq j f a;by_cases e:j=i;subst e;rw[R8];refine(I f).mono λb d=> ?_;refine⟨Zes C.b.size d.1,d.2,λl=> ?_⟩;rw[k]at l;rw[v4];obtain⟨c,g,_,p,_⟩:=C.new l;rw[g];intro r;cases r;omega;rw[WD e]at a;rw[TB v x Z0];exact t (C.rd j f a);by_cases e:i=16;subst e;obtain⟨y,g,n⟩:=G rfl;exact⟨y,by rw[<-g];exact R8 _ _ _,λj f=>t (n j f)⟩;rw[WD (ZfF e)]at a;obtain⟨y,g,n⟩:=C.agg a;exact⟨y,by rw[TB v x Z0];exact g,λj f=>t (n j f)⟩;rw[k]at a;obtain⟨c,g,n,p,r⟩:=C.new a;refine⟨c,by rw[v4];exact g,n,Ze1 p q.size,λw=> ?_⟩;rw[o]at w;exact(q.block c p).trans (r w);rw[o]at a;obtain⟨c,y,g,n,p,r⟩:=C.put a;exact⟨c,y,by rw[v4];exact g,n,(q.block c (YC p)).trans p,λj f=>t (r j f)⟩;rw[o]at a;rw[k];exact C.c18 a
def FlC.pure(C:FlC W0 bh h src L v W){i s:Nat}(a:YV i)(g:s=16+i){x:Z7}(f:x=Yv bh h src i):FlC W0 bh h src (add L i) (ZG v s x) W:=
 C.step (by unfold YV at a;omega) g (Zeh _ _) (λ_=>f) (λd=>by unfold YV at a;unfold Xs at d;omega) (λe=>by unfold YV at a;omega)
def FlC.call(C:FlC W0 bh h src L v W){i s:Nat}(a:Xs i)(j:s=16+i){x:Z7}(f:Below (U (R W)) W W')(g:Rd W' (λb=>U (R W)<=b/\b<U (R W')) (.sl ((Ul h i).map vu)) x):FlC W0 bh h src (add L i) (ZG v s x) W':=
 C.step (by unfold Xs at a;omega) j f (λd=>by unfold YV at d;unfold Xs at a;omega) (λ_=>g) (λe=>by unfold Xs at a;omega)
def FlC.built(C:FlC W0 bh h src L v W)(k:L 9=xy)(f:L 12=xy)(g:L 15=xy):FlC W0 bh h src (add L 16) (ZG v 32 (.agg (U5 h λi=>v (16+i)))) W:=
 C.step Z0 rfl (Zeh _ _) (λa=>by unfold YV at a;omega) (λa=>by unfold Xs at a;omega) λ_=>⟨_,rfl,λj d=>C.rd j d (by unfold Xs at d;obtain rfl|rfl|rfl:=d<;>assumption)⟩
def FlC.alloc(C:FlC W0 bh h src L v W)(g:L 17=xh):FlC W0 bh h src (add L 17) (ZG v 4 (.pointer (xk ⟨U (R W),0,xw⟩))) (W.alloc (.cells ZW 37)):=by
 have k:L 18=xh:=by
  cases e:L 18 with
  |false=>rfl
  |true=>have:=C.c18 e;rw[g]at this;cases this
 have o:Below (U (R W)) W (W.alloc (.cells ZW 37)):=(Zeh _ _).alloc (ZdU _) _;have p:U (R (W.alloc (.cells ZW 37)))=U (R W)+1:=Z1;have n:∀b,V0 W0 W L v b->b<U (R W)/\V0 W0 (W.alloc (.cells ZW 37)) (add L 17) (ZG v 4 (.pointer (xk ⟨U (R W),0,xw⟩))) b:=λb d=>by
  obtain⟨w,x,A⟩:=d;refine⟨x,w,Z0,λ_=> ?_⟩;rw[R8];intro e;cases e;omega
 have q:∀ {u:V} {z:Z7},Rd W (V0 W0 W L v) u z->Rd (W.alloc (.cells ZW 37)) (V0 W0 (W.alloc (.cells ZW 37)) (add L 17) (ZG v 4 (.pointer (xk ⟨U (R W),0,xw⟩)))) u z:=λp=>p.keep (λb d=>o.block b (n b d).1) λb d=>(n b d).2;refine⟨C.b.trans (o.mono C.b.size),λj f a=> ?_,λj f a=> ?_,λa=> ?_,λa=> ?_,λa=> ?_,λa=> ?_⟩;have l:j<15:=f.1;rw[WD Z0]at a;rw[TB _ _ Z0];exact C.eq j f a;have l:j<17:=by unfold Xs at f;omega
 rw[WD Z0]at a;rw[TB _ _ Z0];exact q (C.rd j f a);rw[WD Z0]at a;obtain⟨y,r,t⟩:=C.agg a;exact⟨y,by rw[TB _ _ Z0];exact r,λj f=>q (t j f)⟩;exact⟨U (R W),R8 _ _ _,C.b.size,Z0,λ_=>Zej W _⟩;rw[WD Z0,k]at a;cases a;exact LB _ _
def FlC.store(C:FlC W0 bh h src L v W){c:Nat}(hc:v 4=.pointer (xk ⟨c,0,xw⟩)){y:Z8}(M:v 32=.agg (U5 h y))(g:L 17=xy)(l:L 16=xy)(Q:L 18=xh)(D:W.heap[c]?=xk (.cells ZW 37 (0,0)))
  (I:∀b,b≠c->W'.heap[b]?=W.heap[b]?) (R:xz (xj W')=xz (xj W)) (K:W'.heap[c]?=xk (.cells (U5 h y) 37 (0,0))) (J:Below (xz (xj W0)) W W'):FlC W0 bh h src (add L 18) v W':=by
 have k:add L 18 17=L 17:=WD Z0;have A:∀b,V0 W0 W L v b->b≠c/\V0 W0 W' (add L 18) v b:=λb a=>by
  obtain⟨H,P,x⟩:=a;refine⟨λe=> ?_,H,Z0,by rw[k];exact x⟩;subst e;exact x g hc
 have r:∀ {u:V} {z:Z7},Rd W (V0 W0 W L v) u z->Rd W' (V0 W0 W' (add L 18) v) u z:=λD=>D.keep (λb a=>I b (A b a).1) λb a=>(A b a).2;obtain⟨N,n,o,O,_⟩:=C.new g;rw[hc]at n;cases n;refine⟨C.b.trans J,λj d f=> ?_,λj d f=> ?_,λf=> ?_,λf=> ?_,λf=> ?_,λf=>by rw[k];exact g⟩;have p:j<15:=d.1;rw[WD Z0]at f;exact C.eq j d f;have p:j<17:=by unfold Xs at d;omega
 rw[WD Z0]at f;exact r (C.rd j d f);obtain⟨y,n,o⟩:=C.agg l;exact⟨y,n,λj d=>r (o j d)⟩;refine⟨c,hc,o,Z0,λw=> ?_⟩;rw[LB]at w;cases w;obtain⟨F,t,G⟩:=C.agg l;rw[M]at t;have q:∀i,Xs i->F i=y i:=λi B=>by
  have e:U5 h y=U5 h F:=by injection t
  unfold U5 at e;unfold Xs at B;simp at e;obtain rfl|rfl|rfl:=B;exact e.1.symm;exact e.2.1.symm;exact e.2.2.symm
 exact⟨c,y,hc,o,K,λj d=>by rw[<-q j d];exact r (G j d)⟩
end
end
end Vm
end
